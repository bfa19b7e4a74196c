/-
  A part of a proof: see the last text of this claim.
-/
import Derived.Test.YtljdbieojelmjaaGreatPC
import Derived.Lib.IndexMore
set_option linter.unusedVariables false
set_option linter.unusedSimpArgs false
namespace Go.Sim.W
open Go Go.Sim
def R (l:List AIns) (k kl:List Nat):AC:=.reg l [] k kl
abbrev Z0:List AV:=[.lit (.int .i64 0),.slice .full 7 [],.slice .full 1 [],.lit (.int .i64 0),.lit (.int .i64 0),.lit (.int .i64 0),.slice .full 3 [],.slice .full 2 [],.lit (.int .i64 0),.lit (.int .i64 0),.lit (.int .i64 0),.lit (.int .i64 0),.slice .full 1 [],.lit (.int .i64 0),.lit (.bool false)]
abbrev Z1:List AV:=[.lit (.int .i64 0),.lit (.int .i64 0),.lit (.int .i64 0),.lit (.int .i64 0),.lit (.int .i64 0),.slice .full 1 [],.slice .full 1 []]
abbrev Z2:List AV:=[.lit (.int .i64 0),.lit (.int .i64 0),.slice .full 1 [],.lit (.int .i64 0)]
abbrev Z3:List AV:=[.lit (.int .i64 0),.lit (.int .i64 0),.slice .full 2 []]
abbrev Z4:List AV:=[.lit (.int .i64 0),.slice .full 7 [],.slice .full 1 []]
abbrev Z5:List AV:=[.lit (.string ⟨#[]⟩),.lit (.string ⟨#[]⟩)]
abbrev Z6:List AV:=[.lit (.bool false),.lit (.int .i64 0)]
abbrev Z7:List AV:=[.lit (.int .i64 0),.slice .full 3 []]
def ii (n:Nat) (o:AOp):AIns:=⟨some n,none,o⟩
def it (n g:Nat) (o:AOp):AIns:=⟨some n,some (g,true),o⟩
def iF (n g:Nat) (o:AOp):AIns:=⟨some n,some (g,false),o⟩
def cl (f:Nat) (l:List Nat):AOp:=.call (.f f) (l.map .t)
def jm (d:Nat) (a:Nat):AIns:=⟨some d,none,.mv (.t a)⟩
def jtm (d:Nat) (g:Nat) (a:Nat):AIns:=⟨some d,some (g,true),.mv (.t a)⟩
def jfm (d:Nat) (g:Nat) (a:Nat):AIns:=⟨some d,some (g,false),.mv (.t a)⟩
def ja (d:Nat) (k:Nat) (a:Nat):AIns:=⟨some d,none,.fa k (.t a)⟩
def jta (d:Nat) (g:Nat) (k:Nat) (a:Nat):AIns:=⟨some d,some (g,true),.fa k (.t a)⟩
def jfa (d:Nat) (g:Nat) (k:Nat) (a:Nat):AIns:=⟨some d,some (g,false),.fa k (.t a)⟩
def jl (d:Nat) (a:Nat):AIns:=⟨some d,none,.ld false none (.t a)⟩
def jtl (d:Nat) (g:Nat) (a:Nat):AIns:=⟨some d,some (g,true),.ld false none (.t a)⟩
def jfl (d:Nat) (g:Nat) (a:Nat):AIns:=⟨some d,some (g,false),.ld false none (.t a)⟩
def jL (d:Nat) (a:Nat):AIns:=⟨some d,none,.ld true none (.t a)⟩
def jtL (d:Nat) (g:Nat) (a:Nat):AIns:=⟨some d,some (g,true),.ld true none (.t a)⟩
def jfL (d:Nat) (g:Nat) (a:Nat):AIns:=⟨some d,some (g,false),.ld true none (.t a)⟩
def jk (d:Nat) (k:Nat) (a:Nat):AIns:=⟨some d,none,.ld false (some k) (.t a)⟩
def jtk (d:Nat) (g:Nat) (k:Nat) (a:Nat):AIns:=⟨some d,some (g,true),.ld false (some k) (.t a)⟩
def jfk (d:Nat) (g:Nat) (k:Nat) (a:Nat):AIns:=⟨some d,some (g,false),.ld false (some k) (.t a)⟩
def jK (d:Nat) (k:Nat) (a:Nat):AIns:=⟨some d,none,.ld true (some k) (.t a)⟩
def jtK (d:Nat) (g:Nat) (k:Nat) (a:Nat):AIns:=⟨some d,some (g,true),.ld true (some k) (.t a)⟩
def jc (d:Nat) (k:Int):AIns:=⟨some d,none,.mv (.c (.lit (.int .i64 k)))⟩
def jf_ (d:Nat):AIns:=⟨some d,none,.mv (.c (.lit (.bool false)))⟩
def jp (d:Nat) (a:Nat) (b:Nat):AIns:=⟨some d,none,.pick (.t a) (.t b) (.c (.lit (.bool false)))⟩
def jfp (d:Nat) (g:Nat) (a:Nat) (b:Nat):AIns:=⟨some d,some (g,false),.pick (.t a) (.t b) (.c (.lit (.bool false)))⟩
def jP (d:Nat) (a:Nat) (b:Nat):AIns:=⟨some d,none,.pick (.t a) (.c (.lit (.bool true))) (.t b)⟩
def jtP (d:Nat) (g:Nat) (a:Nat) (b:Nat):AIns:=⟨some d,some (g,true),.pick (.t a) (.c (.lit (.bool true))) (.t b)⟩
def jA (d:Nat) (a:Nat) (k:Int):AIns:=⟨some d,none,.bin .add (.t a) (.c (.lit (.int .i64 k)))⟩
def je (d:Nat) (a:Nat) (k:Int):AIns:=⟨some d,none,.bin .eql (.t a) (.c (.lit (.int .i64 k)))⟩
def jte (d:Nat) (g:Nat) (a:Nat) (k:Int):AIns:=⟨some d,some (g,true),.bin .eql (.t a) (.c (.lit (.int .i64 k)))⟩
def jfe (d:Nat) (g:Nat) (a:Nat) (k:Int):AIns:=⟨some d,some (g,false),.bin .eql (.t a) (.c (.lit (.int .i64 k)))⟩
def jq (d:Nat) (a:Nat) (b:Nat):AIns:=⟨some d,none,.bin .lss (.t a) (.t b)⟩
def jtq (d:Nat) (g:Nat) (a:Nat) (b:Nat):AIns:=⟨some d,some (g,true),.bin .lss (.t a) (.t b)⟩
def jx (d:Nat) (k:Nat) (a:Nat) (b:Nat):AIns:=⟨some d,none,.ia k (.t a) (.t b)⟩
def jtx (d:Nat) (g:Nat) (k:Nat) (a:Nat) (b:Nat):AIns:=⟨some d,some (g,true),.ia k (.t a) (.t b)⟩
def jfx (d:Nat) (g:Nat) (k:Nat) (a:Nat) (b:Nat):AIns:=⟨some d,some (g,false),.ia k (.t a) (.t b)⟩
def jg (d:Nat) (a:Nat):AIns:=⟨some d,none,.len false (.t a)⟩
def jtg (d:Nat) (g:Nat) (a:Nat):AIns:=⟨some d,some (g,true),.len false (.t a)⟩
def jfg (d:Nat) (g:Nat) (a:Nat):AIns:=⟨some d,some (g,false),.len false (.t a)⟩
def jh (d:Nat) (a:Nat):AIns:=⟨some d,none,.nck (.t a)⟩
def jth (d:Nat) (g:Nat) (a:Nat):AIns:=⟨some d,some (g,true),.nck (.t a)⟩
def jfh (d:Nat) (g:Nat) (a:Nat):AIns:=⟨some d,some (g,false),.nck (.t a)⟩
def ju (d:Nat) (a:Nat):AIns:=⟨some d,none,.unot (.t a)⟩
def jtu (d:Nat) (g:Nat) (a:Nat):AIns:=⟨some d,some (g,true),.unot (.t a)⟩
def jfu (d:Nat) (g:Nat) (a:Nat):AIns:=⟨some d,some (g,false),.unot (.t a)⟩
def jb (d:Nat) (a:Nat):AIns:=⟨some d,none,.box true (.t a)⟩
def jz (d:Nat) (a:Nat) (k:Nat):AIns:=⟨some d,none,.ext (.t a) k⟩
def jns (k:Nat) (a:Nat) (b:Nat):AIns:=⟨none,none,.st false k (.t a) (.t b)⟩
def jnS (k:Nat) (a:Nat) (b:Nat):AIns:=⟨none,none,.st true k (.t a) (.t b)⟩
def jB (d:Nat) (k:Nat) (a:Nat):AIns:=⟨some d,none,.bsl k [.t a]⟩
def N3_:Nat:=3
def N4_:Nat:=4
def N5_:Nat:=5
def N6_:Nat:=6
def N7_:Nat:=7
def N8_:Nat:=8
def N9_:Nat:=9
def N10_:Nat:=10
def N11_:Nat:=11
def N12_:Nat:=12
def N13_:Nat:=13
def N14_:Nat:=14
def N15_:Nat:=15
def N16_:Nat:=16
def N17_:Nat:=17
def N18_:Nat:=18
def N19_:Nat:=19
def N20_:Nat:=20
def N21_:Nat:=21
def N22_:Nat:=22
def N23_:Nat:=23
def N24_:Nat:=24
def N25_:Nat:=25
def N26_:Nat:=26
def N27_:Nat:=27
def N28_:Nat:=28
def N29_:Nat:=29
def N30_:Nat:=30
def N31_:Nat:=31
def N32_:Nat:=32
def N33_:Nat:=33
def N34_:Nat:=34
def N35_:Nat:=35
def N36_:Nat:=36
def N37_:Nat:=37
def N38_:Nat:=38
def N39_:Nat:=39
def N40_:Nat:=40
def N41_:Nat:=41
def N42_:Nat:=42
def N43_:Nat:=43
def N44_:Nat:=44
def N45_:Nat:=45
def N46_:Nat:=46
def N47_:Nat:=47
def N48_:Nat:=48
def N49_:Nat:=49
def N50_:Nat:=50
def N51_:Nat:=51
def N52_:Nat:=52
def N53_:Nat:=53
def N54_:Nat:=54
def N55_:Nat:=55
def N56_:Nat:=56
def N57_:Nat:=57
def N58_:Nat:=58
def N59_:Nat:=59
def N60_:Nat:=60
def N61_:Nat:=61
def N62_:Nat:=62
def N63_:Nat:=63
def N64_:Nat:=64
def N65_:Nat:=65
def N66_:Nat:=66
def N67_:Nat:=67
def N68_:Nat:=68
def N69_:Nat:=69
def N70_:Nat:=70
def N71_:Nat:=71
def N72_:Nat:=72
def N73_:Nat:=73
def N74_:Nat:=74
def N75_:Nat:=75
def N76_:Nat:=76
def N77_:Nat:=77
def N78_:Nat:=78
def N79_:Nat:=79
def N80_:Nat:=80
def N81_:Nat:=81
def N82_:Nat:=82
def N83_:Nat:=83
def N84_:Nat:=84
def N85_:Nat:=85
def N86_:Nat:=86
def N87_:Nat:=87
def N88_:Nat:=88
def N89_:Nat:=89
def N90_:Nat:=90
def N91_:Nat:=91
def N92_:Nat:=92
def N93_:Nat:=93
def N94_:Nat:=94
def N95_:Nat:=95
def N96_:Nat:=96
def N97_:Nat:=97
def N98_:Nat:=98
def N99_:Nat:=99
def N100_:Nat:=100
def N101_:Nat:=101
def N102_:Nat:=102
def N103_:Nat:=103
def N104_:Nat:=104
def N105_:Nat:=105
def N106_:Nat:=106
def N107_:Nat:=107
def N108_:Nat:=108
def N109_:Nat:=109
def N110_:Nat:=110
def N111_:Nat:=111
def N114_:Nat:=114
def N115_:Nat:=115
def N116_:Nat:=116
def N117_:Nat:=117
def N119_:Nat:=119
def N120_:Nat:=120
def N121_:Nat:=121
def N123_:Nat:=123
def F3_r0:List AIns:=[jb 5 0,jf_ 10]
def F3_r1:List AIns:=[jk 16 3 5,jm 17 3,jm 18 4,ii 19 (cl N5_ [16,17,18]),ju 20 19]
def F3_r2:List AIns:=[ii 21 (cl N6_ []),jm 10 21]
def F3_r3:List AIns:=[jk 23 3 5,jm 24 1,jm 25 2,jm 26 3,jm 27 4,ii 28 (cl N7_ [23,24,25,26,27]),jm 22 28,jz 29 22 0,jz 30 22 1,ii 11 (.alloc true Z2),jns 4 11 29,jm 12 30]
def F3_r4:List AIns:=[jk 32 3 5,jm 33 1,jm 34 2,jm 35 3,jm 36 4,ii 37 (cl N8_ [32,33,34,35,36]),jm 31 37,jz 38 31 0,jz 39 31 1,jm 13 38,jm 14 39]
def F3_r5:List AIns:=[jk 40 3 5,jm 41 1,jm 42 2,jm 43 3,jm 44 4,ii 45 (cl N9_ [40,41,42,43,44]),jm 15 45]
def F3_r6:List AIns:=[jm 46 15,ii 47 (.bin .neq (.t 46) (.c (.lit (.int .i64 0))))]
def F3_r7:List AIns:=[jm 48 12,jm 49 15,ii 50 (.bin .eql (.t 48) (.t 49)),jm 51 50,jtk 52 51 4 11,it 53 51 (.build Z2 []),it 54 51 (cl N10_ [52,53]),jp 55 51 54,jm 56 55,jtm 57 56 14,jtm 58 56 15,it 59 56 (.bin .eql (.t 57) (.t 58)),jp 60 56 59,jm 61 60,jtm 62 61 13,it 63 61 (.peq false (.t 62) (.c (.lit (.pointer none)))),jp 64 61 63,jm 65 64,it 66 65 (cl N6_ []),jp 67 65 66,jm 10 67]
def F3_r8:List AIns:=[jm 68 12,ii 69 (.bin .neq (.t 68) (.c (.lit (.int .i64 0)))),jm 70 69,jfm 71 70 14,iF 72 70 (.bin .neq (.t 71) (.c (.lit (.int .i64 0)))),jP 73 70 72,jm 74 73,jfm 75 74 13,iF 76 74 (.peq false (.t 75) (.c (.lit (.pointer none)))),jP 77 74 76]
def F3_r9:List AIns:=[jf_ 10]
def F3_r10:List AIns:=[jk 78 4 11,jk 79 3 5,jm 80 1,jm 81 2,jm 82 3,jm 83 4,ii 84 (cl N12_ [79,80,81,82,83]),ii 85 (cl N11_ [84]),ii 86 (.fld 10 (some 4) (.t 85)),ii 87 (cl N10_ [78,86]),jm 88 87,it 89 88 (cl N6_ []),jp 90 88 89,jm 10 90]
def F3_:AFun:=⟨5,.seq (R F3_r0 [1,2,3,4,5] [5]) (.seq (.seq (R F3_r1 [1,2,3,4,5,20] [5]) (.cond (.t 20) (.seq (R F3_r2 [10] []) (.ret)) (.skip))) (.seq (R F3_r3 [1,2,3,4,5,11,12] [5,11]) (.seq (R F3_r4 [1,2,3,4,5,11,12,13,14] [5,11]) (.seq (.seq (R F3_r5 [1,2,3,4,5,11,12,13,14,15] [5,11]) (.seq (R F3_r6 [1,2,3,4,5,11,12,13,14,15,47] [5,11]) (.cond (.t 47) (.seq (R F3_r7 [10] []) (.ret)) (.skip)))) (.seq (.seq (R F3_r8 [1,2,3,4,5,11,77] [5,11]) (.cond (.t 77) (.seq (R F3_r9 [10] []) (.ret)) (.skip))) (.seq (R F3_r10 [10] []) (.ret))))))),[.t 10]⟩
def F4_r0:List AIns:=[jb 6 0,jf_ 12]
def F4_r1:List AIns:=[jk 20 3 6,jm 21 3,jm 22 4,ii 23 (cl N5_ [20,21,22]),ju 24 23,jm 25 24,jfm 26 25 5,jfg 27 25 26,iF 28 25 (.bin .gtr (.t 27) (.c (.lit (.int .i64 100)))),jP 29 25 28,jm 30 29,jfk 31 30 3 6,jfm 32 30 1,jfm 33 30 2,jfm 34 30 3,jfm 35 30 4,iF 36 30 (cl N9_ [31,32,33,34,35]),iF 37 30 (.bin .neq (.t 36) (.c (.lit (.int .i64 0)))),jP 38 30 37]
def F4_r2:List AIns:=[ii 39 (cl N6_ []),jm 12 39]
def F4_r3:List AIns:=[jk 41 3 6,jm 42 1,jm 43 2,jm 44 3,jm 45 4,ii 46 (cl N8_ [41,42,43,44,45]),jm 40 46,jz 47 40 0,jz 48 40 1,jm 13 47,jm 14 48]
def F4_r4:List AIns:=[jk 49 3 6,jm 50 1,jm 51 2,jm 52 3,jm 53 4,ii 54 (cl N12_ [49,50,51,52,53]),ii 15 (.alloc true Z0),jns 15 15 54]
def F4_r5:List AIns:=[jm 55 14,ii 56 (.bin .neq (.t 55) (.c (.lit (.int .i64 0)))),jm 57 56,jfm 58 57 13,iF 59 57 (.peq false (.t 58) (.c (.lit (.pointer none)))),jP 60 57 59,jm 61 60,jfm 62 61 13,jfk 63 61 15 15,iF 64 61 (cl N13_ [62,63]),jfu 65 61 64,jP 66 61 65]
def F4_r6:List AIns:=[jf_ 12]
def F4_r7:List AIns:=[jm 67 5,jg 68 67,jc 69 0]
def F4_r8:List AIns:=[jq 70 69 68]
def F4_r9:List AIns:=[jx 71 1 67 69,jk 72 1 71,ii 17 (.alloc true [.lit (.int .i64 0)]),jns 1 17 72]
def F4_r10:List AIns:=[ja 73 0 17,jl 74 73,ii 75 (.bin .lss (.t 74) (.c (.lit (.int .i64 0)))),jm 76 75,jfa 77 76 0 17,jfl 78 76 77,iF 79 76 (.bin .gtr (.t 78) (.c (.lit (.int .i64 1)))),jP 80 76 79]
def F4_r11:List AIns:=[jm 81 13,jm 18 81]
def F4_r12:List AIns:=[jm 82 13,ii 83 (cl N14_ [82]),jm 13 83]
def F4_r13:List AIns:=[jm 84 13,ii 85 (.peq false (.t 84) (.c (.lit (.pointer none)))),jm 86 85,jfm 87 86 18,jfk 88 86 15 15,iF 89 86 (cl N13_ [87,88]),jfu 90 86 89,jP 91 86 90]
def F4_r14:List AIns:=[jf_ 12]
def F4_r15:List AIns:=[jm 92 18,ii 93 (cl N15_ [92])]
def F4_r16:List AIns:=[jm 94 18,ii 95 (cl N16_ [94])]
def F4_r17:List AIns:=[jf_ 19]
def F4_r18:List AIns:=[jm 97 13,jk 98 15 15,jk 99 1 17,ii 100 (cl N17_ [97,98,99]),jm 96 100,jz 101 96 0,jz 102 96 1,jns 15 15 101,jm 19 102]
def F4_r19:List AIns:=[jm 103 19,ju 104 103,jm 105 104,jfm 106 105 13,jfk 107 105 15 15,iF 108 105 (cl N13_ [106,107]),jfu 109 105 108,jP 110 105 109]
def F4_r20:List AIns:=[jf_ 12]
def F4_r21:List AIns:=[jA 111 69 1,jm 69 111]
def F4_l1:AC:=.seq (R F4_r8 [13,15,67,68,69,70] [15]) (.seq (.cond (.t 70) (.skip) (.exit 0)) (.seq (.block 1 (.seq (R F4_r9 [13,15,17,67,68,69] [15,17]) (.seq (.seq (R F4_r10 [13,15,17,67,68,69,80] [15,17]) (.cond (.t 80) (.seq (R F4_r11 [13,15,17,18,67,68,69] [15,17]) (.seq (R F4_r12 [13,15,17,18,67,68,69] [15,17]) (.seq (.seq (R F4_r13 [13,15,17,18,67,68,69,91] [15,17]) (.cond (.t 91) (.seq (R F4_r14 [12] []) (.ret)) (.skip))) (.seq (R F4_r15 [13,15,17,18,67,68,69] [15,17]) (R F4_r16 [13,15,17,67,68,69] [15,17]))))) (.skip))) (.seq (R F4_r17 [13,15,17,67,68,69] [15,17]) (.seq (R F4_r18 [13,15,19,67,68,69] [15]) (.seq (R F4_r19 [13,15,67,68,69,110] [15]) (.cond (.t 110) (.seq (R F4_r20 [12] []) (.ret)) (.skip)))))))) (R F4_r21 [13,15,67,68,69] [15])))
def F4_r22:List AIns:=[ii 112 (cl N6_ []),jm 12 112]
def F4_:AFun:=⟨6,.seq (R F4_r0 [1,2,3,4,5,6] [6]) (.seq (.seq (R F4_r1 [1,2,3,4,5,6,38] [6]) (.cond (.t 38) (.seq (R F4_r2 [12] []) (.ret)) (.skip))) (.seq (R F4_r3 [1,2,3,4,5,6,13,14] [6]) (.seq (R F4_r4 [5,13,14,15] [15]) (.seq (.seq (R F4_r5 [5,13,15,66] [15]) (.cond (.t 66) (.seq (R F4_r6 [12] []) (.ret)) (.skip))) (.seq (.seq (R F4_r7 [13,15,67,68,69] [15]) (.block 0 (.loop F4_l1))) (.seq (R F4_r22 [12] []) (.ret))))))),[.t 12]⟩
def F5_r0:List AIns:=[jb 3 0,jf_ 6]
def F5_r1:List AIns:=[ja 7 1 3,jl 8 7,jg 9 8,ii 10 (.bin .leq (.t 9) (.c (.lit (.int .i64 200)))),jm 11 10,jfk 12 11 3 3,iF 13 11 (cl N18_ [12]),jfu 14 11 13,jP 15 11 14,jm 16 15,jtm 17 16 1,it 18 16 (.bin .leq (.t 17) (.c (.lit (.int .i64 600)))),jtm 19 16 18,jfm 20 19 1,iF 21 19 (.bin .gtr (.t 20) (.c (.lit (.int .i64 1048576)))),jtP 22 16 19 21,jp 23 16 22,jm 24 23,jtm 25 24 2,jtg 26 24 25,it 27 24 (.bin .leq (.t 26) (.c (.lit (.int .i64 200)))),jp 28 24 27,jm 6 28]
def F5_:AFun:=⟨3,.seq (R F5_r0 [1,2,3] [3]) (.seq (R F5_r1 [6] []) (.ret)),[.t 6]⟩
def F6_r0:List AIns:=[jf_ 0]
def F6_r1:List AIns:=[ii 12 (cl N19_ []),ii 13 (.bsl 1 [(.c (.lit (.int .i64 4)))]),ii 14 (.call (.f N7_) [(.t 12),(.c (.lit (.int .i64 0))),(.c (.lit (.int .i64 0))),(.c (.lit (.int .i64 100))),(.t 13)]),jm 11 14,jz 15 11 0,jz 16 11 1,ii 1 (.alloc true Z2),jns 4 1 15,jm 2 16]
def F6_r2:List AIns:=[ii 18 (cl N20_ []),ii 19 (.call (.f N7_) [(.t 18),(.c (.lit (.int .i64 2))),(.c (.lit (.int .i64 0))),(.c (.lit (.int .i64 50))),(.c (.slice .full 1 []))]),jm 17 19,jz 20 17 0,jz 21 17 1,ii 3 (.alloc true Z2),jns 4 3 20,jm 4 21]
def F6_r3:List AIns:=[ii 23 (cl N20_ []),ii 24 (.call (.f N7_) [(.t 23),(.c (.lit (.int .i64 1))),(.c (.lit (.int .i64 0))),(.c (.lit (.int .i64 50))),(.c (.slice .full 1 []))]),jm 22 24,jz 25 22 0,jz 26 22 1,ii 5 (.alloc true Z2),jns 4 5 25,jm 6 26]
def F6_r4:List AIns:=[ii 28 (cl N19_ []),ii 29 (.bsl 1 [(.c (.lit (.int .i64 4)))]),ii 30 (.call (.f N8_) [(.t 28),(.c (.lit (.int .i64 0))),(.c (.lit (.int .i64 0))),(.c (.lit (.int .i64 100))),(.t 29)]),jm 27 30,jz 31 27 0,jz 32 27 1,jm 7 31,jm 8 32]
def F6_r5:List AIns:=[ii 34 (.build Z4 []),ii 35 (.call (.f N8_) [(.t 34),(.c (.lit (.int .i64 0))),(.c (.lit (.int .i64 0))),(.c (.lit (.int .i64 0))),(.c (.slice .full 1 []))]),jm 33 35,jz 36 33 0,jz 37 33 1,jm 9 36,jm 10 37]
def F6_r6:List AIns:=[jm 38 2,je 39 38 0,jm 40 39,jtk 41 40 4 1,it 42 40 (.build Z2 [(0,1,(.c (.lit (.int .i64 0)))),(1,1,(.c (.lit (.int .i64 5)))),(3,1,(.c (.lit (.int .i64 3))))]),it 43 40 (cl N10_ [41,42]),jp 44 40 43,jm 45 44,jtm 46 45 4,jte 47 45 46 0,jp 48 45 47,jm 49 48,jta 50 49 0 3,jtl 51 49 50,jte 52 49 51 1,jp 53 49 52,jm 54 53,jta 55 54 3 3,jtl 56 54 55,jte 57 54 56 50,jp 58 54 57,jm 59 58,jtm 60 59 6,jte 61 59 60 0,jp 62 59 61,jm 63 62,jta 64 63 0 5,jtl 65 63 64,jte 66 63 65 3,jp 67 63 66,jm 68 67,jta 69 68 3 5,jtl 70 68 69,jte 71 68 70 2,jp 72 68 71,jm 73 72,jtm 74 73 8,jte 75 73 74 0,jp 76 73 75,jm 77 76,jtm 78 77 7,it 79 77 (cl N15_ [78]),jp 80 77 79,jm 81 80,jtm 82 81 7,it 83 81 (cl N21_ [82]),jte 84 81 83 1,jp 85 81 84,jm 86 85,jtm 87 86 10,jte 88 86 87 150,jp 89 86 88,jm 0 89]
def F6_:AFun:=⟨0,.seq (R F6_r0 [] []) (.seq (R F6_r1 [1,2] [1]) (.seq (R F6_r2 [1,2,3,4] [1,3]) (.seq (R F6_r3 [1,2,3,4,5,6] [1,3,5]) (.seq (R F6_r4 [1,2,3,4,5,6,7,8] [1,3,5]) (.seq (R F6_r5 [1,2,3,4,5,6,7,8,10] [1,3,5]) (.seq (R F6_r6 [0] []) (.ret))))))),[.t 0]⟩
def F7_r0:List AIns:=[jb 5 0,ii 10 (.alloc true Z2),jc 11 0]
def F7_r1:List AIns:=[jk 15 3 5,jm 16 1,jm 17 2,jm 18 3,jm 19 4,ii 20 (cl N8_ [15,16,17,18,19]),jm 14 20,jz 21 14 0,jz 22 14 1,jm 12 21,jm 13 22]
def F7_r2:List AIns:=[jm 23 13,ii 24 (.bin .neq (.t 23) (.c (.lit (.int .i64 0))))]
def F7_r3:List AIns:=[ii 25 (.build Z2 []),jm 26 13,jns 4 10 25,jm 11 26]
def F7_r4:List AIns:=[jm 27 12,ii 28 (cl N15_ [27])]
def F7_l1:AC:=.seq (.seq (R F7_r4 [10,12,28] [10]) (.cond (.t 28) (.skip) (.exit 0))) (.block 1 (.skip))
def F7_r5:List AIns:=[jm 29 12,jh 30 29,ja 31 9 30,jK 32 4 31,jns 4 10 32,jc 11 0]
def F7_:AFun:=⟨5,.seq (R F7_r0 [1,2,3,4,5,10] [5,10]) (.seq (R F7_r1 [10,12,13] [10]) (.seq (.seq (R F7_r2 [10,12,13,24] [10]) (.cond (.t 24) (.seq (R F7_r3 [10,11] [10]) (.retz 1 10)) (.skip))) (.seq (.block 0 (.loop F7_l1)) (.seq (R F7_r5 [10,11] [10]) (.retz 1 10))))),[.cell (some 4) 10,.t 11]⟩
def F8_r0:List AIns:=[jb 5 0,ii 10 (.mv (.c (.lit (.pointer none)))),jc 11 0]
def F8_r1:List AIns:=[jk 18 3 5,ii 19 (cl N22_ [18]),jm 12 19]
def F8_r2:List AIns:=[jm 20 12,ii 21 (.bin .neq (.t 20) (.c (.lit (.int .i64 0))))]
def F8_r3:List AIns:=[jm 22 12,ii 10 (.mv (.c (.lit (.pointer none)))),jm 11 22]
def F8_r4:List AIns:=[jm 24 1,ii 25 (cl N23_ [24]),jm 23 25,jz 26 23 0,jz 27 23 1,jm 13 26,jm 14 27]
def F8_r5:List AIns:=[jm 28 14,ii 29 (.bin .neq (.t 28) (.c (.lit (.int .i64 0)))),jm 30 29,jfm 31 30 2,iF 32 30 (.bin .lss (.t 31) (.c (.lit (.int .i64 0)))),jP 33 30 32,jm 34 33,jfm 35 34 3,iF 36 34 (.bin .lss (.t 35) (.c (.lit (.int .i64 0)))),jP 37 34 36,jm 38 37,jfm 39 38 3,iF 40 38 (.bin .gtr (.t 39) (.c (.lit (.int .i64 1048576)))),jP 41 38 40,jm 42 41,jfm 43 42 4,jfg 44 42 43,jfa 45 42 0 5,jfl 46 42 45,iF 47 42 (.bin .neq (.t 44) (.t 46)),jP 48 42 47]
def F8_r6:List AIns:=[ii 10 (.mv (.c (.lit (.pointer none)))),jc 11 1]
def F8_r7:List AIns:=[jk 49 3 5,ii 50 (cl N24_ [49]),jm 51 13,jm 52 2,jm 53 3,ii 54 (.build [.lit (.int .i64 0),.slice .full 7 [],.slice .full 1 [],.lit (.pointer none),.slice .full 2 [],.lit (.int .i64 0),.lit (.int .i64 0),.lit (.int .i64 0),.lit (.int .i64 0),.lit (.int .i64 0),.lit (.int .i64 0),.slice .full 1 [],.lit (.int .i64 0),.lit (.bool false)] [(0,3,(.t 50)),(3,1,(.t 51)),(6,1,(.t 52)),(8,1,(.t 53))]),ii 55 (.box false (.t 54)),jm 15 55]
def F8_r8:List AIns:=[jm 56 4,jg 57 56,jc 58 0]
def F8_r9:List AIns:=[jq 59 58 57]
def F8_r10:List AIns:=[jx 60 1 56 58,jL 61 60,jm 17 61]
def F8_r11:List AIns:=[jm 62 15,jm 63 15,jh 64 63,ja 65 4 64,jL 66 65,jm 67 17,ii 68 (.build Z6 [(1,1,(.t 67))]),jB 69 2 68,ii 70 (.wop (.appm 2 16) [(.t 66),(.t 69)]),jh 71 62,ja 72 4 71,jnS 1 72 70]
def F8_r12:List AIns:=[jA 73 58 1,jm 58 73]
def F8_l1:AC:=.seq (R F8_r9 [15,56,57,58,59] []) (.seq (.cond (.t 59) (.skip) (.exit 0)) (.seq (.block 1 (.seq (R F8_r10 [15,17,56,57,58] []) (R F8_r11 [15,56,57,58] []))) (R F8_r12 [15,56,57,58] [])))
def F8_r13:List AIns:=[jm 74 15,jm 10 74,jc 11 0]
def F8_:AFun:=⟨5,.seq (R F8_r0 [1,2,3,4,5] [5]) (.seq (.seq (R F8_r1 [1,2,3,4,5,12] [5]) (.seq (R F8_r2 [1,2,3,4,5,12,21] [5]) (.cond (.t 21) (.seq (R F8_r3 [10,11] []) (.ret)) (.skip)))) (.seq (R F8_r4 [2,3,4,5,13,14] [5]) (.seq (.seq (R F8_r5 [2,3,4,5,13,48] [5]) (.cond (.t 48) (.seq (R F8_r6 [10,11] []) (.ret)) (.skip))) (.seq (R F8_r7 [4,15] []) (.seq (.seq (R F8_r8 [15,56,57,58] []) (.block 0 (.loop F8_l1))) (.seq (R F8_r13 [10,11] []) (.ret))))))),[.t 10,.t 11]⟩
def F9_r0:List AIns:=[jb 5 0,jc 10 0]
def F9_r1:List AIns:=[jk 11 3 5,ii 12 (cl N18_ [11]),ju 13 12]
def F9_r2:List AIns:=[jc 10 150]
def F9_r3:List AIns:=[jm 14 1,ii 15 (.bin .lss (.t 14) (.c (.lit (.int .i64 0)))),jm 16 15,jfm 17 16 1,iF 18 16 (.bin .gtr (.t 17) (.c (.lit (.int .i64 1048576)))),jP 19 16 18,jm 20 19,jfm 21 20 2,iF 22 20 (.bin .lss (.t 21) (.c (.lit (.int .i64 0)))),jP 23 20 22,jm 24 23,jfm 25 24 3,iF 26 24 (.bin .lss (.t 25) (.c (.lit (.int .i64 0)))),jP 27 24 26,jm 28 27,jfm 29 28 3,iF 30 28 (.bin .gtr (.t 29) (.c (.lit (.int .i64 1048576)))),jP 31 28 30,jm 32 31,jfm 33 32 4,jfg 34 32 33,jfa 35 32 0 5,jfl 36 32 35,iF 37 32 (.bin .neq (.t 34) (.t 36)),jP 38 32 37]
def F9_r4:List AIns:=[jc 10 1]
def F9_r5:List AIns:=[jc 10 0]
def F9_:AFun:=⟨5,.seq (R F9_r0 [1,2,3,4,5] [5]) (.seq (.seq (R F9_r1 [1,2,3,4,5,13] [5]) (.cond (.t 13) (.seq (R F9_r2 [10] []) (.ret)) (.skip))) (.seq (.seq (R F9_r3 [38] []) (.cond (.t 38) (.seq (R F9_r4 [10] []) (.ret)) (.skip))) (.seq (R F9_r5 [10] []) (.ret)))),[.t 10]⟩
def F10_r0:List AIns:=[jb 2 0,jb 3 1,jf_ 4]
def F10_r1:List AIns:=[ja 5 0 2,jl 6 5,ja 7 0 3,jl 8 7,ii 9 (.bin .eql (.t 6) (.t 8)),jm 10 9,jta 11 10 1 2,jtl 12 10 11,jta 13 10 1 3,jtl 14 10 13,it 15 10 (.bin .eql (.t 12) (.t 14)),jp 16 10 15,jm 17 16,jta 18 17 3 2,jtl 19 17 18,jta 20 17 3 3,jtl 21 17 20,it 22 17 (.bin .eql (.t 19) (.t 21)),jp 23 17 22,jm 24 23,jta 25 24 2 2,jtl 26 24 25,jta 27 24 2 3,jtl 28 24 27,it 29 24 (cl N25_ [26,28]),jp 30 24 29,jm 4 30]
def F10_:AFun:=⟨2,.seq (R F10_r0 [2,3] [2,3]) (.seq (R F10_r1 [4] []) (.ret)),[.t 4]⟩
def F11_r0:List AIns:=[jb 1 0,ii 2 (.alloc true Z0)]
def F11_r1:List AIns:=[ja 3 14 1,jl 4 3,ju 5 4]
def F11_r2:List AIns:=[jk 7 15 1,ii 8 (cl N26_ [7]),jm 6 8,jz 9 6 0,jz 10 6 1,jns 15 1 9]
def F11_l1:AC:=.seq (.seq (R F11_r1 [1,2,5] [1,2]) (.cond (.t 5) (.skip) (.exit 0))) (.block 1 (R F11_r2 [1,2] [1,2]))
def F11_r3:List AIns:=[jk 11 15 1,jns 15 2 11]
def F11_:AFun:=⟨1,.seq (R F11_r0 [1,2] [1,2]) (.seq (.block 0 (.loop F11_l1)) (.seq (R F11_r3 [2] [2]) (.ret))),[.cell (some 15) 2]⟩
def F12_r0:List AIns:=[jb 5 0,ii 10 (.alloc true Z0)]
def F12_r1:List AIns:=[jk 14 3 5,jm 15 2,jm 16 3,jm 17 1,ii 18 (.build Z7 [(0,1,(.t 17))]),ii 19 (.wop (.mks 2 16 Z6) [(.c (.lit (.int .i64 1024))),(.c (.lit (.int .i64 1024)))]),ii 20 (.build Z0 [(0,3,(.t 14)),(3,1,(.t 15)),(4,1,(.t 16)),(5,2,(.t 18)),(7,1,(.t 19))]),ii 11 (.alloc true Z0),jns 15 11 20]
def F12_r2:List AIns:=[jm 21 4,jg 22 21,jc 23 0]
def F12_r3:List AIns:=[jq 24 23 22]
def F12_r4:List AIns:=[jm 25 23,jx 26 1 21 23,jL 27 26,jm 12 25,jm 13 27]
def F12_r5:List AIns:=[ja 28 7 11,jl 29 28,jm 30 12,jm 31 13,ii 32 (.build Z6 [(1,1,(.t 31))]),jx 33 2 29 30,jnS 2 33 32]
def F12_r6:List AIns:=[jA 34 23 1,jm 23 34]
def F12_l1:AC:=.seq (R F12_r3 [10,11,21,22,23,24] [10,11]) (.seq (.cond (.t 24) (.skip) (.exit 0)) (.seq (.block 1 (.seq (R F12_r4 [10,11,12,13,21,22,23] [10,11]) (R F12_r5 [10,11,21,22,23] [10,11]))) (R F12_r6 [10,11,21,22,23] [10,11])))
def F12_r7:List AIns:=[jk 35 15 11,jns 15 10 35]
def F12_:AFun:=⟨5,.seq (R F12_r0 [1,2,3,4,5,10] [5,10]) (.seq (.reg F12_r1 [11] [4,10,11] [10,11]) (.seq (.seq (R F12_r2 [10,11,21,22,23] [10,11]) (.block 0 (.loop F12_l1))) (.seq (R F12_r7 [10] [10]) (.retz 1 10)))),[.cell (some 15) 10]⟩
def F13_r0:List AIns:=[jb 3 1,jf_ 4]
def F13_r1:List AIns:=[jm 10 0,ii 11 (cl N27_ [10]),jm 9 11,jz 12 9 0,jz 13 9 1,ii 5 (.alloc true Z2),jns 4 5 12,jm 6 13]
def F13_r2:List AIns:=[jm 15 0,ii 16 (cl N29_ [15]),ja 17 5 3,ja 18 0 17,jl 19 18,ii 20 (cl N28_ [16,19]),jm 14 20,jz 21 14 0,jz 22 14 1,ii 7 (.alloc true Z7),jns 2 7 21,jm 8 22]
def F13_r3:List AIns:=[jm 23 8,jm 24 23,jtm 25 24 6,jta 26 24 14 3,jtl 27 24 26,it 28 24 (.beq false (.t 25) (.t 27)),jp 29 24 28,jm 30 29,jtk 31 30 4 5,jtk 32 30 15 3,it 33 30 (cl N30_ [32]),it 34 30 (cl N10_ [31,33]),jp 35 30 34,jm 36 35,jtm 37 36 0,it 38 36 (cl N21_ [37]),jta 39 36 8 3,jtl 40 36 39,it 41 36 (.bin .eql (.t 38) (.t 40)),jp 42 36 41,jm 43 42,jtm 44 43 0,it 45 43 (cl N32_ [44]),jtk 46 43 15 3,it 47 43 (cl N33_ [46]),it 48 43 (cl N31_ [45,47]),jp 49 43 48,jm 50 49,jtk 51 50 2 7,jta 52 50 5 3,jtk 53 50 2 52,it 54 50 (cl N34_ [51,53]),jp 55 50 54,jm 4 55]
def F13_:AFun:=⟨2,.seq (R F13_r0 [0,3] [3]) (.seq (R F13_r1 [0,3,5,6] [3,5]) (.seq (.reg F13_r2 [7] [0,3,5,6,7,8] [3,5,7]) (.seq (R F13_r3 [4] []) (.ret)))),[.t 4]⟩
def F14_r0:List AIns:=[ii 2 (.mv (.c (.lit (.pointer none))))]
def F14_r1:List AIns:=[jm 4 0,ii 5 (.peq false (.t 4) (.c (.lit (.pointer none))))]
def F14_r2:List AIns:=[ii 2 (.mv (.c (.lit (.pointer none))))]
def F14_r3:List AIns:=[jm 6 0,jh 7 6,jK 8 14 7,ii 3 (.alloc false [.lit (.int .i64 0),.slice .full 7 [],.slice .full 1 [],.lit (.pointer none),.slice .full 2 [],.lit (.int .i64 0),.lit (.int .i64 0),.lit (.int .i64 0),.lit (.int .i64 0),.lit (.int .i64 0),.lit (.int .i64 0),.slice .full 1 [],.lit (.int .i64 0),.lit (.bool false)]),jnS 14 3 8]
def F14_r4:List AIns:=[jm 9 0,jh 10 9,ja 11 3 10,jL 12 11,ii 13 (cl N35_ [12]),ja 14 3 3,jnS 1 14 13]
def F14_r5:List AIns:=[jm 15 0,jh 16 15,ja 17 4 16,jL 18 17,ii 19 (cl N36_ [18]),ja 20 4 3,jnS 1 20 19]
def F14_r6:List AIns:=[jm 21 0,jh 22 21,ja 23 9 22,ja 24 2 23,jL 25 24,ii 26 (cl N37_ [25]),ja 27 9 3,ja 28 2 27,jnS 1 28 26]
def F14_r7:List AIns:=[jm 2 3]
def F14_:AFun:=⟨1,.seq (R F14_r0 [0] []) (.seq (.seq (R F14_r1 [0,5] []) (.cond (.t 5) (.seq (R F14_r2 [2] []) (.ret)) (.skip))) (.seq (R F14_r3 [0,3] []) (.seq (R F14_r4 [0,3] []) (.seq (R F14_r5 [0,3] []) (.seq (R F14_r6 [3] []) (.seq (R F14_r7 [2] []) (.ret))))))),[.t 2]⟩
def F15_r0:List AIns:=[jf_ 2]
def F15_r1:List AIns:=[jm 4 0,ii 5 (.peq false (.t 4) (.c (.lit (.pointer none)))),jm 6 5,jfm 7 6 0,jfh 8 6 7,jfa 9 6 13 8,jfL 10 6 9,jP 11 6 10]
def F15_r2:List AIns:=[jf_ 2]
def F15_r3:List AIns:=[jm 12 0,jh 13 12,ja 14 9 13,ja 15 3 14,jL 16 15,jm 17 0,jh 18 17,ja 19 8 18,jL 20 19,ii 21 (.bin .eql (.t 16) (.t 20))]
def F15_r4:List AIns:=[jm 22 0,ii 23 (.call (.f N38_) [(.t 22),(.c (.lit (.int .i64 1)))])]
def F15_r5:List AIns:=[jm 24 0,jh 25 24,ja 26 0 25,ja 27 1 26,jL 28 27,jm 29 0,jh 30 29,ja 31 5 30,jL 32 31,jx 33 7 28 32,jK 34 7 33,ii 3 (.alloc true Z1),jns 7 3 34]
def F15_r6:List AIns:=[ii 35 (cl N39_ []),ja 36 0 3,jl 37 36,ii 38 (.wop (.ixv 11 1 none) [(.t 35),(.t 37)]),jm 39 0,jk 40 7 3,ii 41 (.call (.t 38) [(.t 39),(.t 40)])]
def F15_r7:List AIns:=[je 43 41 1,jm 42 43]
def F15_r8:List AIns:=[jm 44 0,ii 45 (.call (.f N38_) [(.t 44),(.c (.lit (.int .i64 2)))])]
def F15_r9:List AIns:=[je 47 41 2,jm 46 47]
def F15_r10:List AIns:=[jm 48 0,ii 49 (.call (.f N38_) [(.t 48),(.c (.lit (.int .i64 3)))])]
def F15_r11:List AIns:=[je 51 41 3,jm 50 51]
def F15_r12:List AIns:=[jm 52 0,ii 53 (.call (.f N38_) [(.t 52),(.c (.lit (.int .i64 0)))])]
def F15_r13:List AIns:=[jm 54 0,jh 55 54,ja 56 9 55,ja 57 3 56,jL 58 57,jA 59 58 1,jh 60 54,ja 61 9 60,ja 62 3 61,jnS 1 62 59]
def F15_r14:List AIns:=[ii 2 (.mv (.c (.lit (.bool true))))]
def F15_l1:AC:=.block 1 (.seq (.seq (R F15_r3 [0,21] []) (.cond (.t 21) (.seq (R F15_r4 [] []) (.exit 0)) (.skip))) (.seq (.reg F15_r5 [3] [0,3] [3]) (.seq (.seq (R F15_r6 [0,41] []) (.block 2 (.seq (R F15_r7 [0,41,42] []) (.cond (.t 42) (.seq (R F15_r8 [] []) (.exit 0)) (.seq (R F15_r9 [0,41,46] []) (.cond (.t 46) (.seq (R F15_r10 [] []) (.exit 0)) (.seq (R F15_r11 [0,50] []) (.cond (.t 50) (R F15_r12 [0] []) (.skip))))))))) (.seq (R F15_r13 [] []) (.seq (R F15_r14 [2] []) (.ret))))))
def F15_r15:List AIns:=[jf_ 2]
def F15_:AFun:=⟨1,.seq (R F15_r0 [0] []) (.seq (.seq (R F15_r1 [0,11] []) (.cond (.t 11) (.seq (R F15_r2 [2] []) (.ret)) (.skip))) (.seq (.skip) (.seq (.block 0 (.loop F15_l1)) (.seq (R F15_r15 [2] []) (.ret))))),[.t 2]⟩
def F16_r0:List AIns:=[jc 2 0]
def F16_r1:List AIns:=[jm 3 0,ii 4 (.peq false (.t 3) (.c (.lit (.pointer none))))]
def F16_r2:List AIns:=[jc 2 3]
def F16_r3:List AIns:=[jm 5 0,ii 6 (cl N40_ [5])]
def F16_r4:List AIns:=[jc 2 0]
def F16_:AFun:=⟨1,.seq (R F16_r0 [0] []) (.seq (.seq (R F16_r1 [0,4] []) (.cond (.t 4) (.seq (R F16_r2 [2] []) (.ret)) (.skip))) (.seq (R F16_r3 [] []) (.seq (R F16_r4 [2] []) (.ret)))),[.t 2]⟩
def F17_r0:List AIns:=[jb 4 1,jb 5 2,ii 6 (.alloc true Z0),jf_ 7]
def F17_r1:List AIns:=[ja 10 0 5,jl 11 10]
def F17_r2:List AIns:=[je 13 11 0,jm 12 13]
def F17_r3:List AIns:=[jk 15 15 4,ii 16 (cl N26_ [15]),jm 14 16,jz 17 14 0,jz 18 14 1,ii 8 (.alloc true Z0),jns 15 8 17,jm 9 18]
def F17_r4:List AIns:=[jk 19 15 8,jm 20 0,ii 21 (cl N15_ [20]),jm 22 9,ii 23 (.beq false (.t 21) (.t 22)),jns 15 6 19,jm 7 23]
def F17_r5:List AIns:=[je 25 11 1,jm 24 25]
def F17_r6:List AIns:=[jk 26 15 4,ii 27 (cl N41_ [26]),jm 28 0,ii 29 (cl N16_ [28]),je 30 29 0,jns 15 6 27,jm 7 30]
def F17_r7:List AIns:=[jk 31 15 4,jns 15 6 31,ii 7 (.mv (.c (.lit (.bool true))))]
def F17_:AFun:=⟨3,.seq (R F17_r0 [0,4,5,6] [4,5,6]) (.seq (.seq (R F17_r1 [0,4,6,11] [4,6]) (.block 0 (.seq (R F17_r2 [0,4,6,11,12] [4,6]) (.cond (.t 12) (.seq (R F17_r3 [0,6,8,9] [6,8]) (.seq (R F17_r4 [6,7] [6]) (.ret))) (.seq (R F17_r5 [0,4,6,24] [4,6]) (.cond (.t 24) (.seq (R F17_r6 [6,7] [6]) (.ret)) (.skip))))))) (.seq (R F17_r7 [6,7] [6]) (.ret))),[.cell (some 15) 6,.t 7]⟩
def F18_r0:List AIns:=[jb 1 0,jf_ 2]
def F18_r1:List AIns:=[ja 6 1 1,jl 7 6,jg 8 7,jm 3 8]
def F18_r2:List AIns:=[ja 9 0 1,jl 10 9,ii 11 (.call (.f N42_) [(.t 10),(.c (.lit (.int .i64 6)))]),ju 12 11,jm 13 12,jfm 14 13 3,iF 15 13 (.bin .lss (.t 14) (.c (.lit (.int .i64 1)))),jP 16 13 15,jm 17 16,jfm 18 17 3,iF 19 17 (.bin .gtr (.t 18) (.c (.lit (.int .i64 100000)))),jP 20 17 19,jm 21 20,jfa 22 21 2 1,jfl 23 21 22,jfg 24 21 23,iF 25 21 (.bin .gtr (.t 24) (.c (.lit (.int .i64 100000)))),jP 26 21 25,jm 27 26,jfa 28 27 2 1,jfl 29 27 28,jfm 30 27 3,iF 31 27 (cl N43_ [29,30]),jfu 32 27 31,jP 33 27 32]
def F18_r3:List AIns:=[jf_ 2]
def F18_r4:List AIns:=[ja 34 1 1,jl 35 34,jg 36 35,jc 37 0]
def F18_r5:List AIns:=[jq 38 37 36]
def F18_r6:List AIns:=[jx 39 7 35 37,jk 40 7 39,ii 5 (.alloc true Z1),jns 7 5 40]
def F18_r7:List AIns:=[jk 41 7 5,jm 42 3,ii 43 (cl N44_ [41,42]),ju 44 43]
def F18_r8:List AIns:=[jf_ 2]
def F18_r9:List AIns:=[jA 45 37 1,jm 37 45]
def F18_l1:AC:=.seq (R F18_r5 [1,3,35,36,37,38] [1]) (.seq (.cond (.t 38) (.skip) (.exit 0)) (.seq (.block 1 (.seq (R F18_r6 [1,3,5,35,36,37] [1,5]) (.seq (R F18_r7 [1,3,35,36,37,44] [1]) (.cond (.t 44) (.seq (R F18_r8 [2] []) (.ret)) (.skip))))) (R F18_r9 [1,3,35,36,37] [1])))
def F18_r10:List AIns:=[ja 46 1 1,jl 47 46,jm 48 3,ii 49 (.bin .sub (.t 48) (.c (.lit (.int .i64 1)))),jx 50 7 47 49,ja 51 0 50,jl 52 51,ii 53 (cl N45_ [52]),jm 2 53]
def F18_:AFun:=⟨1,.seq (R F18_r0 [1] [1]) (.seq (R F18_r1 [1,3] [1]) (.seq (.seq (R F18_r2 [1,3,33] [1]) (.cond (.t 33) (.seq (R F18_r3 [2] []) (.ret)) (.skip))) (.seq (.seq (R F18_r4 [1,3,35,36,37] [1]) (.block 0 (.loop F18_l1))) (.seq (R F18_r10 [2] []) (.ret))))),[.t 2]⟩
def F19_r0:List AIns:=[ii 0 (.alloc true Z4)]
def F19_r1:List AIns:=[ii 1 (.build Z1 [(0,1,(.c (.lit (.int .i64 0)))),(1,1,(.c (.lit (.int .i64 1)))),(4,1,(.c (.lit (.int .i64 1))))]),ii 2 (.build Z1 [(0,1,(.c (.lit (.int .i64 2)))),(1,1,(.c (.lit (.int .i64 2)))),(3,1,(.c (.lit (.int .i64 1))))]),ii 3 (.build Z1 [(0,1,(.c (.lit (.int .i64 10)))),(1,1,(.c (.lit (.int .i64 2))))]),ii 4 (.bsl 7 [(.t 1),(.t 2),(.t 3)]),ii 5 (.build Z4 [(0,1,(.c (.lit (.int .i64 1)))),(1,1,(.t 4))]),jns 3 0 5]
def F19_:AFun:=⟨0,.seq (R F19_r0 [0] [0]) (.seq (R F19_r1 [0] [0]) (.ret)),[.cell (some 3) 0]⟩
def F20_r0:List AIns:=[ii 0 (.alloc true Z4)]
def F20_r1:List AIns:=[ii 1 (.build Z1 [(0,1,(.c (.lit (.int .i64 3))))]),ii 2 (.bsl 1 [(.c (.lit (.int .i64 0)))]),ii 3 (.build Z1 [(0,1,(.c (.lit (.int .i64 7)))),(5,1,(.t 2))]),ii 4 (.bsl 7 [(.t 1),(.t 3)]),ii 5 (.build Z4 [(1,1,(.t 4))]),jns 3 0 5]
def F20_:AFun:=⟨0,.seq (R F20_r0 [0] [0]) (.seq (R F20_r1 [0] [0]) (.ret)),[.cell (some 3) 0]⟩
def F21_r0:List AIns:=[jc 2 0]
def F21_r1:List AIns:=[jm 3 0,ii 4 (.peq false (.t 3) (.c (.lit (.pointer none))))]
def F21_r2:List AIns:=[jc 2 0]
def F21_r3:List AIns:=[jm 5 0,jh 6 5,ja 7 5 6,jL 8 7,jm 2 8]
def F21_:AFun:=⟨1,.seq (R F21_r0 [0] []) (.seq (.seq (R F21_r1 [0,4] []) (.cond (.t 4) (.seq (R F21_r2 [2] []) (.ret)) (.skip))) (.seq (R F21_r3 [2] []) (.ret))),[.t 2]⟩
def F22_r0:List AIns:=[jb 1 0,jc 2 0]
def F22_r1:List AIns:=[ja 8 1 1,jl 9 8,jg 10 9,jm 3 10]
def F22_r2:List AIns:=[ja 11 0 1,jl 12 11,ii 13 (.bin .lss (.t 12) (.c (.lit (.int .i64 0)))),jm 14 13,jfa 15 14 0 1,jfl 16 14 15,iF 17 14 (.bin .gtr (.t 16) (.c (.lit (.int .i64 6)))),jP 18 14 17,jm 19 18,jfm 20 19 3,iF 21 19 (.bin .lss (.t 20) (.c (.lit (.int .i64 1)))),jP 22 19 21,jm 23 22,jfm 24 23 3,iF 25 23 (.bin .gtr (.t 24) (.c (.lit (.int .i64 100000)))),jP 26 23 25,jm 27 26,jfa 28 27 2 1,jfl 29 27 28,jfg 30 27 29,iF 31 27 (.bin .gtr (.t 30) (.c (.lit (.int .i64 100000)))),jP 32 27 31,jm 33 32,jfa 34 33 1 1,jfl 35 33 34,jfm 36 33 3,iF 37 33 (.bin .sub (.t 36) (.c (.lit (.int .i64 1)))),jfx 38 33 7 35 37,jfa 39 33 0 38,jfl 40 33 39,iF 41 33 (cl N46_ [40]),jfu 42 33 41,jP 43 33 42]
def F22_r3:List AIns:=[jc 2 150]
def F22_r4:List AIns:=[ja 44 2 1,jl 45 44,jg 46 45,jc 47 0]
def F22_r5:List AIns:=[jq 48 47 46]
def F22_r6:List AIns:=[jx 49 1 45 47,jl 50 49,jm 5 50]
def F22_r7:List AIns:=[jm 51 5,ii 52 (.bin .lss (.t 51) (.c (.lit (.int .i64 0)))),jm 53 52,jfm 54 53 5,jfm 55 53 3,iF 56 53 (.bin .geq (.t 54) (.t 55)),jP 57 53 56]
def F22_r8:List AIns:=[jc 2 150]
def F22_r9:List AIns:=[jA 58 47 1,jm 47 58]
def F22_l1:AC:=.seq (R F22_r5 [1,3,45,46,47,48] [1]) (.seq (.cond (.t 48) (.skip) (.exit 0)) (.seq (.block 1 (.seq (R F22_r6 [1,3,5,45,46,47] [1]) (.seq (R F22_r7 [1,3,45,46,47,57] [1]) (.cond (.t 57) (.seq (R F22_r8 [2] []) (.ret)) (.skip))))) (R F22_r9 [1,3,45,46,47] [1])))
def F22_r10:List AIns:=[ja 59 1 1,jl 60 59,jg 61 60,jc 62 0]
def F22_r11:List AIns:=[jq 63 62 61]
def F22_r12:List AIns:=[jx 64 7 60 62,jk 65 7 64,ii 7 (.alloc true Z1),jns 7 7 65]
def F22_r13:List AIns:=[jk 66 7 7,jm 67 3,ii 68 (cl N47_ [66,67]),ju 69 68]
def F22_r14:List AIns:=[jc 2 150]
def F22_r15:List AIns:=[jA 70 62 1,jm 62 70]
def F22_l2:AC:=.seq (R F22_r11 [3,60,61,62,63] []) (.seq (.cond (.t 63) (.skip) (.exit 2)) (.seq (.block 3 (.seq (R F22_r12 [3,7,60,61,62] [7]) (.seq (R F22_r13 [3,60,61,62,69] []) (.cond (.t 69) (.seq (R F22_r14 [2] []) (.ret)) (.skip))))) (R F22_r15 [3,60,61,62] [])))
def F22_r16:List AIns:=[jc 2 0]
def F22_:AFun:=⟨1,.seq (R F22_r0 [1] [1]) (.seq (R F22_r1 [1,3] [1]) (.seq (.seq (R F22_r2 [1,3,43] [1]) (.cond (.t 43) (.seq (R F22_r3 [2] []) (.ret)) (.skip))) (.seq (.seq (R F22_r4 [1,3,45,46,47] [1]) (.block 0 (.loop F22_l1))) (.seq (.seq (R F22_r10 [3,60,61,62] []) (.block 2 (.loop F22_l2))) (.seq (R F22_r16 [2] []) (.ret)))))),[.t 2]⟩
def F23_r0:List AIns:=[ii 2 (.mv (.c (.lit (.pointer none)))),jc 3 0]
def F23_r1:List AIns:=[jm 4 0,ii 5 (.bin .lss (.t 4) (.c (.lit (.int .i64 0)))),jm 6 5,jfm 7 6 0,iF 8 6 (.bin .gtr (.t 7) (.c (.lit (.int .i64 1048576)))),jP 9 6 8]
def F23_r2:List AIns:=[ii 2 (.mv (.c (.lit (.pointer none)))),jc 3 1]
def F23_r3:List AIns:=[jm 10 0,ii 11 (.build [.lit (.int .i64 0),.slice .full 2 [],.slice .full 1 [],.slice .full 1 []] [(0,1,(.t 10))]),ii 12 (.box false (.t 11)),jm 2 12,jc 3 0]
def F23_:AFun:=⟨1,.seq (R F23_r0 [0] []) (.seq (.seq (R F23_r1 [0,9] []) (.cond (.t 9) (.seq (R F23_r2 [2,3] []) (.ret)) (.skip))) (.seq (R F23_r3 [2,3] []) (.ret))),[.t 2,.t 3]⟩
def F24_r0:List AIns:=[jb 1 0,ii 2 (.alloc true Z4)]
def F24_r1:List AIns:=[ja 6 0 1,jl 7 6,ja 8 2 1,jl 9 8,ii 10 (cl N37_ [9]),ii 11 (.build Z4 [(0,1,(.t 7)),(2,1,(.t 10))]),ii 3 (.alloc true Z4),jns 3 3 11]
def F24_r2:List AIns:=[ja 12 1 1,jl 13 12,jg 14 13,jc 15 0]
def F24_r3:List AIns:=[jq 16 15 14]
def F24_r4:List AIns:=[jx 17 7 13 15,jK 18 7 17,ii 5 (.alloc true Z1),jns 7 5 18]
def F24_r5:List AIns:=[ja 19 5 5,jl 20 19,ii 21 (cl N37_ [20]),ja 22 6 5,jl 23 22,ii 24 (cl N37_ [23]),ja 25 5 5,jns 1 25 21,ja 26 6 5,jns 1 26 24]
def F24_r6:List AIns:=[ja 27 1 3,jl 28 27,jk 29 7 5,jB 30 7 29,ii 31 (.app 7 88 (.t 28) (.t 30)),ja 32 1 3,jns 1 32 31]
def F24_r7:List AIns:=[jA 33 15 1,jm 15 33]
def F24_l1:AC:=.seq (R F24_r3 [2,3,13,14,15,16] [2,3]) (.seq (.cond (.t 16) (.skip) (.exit 0)) (.seq (.block 1 (.seq (R F24_r4 [2,3,5,13,14,15] [2,3,5]) (.seq (R F24_r5 [2,3,5,13,14,15] [2,3,5]) (R F24_r6 [2,3,13,14,15] [2,3])))) (R F24_r7 [2,3,13,14,15] [2,3])))
def F24_r8:List AIns:=[jk 34 3 3,jns 3 2 34]
def F24_:AFun:=⟨1,.seq (R F24_r0 [1,2] [1,2]) (.seq (.reg F24_r1 [3] [1,2,3] [1,2,3]) (.seq (.seq (R F24_r2 [2,3,13,14,15] [2,3]) (.block 0 (.loop F24_l1))) (.seq (R F24_r8 [2] [2]) (.ret)))),[.cell (some 3) 2]⟩
def F25_r0:List AIns:=[jf_ 4]
def F25_r1:List AIns:=[jm 6 0,jg 7 6,jm 8 1,jg 9 8,ii 10 (.bin .neq (.t 7) (.t 9))]
def F25_r2:List AIns:=[jf_ 4]
def F25_r3:List AIns:=[jm 11 0,jg 12 11,jc 13 0]
def F25_r4:List AIns:=[jq 14 13 12]
def F25_r5:List AIns:=[jm 15 13,jm 5 15]
def F25_r6:List AIns:=[jm 16 0,jm 17 5,jx 18 1 16 17,jL 19 18,jm 20 1,jm 21 5,jx 22 1 20 21,jL 23 22,ii 24 (.bin .neq (.t 19) (.t 23))]
def F25_r7:List AIns:=[jf_ 4]
def F25_r8:List AIns:=[jA 25 13 1,jm 13 25]
def F25_l1:AC:=.seq (R F25_r4 [0,1,12,13,14] []) (.seq (.cond (.t 14) (.skip) (.exit 0)) (.seq (.block 1 (.seq (R F25_r5 [0,1,5,12,13] []) (.seq (R F25_r6 [0,1,12,13,24] []) (.cond (.t 24) (.seq (R F25_r7 [4] []) (.ret)) (.skip))))) (R F25_r8 [0,1,12,13] [])))
def F25_r9:List AIns:=[ii 4 (.mv (.c (.lit (.bool true))))]
def F25_:AFun:=⟨2,.seq (R F25_r0 [0,1] []) (.seq (.seq (R F25_r1 [0,1,10] []) (.cond (.t 10) (.seq (R F25_r2 [4] []) (.ret)) (.skip))) (.seq (.seq (R F25_r3 [0,1,12,13] []) (.block 0 (.loop F25_l1))) (.seq (R F25_r9 [4] []) (.ret)))),[.t 4]⟩
def F26_r0:List AIns:=[jb 1 0,ii 2 (.alloc true Z0),jf_ 3]
def F26_r1:List AIns:=[ja 4 14 1,jl 5 4]
def F26_r2:List AIns:=[jk 6 15 1,jns 15 2 6,jf_ 3]
def F26_r3:List AIns:=[ja 7 10 1,ja 8 3 7,jl 9 8,ja 10 4 1,jl 11 10,ii 12 (.bin .geq (.t 9) (.t 11))]
def F26_r4:List AIns:=[jk 13 15 1,ii 14 (.call (.f N48_) [(.t 13),(.c (.lit (.int .i64 1)))]),jns 15 2 14,jf_ 3]
def F26_r5:List AIns:=[jk 15 15 1,ii 16 (cl N49_ [15]),jns 15 1 16]
def F26_r6:List AIns:=[ja 17 14 1,jl 18 17,jm 19 18,jta 20 19 10 1,jta 21 19 0 20,jtl 22 19 21,it 23 19 (.bin .neq (.t 22) (.c (.lit (.int .i64 0)))),jp 24 19 23]
def F26_r7:List AIns:=[jk 25 15 1,jns 15 2 25,jf_ 3]
def F26_r8:List AIns:=[ja 26 10 1,ja 27 3 26,jl 28 27,jA 29 28 1,ja 30 10 1,ja 31 3 30,jns 1 31 29]
def F26_r9:List AIns:=[jk 32 15 1,jns 15 2 32,ii 3 (.mv (.c (.lit (.bool true))))]
def F26_:AFun:=⟨1,.seq (R F26_r0 [1,2] [1,2]) (.seq (.seq (R F26_r1 [1,2,5] [1,2]) (.cond (.t 5) (.seq (R F26_r2 [2,3] [2]) (.ret)) (.skip))) (.seq (.seq (R F26_r3 [1,2,12] [1,2]) (.cond (.t 12) (.seq (R F26_r4 [2,3] [2]) (.ret)) (.skip))) (.seq (R F26_r5 [1,2] [1,2]) (.seq (.seq (R F26_r6 [1,2,24] [1,2]) (.cond (.t 24) (.seq (R F26_r7 [2,3] [2]) (.ret)) (.skip))) (.seq (R F26_r8 [1,2] [1,2]) (.seq (R F26_r9 [2,3] [2]) (.ret))))))),[.cell (some 15) 2,.t 3]⟩
def F27_r0:List AIns:=[ii 2 (.alloc true Z2),jf_ 3]
def F27_r1:List AIns:=[jm 5 0,ii 6 (.peq false (.t 5) (.c (.lit (.pointer none))))]
def F27_r2:List AIns:=[ii 7 (.build Z2 []),jns 4 2 7,jf_ 3]
def F27_r3:List AIns:=[jm 8 0,jh 9 8,ja 10 9 9,jK 11 4 10,ii 4 (.alloc true Z2),jns 4 4 11]
def F27_r4:List AIns:=[ja 12 2 4,jl 13 12,ii 14 (cl N37_ [13]),ja 15 2 4,jns 1 15 14]
def F27_r5:List AIns:=[jm 16 0,jh 17 16,ja 18 13 17,jL 19 18,ju 20 19]
def F27_r6:List AIns:=[ja 21 0 4,⟨none,none,.st false 1 (.t 21) (.c (.lit (.int .i64 1)))⟩]
def F27_r7:List AIns:=[jk 22 4 4,jm 23 0,jh 24 23,ja 25 13 24,ii 26 (.ldo false 0 none (.t 25)),jns 4 2 22,jm 3 26]
def F27_:AFun:=⟨1,.seq (R F27_r0 [0,2] [2]) (.seq (.seq (R F27_r1 [0,2,6] [2]) (.cond (.t 6) (.seq (R F27_r2 [2,3] [2]) (.retz 1 2)) (.skip))) (.seq (R F27_r3 [0,2,4] [2,4]) (.seq (R F27_r4 [0,2,4] [2,4]) (.seq (.seq (R F27_r5 [0,2,4,20] [2,4]) (.cond (.t 20) (R F27_r6 [0,2,4] [2,4]) (.skip))) (.seq (R F27_r7 [2,3] [2]) (.retz 1 2)))))),[.cell (some 4) 2,.t 3]⟩
def F28_r0:List AIns:=[ii 4 (.alloc true Z7),jf_ 5]
def F28_r1:List AIns:=[jm 13 1,ii 14 (.build Z7 [(0,1,(.t 13))]),ii 6 (.alloc true Z7),jns 2 6 14]
def F28_r2:List AIns:=[jm 15 0,ii 16 (.peq false (.t 15) (.c (.lit (.pointer none))))]
def F28_r3:List AIns:=[jk 17 2 6,jns 2 4 17,jf_ 5]
def F28_r4:List AIns:=[jm 18 0,ii 19 (cl N50_ [18]),jg 20 19,jc 21 0]
def F28_r5:List AIns:=[jq 22 21 20]
def F28_r6:List AIns:=[jx 23 1 19 21,jl 24 23,jm 8 24]
def F28_r7:List AIns:=[jm 26 0,jm 27 8,ii 28 (cl N51_ [26,27]),jm 25 28,jz 29 25 0,jz 30 25 1,jm 9 29,jm 10 30]
def F28_r8:List AIns:=[jm 32 0,jm 33 8,ii 34 (cl N52_ [32,33]),jm 31 34,jz 35 31 0,jz 36 31 1,jm 11 35,jm 12 36]
def F28_r9:List AIns:=[jm 37 10,ii 38 (.bin .neq (.t 37) (.c (.lit (.int .i64 0)))),jm 39 38,jfm 40 39 12,iF 41 39 (.bin .neq (.t 40) (.c (.lit (.int .i64 0)))),jP 42 39 41]
def F28_r10:List AIns:=[jk 43 2 6,jns 2 4 43,jf_ 5]
def F28_r11:List AIns:=[ja 44 1 6,jl 45 44,jm 46 8,jm 47 9,jm 48 11,ii 49 (.build Z3 [(0,1,(.t 46)),(1,1,(.t 47)),(2,1,(.t 48))]),jB 50 3 49,ii 51 (.app 3 40 (.t 45) (.t 50)),ja 52 1 6,jns 1 52 51]
def F28_r12:List AIns:=[jA 53 21 1,jm 21 53]
def F28_l1:AC:=.seq (R F28_r5 [0,4,6,19,20,21,22] [4,6]) (.seq (.cond (.t 22) (.skip) (.exit 0)) (.seq (.block 1 (.seq (R F28_r6 [0,4,6,8,19,20,21] [4,6]) (.seq (R F28_r7 [0,4,6,8,9,10,19,20,21] [4,6]) (.seq (R F28_r8 [0,4,6,8,9,10,11,12,19,20,21] [4,6]) (.seq (.seq (R F28_r9 [0,4,6,8,9,11,19,20,21,42] [4,6]) (.cond (.t 42) (.seq (R F28_r10 [4,5] [4]) (.ret)) (.skip))) (R F28_r11 [0,4,6,19,20,21] [4,6])))))) (R F28_r12 [0,4,6,19,20,21] [4,6])))
def F28_r13:List AIns:=[jk 54 2 6,jns 2 4 54,ii 5 (.mv (.c (.lit (.bool true))))]
def F28_:AFun:=⟨2,.seq (R F28_r0 [0,1,4] [4]) (.seq (R F28_r1 [0,4,6] [4,6]) (.seq (.seq (R F28_r2 [0,4,6,16] [4,6]) (.cond (.t 16) (.seq (R F28_r3 [4,5] [4]) (.ret)) (.skip))) (.seq (.seq (R F28_r4 [0,4,6,19,20,21] [4,6]) (.block 0 (.loop F28_l1))) (.seq (R F28_r13 [4,5] [4]) (.ret))))),[.cell (some 2) 4,.t 5]⟩
def F29_r0:List AIns:=[ii 2 (.mv (.c (.lit (.pointer none))))]
def F29_r1:List AIns:=[jm 3 0,ii 4 (.peq false (.t 3) (.c (.lit (.pointer none))))]
def F29_r2:List AIns:=[ii 2 (.mv (.c (.lit (.pointer none))))]
def F29_r3:List AIns:=[jm 5 0,jh 6 5,ja 7 3 6,jL 8 7,ii 9 (cl N35_ [8]),jm 2 9]
def F29_:AFun:=⟨1,.seq (R F29_r0 [0] []) (.seq (.seq (R F29_r1 [0,4] []) (.cond (.t 4) (.seq (R F29_r2 [2] []) (.ret)) (.skip))) (.seq (R F29_r3 [2] []) (.ret))),[.t 2]⟩
def F30_r0:List AIns:=[jb 1 0,ii 2 (.alloc true Z2)]
def F30_r1:List AIns:=[ja 4 10 1,jk 5 4 4,ii 3 (.alloc true Z2),jns 4 3 5]
def F30_r2:List AIns:=[ja 6 14 1,jl 7 6,ju 8 7]
def F30_r3:List AIns:=[ja 9 0 3,⟨none,none,.st false 1 (.t 9) (.c (.lit (.int .i64 1)))⟩]
def F30_r4:List AIns:=[jk 10 4 3,jns 4 2 10]
def F30_:AFun:=⟨1,.seq (R F30_r0 [1,2] [1,2]) (.seq (R F30_r1 [1,2,3] [1,2,3]) (.seq (.seq (R F30_r2 [2,3,8] [2,3]) (.cond (.t 8) (R F30_r3 [2,3] [2,3]) (.skip))) (.seq (R F30_r4 [2] [2]) (.ret)))),[.cell (some 4) 2]⟩
def F31_r0:List AIns:=[jf_ 4]
def F31_r1:List AIns:=[jm 6 0,jg 7 6,jm 8 1,jg 9 8,ii 10 (.bin .neq (.t 7) (.t 9))]
def F31_r2:List AIns:=[jf_ 4]
def F31_r3:List AIns:=[jm 11 0,jg 12 11,jc 13 0]
def F31_r4:List AIns:=[jq 14 13 12]
def F31_r5:List AIns:=[jm 15 13,jm 5 15]
def F31_r6:List AIns:=[jm 16 0,jm 17 5,jx 18 2 16 17,jk 19 2 18,jm 20 1,jm 21 5,jx 22 2 20 21,jk 23 2 22,ii 24 (.aeq true [.b,.i] (.t 19) (.t 23))]
def F31_r7:List AIns:=[jf_ 4]
def F31_r8:List AIns:=[jA 25 13 1,jm 13 25]
def F31_l1:AC:=.seq (R F31_r4 [0,1,12,13,14] []) (.seq (.cond (.t 14) (.skip) (.exit 0)) (.seq (.block 1 (.seq (R F31_r5 [0,1,5,12,13] []) (.seq (R F31_r6 [0,1,12,13,24] []) (.cond (.t 24) (.seq (R F31_r7 [4] []) (.ret)) (.skip))))) (R F31_r8 [0,1,12,13] [])))
def F31_r9:List AIns:=[ii 4 (.mv (.c (.lit (.bool true))))]
def F31_:AFun:=⟨2,.seq (R F31_r0 [0,1] []) (.seq (.seq (R F31_r1 [0,1,10] []) (.cond (.t 10) (.seq (R F31_r2 [4] []) (.ret)) (.skip))) (.seq (.seq (R F31_r3 [0,1,12,13] []) (.block 0 (.loop F31_l1))) (.seq (R F31_r9 [4] []) (.ret)))),[.t 4]⟩
def F32_r0:List AIns:=[ii 2 (.mv (.c (.slice .full 2 [])))]
def F32_r1:List AIns:=[jm 4 0,ii 5 (.peq false (.t 4) (.c (.lit (.pointer none))))]
def F32_r2:List AIns:=[ii 2 (.mv (.c (.slice .full 2 [])))]
def F32_r3:List AIns:=[jm 6 0,jh 7 6,ja 8 4 7,jL 9 8,jg 10 9,jm 3 10]
def F32_r4:List AIns:=[jm 11 3,ii 12 (.bin .gtr (.t 11) (.c (.lit (.int .i64 0)))),jm 13 12,jtm 14 13 0,jth 15 13 14,jta 16 13 4 15,jtL 17 13 16,jtm 18 13 3,it 19 13 (.bin .sub (.t 18) (.c (.lit (.int .i64 1)))),jtx 20 13 2 17 19,jtK 21 13 2 20,it 22 13 (.build Z6 []),it 23 13 (.aeq false [.b,.i] (.t 21) (.t 22)),jp 24 13 23]
def F32_r5:List AIns:=[jm 25 3,ii 26 (.bin .sub (.t 25) (.c (.lit (.int .i64 1)))),jm 3 26]
def F32_l1:AC:=.seq (.seq (R F32_r4 [0,3,24] []) (.cond (.t 24) (.skip) (.exit 0))) (.block 1 (R F32_r5 [0,3] []))
def F32_r6:List AIns:=[jm 27 0,jh 28 27,ja 29 4 28,jL 30 29,jm 31 3,ii 32 (.sl 2 (.t 30) none (some (.t 31)) none),ii 33 (cl N36_ [32]),jm 2 33]
def F32_:AFun:=⟨1,.seq (R F32_r0 [0] []) (.seq (.seq (R F32_r1 [0,5] []) (.cond (.t 5) (.seq (R F32_r2 [2] []) (.retz 1 2)) (.skip))) (.seq (R F32_r3 [0,3] []) (.seq (.block 0 (.loop F32_l1)) (.seq (R F32_r6 [2] []) (.retz 1 2))))),[.t 2]⟩
def F33_r0:List AIns:=[jb 1 0,ii 2 (.mv (.c (.slice .full 2 [])))]
def F33_r1:List AIns:=[ja 4 7 1,jl 5 4,jg 6 5,jm 3 6]
def F33_r2:List AIns:=[jm 7 3,ii 8 (.bin .gtr (.t 7) (.c (.lit (.int .i64 0)))),jm 9 8,jta 10 9 7 1,jtl 11 9 10,jtm 12 9 3,it 13 9 (.bin .sub (.t 12) (.c (.lit (.int .i64 1)))),jtx 14 9 2 11 13,jtk 15 9 2 14,it 16 9 (.build Z6 []),it 17 9 (.aeq false [.b,.i] (.t 15) (.t 16)),jp 18 9 17]
def F33_r3:List AIns:=[jm 19 3,ii 20 (.bin .sub (.t 19) (.c (.lit (.int .i64 1)))),jm 3 20]
def F33_l1:AC:=.seq (.seq (R F33_r2 [1,3,18] [1]) (.cond (.t 18) (.skip) (.exit 0))) (.block 1 (R F33_r3 [1,3] [1]))
def F33_r4:List AIns:=[ja 21 7 1,jl 22 21,jm 23 3,ii 24 (.sl 2 (.t 22) none (some (.t 23)) none),jm 2 24]
def F33_:AFun:=⟨1,.seq (R F33_r0 [1] [1]) (.seq (R F33_r1 [1,3] [1]) (.seq (.block 0 (.loop F33_l1)) (.seq (R F33_r4 [2] []) (.ret)))),[.t 2]⟩
def F34_r0:List AIns:=[jb 2 0,jb 3 1,jf_ 4]
def F34_r1:List AIns:=[ja 8 1 2,jl 9 8,jg 10 9,ja 11 1 3,jl 12 11,jg 13 12,ii 14 (.bin .neq (.t 10) (.t 13))]
def F34_r2:List AIns:=[jf_ 4]
def F34_r3:List AIns:=[ja 15 1 2,jl 16 15,jg 17 16,jc 18 0]
def F34_r4:List AIns:=[jq 19 18 17]
def F34_r5:List AIns:=[jm 20 18,jx 21 3 16 18,jk 22 3 21,ii 6 (.alloc true Z3),jm 5 20,jns 3 6 22]
def F34_r6:List AIns:=[ja 23 1 3,jl 24 23,jm 25 5,jx 26 3 24 25,jk 27 3 26,ii 7 (.alloc true Z3),jns 3 7 27]
def F34_r7:List AIns:=[ja 28 0 6,jl 29 28,ja 30 0 7,jl 31 30,ii 32 (.bin .neq (.t 29) (.t 31)),jm 33 32,jfa 34 33 1 6,jfl 35 33 34,jfa 36 33 1 7,jfl 37 33 36,iF 38 33 (.bin .neq (.t 35) (.t 37)),jP 39 33 38,jm 40 39,jfa 41 40 2 6,jfl 42 40 41,jfa 43 40 2 7,jfl 44 40 43,iF 45 40 (cl N31_ [42,44]),jfu 46 40 45,jP 47 40 46]
def F34_r8:List AIns:=[jf_ 4]
def F34_r9:List AIns:=[jA 48 18 1,jm 18 48]
def F34_l1:AC:=.seq (R F34_r4 [3,16,17,18,19] [3]) (.seq (.cond (.t 19) (.skip) (.exit 0)) (.seq (.block 1 (.seq (R F34_r5 [3,5,6,16,17,18] [3,6]) (.seq (R F34_r6 [3,6,7,16,17,18] [3,6,7]) (.seq (R F34_r7 [3,16,17,18,47] [3]) (.cond (.t 47) (.seq (R F34_r8 [4] []) (.ret)) (.skip)))))) (R F34_r9 [3,16,17,18] [3])))
def F34_r10:List AIns:=[ii 4 (.mv (.c (.lit (.bool true))))]
def F34_:AFun:=⟨2,.seq (R F34_r0 [2,3] [2,3]) (.seq (.seq (R F34_r1 [2,3,14] [2,3]) (.cond (.t 14) (.seq (R F34_r2 [4] []) (.ret)) (.skip))) (.seq (.seq (R F34_r3 [3,16,17,18] [3]) (.block 0 (.loop F34_l1))) (.seq (R F34_r10 [4] []) (.ret)))),[.t 4]⟩
def F35_r0:List AIns:=[ii 2 (.mv (.c (.lit (.pointer none))))]
def F35_r1:List AIns:=[jm 3 0,ii 4 (.peq false (.t 3) (.c (.lit (.pointer none))))]
def F35_r2:List AIns:=[ii 2 (.mv (.c (.lit (.pointer none))))]
def F35_r3:List AIns:=[jm 5 0,jh 6 5,ja 7 0 6,ii 8 (.ldo false 0 none (.t 7)),jm 9 0,jh 10 9,ja 11 1 10,ja 12 0 11,jL 13 12,ii 14 (.callq [0] (.f N36_) [(.t 13)]),jm 15 0,jh 16 15,ja 17 1 16,ja 18 1 17,ii 19 (.ldo false 0 none (.t 18)),ii 20 (.callq [0] (.f N37_) [(.t 19)]),jm 21 0,jh 22 21,ja 23 1 22,ja 24 2 23,ii 25 (.ldo false 0 none (.t 24)),ii 26 (.callq [0] (.f N37_) [(.t 25)]),ii 27 (.build [.slice .full 2 [],.slice .full 1 [],.slice .full 1 []] [(0,1,(.t 14)),(1,1,(.t 20)),(2,1,(.t 26))]),ii 28 (.build [.lit (.int .i64 0),.slice .full 2 [],.slice .full 1 [],.slice .full 1 []] [(0,1,(.t 8)),(1,3,(.t 27))]),ii 29 (.box false (.t 28)),jm 2 29]
def F35_:AFun:=⟨1,.seq (R F35_r0 [0] []) (.seq (.seq (R F35_r1 [0,4] []) (.cond (.t 4) (.seq (R F35_r2 [2] []) (.ret)) (.skip))) (.seq (R F35_r3 [2] []) (.ret))),[.t 2]⟩
def F38_r0:List AIns:=[jm 4 0,jm 5 0,jm 6 1,jh 7 4,ja 8 9 7,ja 9 0 8,jnS 1 9 6,jh 10 5,ja 11 13 10,⟨none,none,.st true 1 (.t 11) (.c (.lit (.bool true)))⟩]
def F38_:AFun:=⟨2,R F38_r0 [] [],[]⟩
def F39_r0:List AIns:=[ii 0 (.alloc true [.lit .nilFunc,.lit .nilFunc,.lit .nilFunc,.lit .nilFunc,.lit .nilFunc,.lit .nilFunc,.lit .nilFunc,.lit .nilFunc,.lit .nilFunc,.lit .nilFunc,.lit .nilFunc])]
def F39_r1:List AIns:=[ii 1 (.build [.lit .nilFunc,.lit .nilFunc,.lit .nilFunc,.lit .nilFunc,.lit .nilFunc,.lit .nilFunc,.lit .nilFunc,.lit .nilFunc,.lit .nilFunc,.lit .nilFunc,.lit .nilFunc] [(0,1,(.f N53_)),(1,1,(.f N54_)),(2,1,(.f N55_)),(3,1,(.f N56_)),(4,1,(.f N57_)),(5,1,(.f N58_)),(6,1,(.f N59_)),(7,1,(.f N60_)),(8,1,(.f N61_)),(9,1,(.f N62_)),(10,1,(.f N63_))]),jns 11 0 1]
def F39_:AFun:=⟨0,.seq (R F39_r0 [0] [0]) (.seq (R F39_r1 [0] [0]) (.ret)),[.cell (some 11) 0]⟩
def F40_r0:List AIns:=[jm 5 0,jh 6 5,ja 7 3 6,jL 8 7,jm 9 0,jh 10 9,ja 11 4 10,jL 12 11,ii 13 (cl N64_ [8,12]),jm 4 13,jz 14 4 0,jz 15 4 1,jm 2 14,jm 3 15]
def F40_r1:List AIns:=[jm 16 3,je 17 16 0]
def F40_r2:List AIns:=[jm 18 0,jm 19 2,jh 20 18,ja 21 4 20,jnS 1 21 19]
def F40_:AFun:=⟨1,.seq (R F40_r0 [0,2,3] []) (.seq (R F40_r1 [0,2,17] []) (.cond (.t 17) (R F40_r2 [] []) (.skip))),[]⟩
def F41_r0:List AIns:=[jb 1 0,ii 2 (.alloc true Z0)]
def F41_r1:List AIns:=[ja 4 5 1,jk 5 2 4,ja 6 7 1,jl 7 6,ii 8 (cl N65_ [5,7]),jm 3 8,jz 9 3 0,jz 10 3 1,ja 11 5 1,jns 2 11 9,ja 12 7 1,jns 1 12 10]
def F41_r2:List AIns:=[jk 13 15 1,jns 15 2 13]
def F41_:AFun:=⟨1,.seq (R F41_r0 [1,2] [1,2]) (.seq (R F41_r1 [1,2] [1,2]) (.seq (R F41_r2 [2] [2]) (.ret))),[.cell (some 15) 2]⟩
def F42_r0:List AIns:=[jf_ 4]
def F42_r1:List AIns:=[jm 5 0,ii 6 (.bin .geq (.t 5) (.c (.lit (.int .i64 0)))),jm 7 6,jtm 8 7 0,jtm 9 7 1,it 10 7 (.bin .leq (.t 8) (.t 9)),jp 11 7 10,jm 4 11]
def F42_:AFun:=⟨2,.seq (R F42_r0 [0,1] []) (.seq (R F42_r1 [4] []) (.ret)),[.t 4]⟩
def F43_r0:List AIns:=[jf_ 4]
def F43_r1:List AIns:=[jm 7 0,jg 8 7,jc 9 0]
def F43_r2:List AIns:=[jq 10 9 8]
def F43_r3:List AIns:=[jx 11 1 7 9,jl 12 11,jm 6 12]
def F43_r4:List AIns:=[jm 13 6,jm 14 1,ii 15 (.bin .sub (.t 14) (.c (.lit (.int .i64 1)))),ii 16 (cl N42_ [13,15]),ju 17 16]
def F43_r5:List AIns:=[jf_ 4]
def F43_r6:List AIns:=[jA 18 9 1,jm 9 18]
def F43_l1:AC:=.seq (R F43_r2 [1,7,8,9,10] []) (.seq (.cond (.t 10) (.skip) (.exit 0)) (.seq (.block 1 (.seq (R F43_r3 [1,6,7,8,9] []) (.seq (R F43_r4 [1,7,8,9,17] []) (.cond (.t 17) (.seq (R F43_r5 [4] []) (.ret)) (.skip))))) (R F43_r6 [1,7,8,9] [])))
def F43_r7:List AIns:=[ii 4 (.mv (.c (.lit (.bool true))))]
def F43_:AFun:=⟨2,.seq (R F43_r0 [0,1] []) (.seq (.seq (R F43_r1 [1,7,8,9] []) (.block 0 (.loop F43_l1))) (.seq (R F43_r7 [4] []) (.ret))),[.t 4]⟩
def F44_r0:List AIns:=[jb 2 0,jf_ 4]
def F44_r1:List AIns:=[ja 6 0 2,jl 7 6,ii 8 (.call (.f N42_) [(.t 7),(.c (.lit (.int .i64 10)))]),ju 9 8,jm 10 9,jfk 11 10 7 2,jfm 12 10 1,iF 13 10 (cl N66_ [11,12]),jfu 14 10 13,jP 15 10 14,jm 16 15,jfa 17 16 0 2,jfl 18 16 17,jfa 19 16 1 2,jfl 20 16 19,iF 21 16 (.call (.f N67_) [(.t 18),(.c (.lit (.string ⟨#[65]⟩))),(.t 20)]),jfu 22 16 21,jP 23 16 22,jm 24 23,jfa 25 24 0 2,jfl 26 24 25,jfa 27 24 2 2,jfl 28 24 27,iF 29 24 (.call (.f N67_) [(.t 26),(.c (.lit (.string ⟨#[66]⟩))),(.t 28)]),jfu 30 24 29,jP 31 24 30,jm 32 31,jfa 33 32 0 2,jfl 34 32 33,jfa 35 32 3 2,jfl 36 32 35,iF 37 32 (.call (.f N67_) [(.t 34),(.c (.lit (.string ⟨#[67]⟩))),(.t 36)]),jfu 38 32 37,jP 39 32 38]
def F44_r2:List AIns:=[jf_ 4]
def F44_r3:List AIns:=[jc 5 1024]
def F44_r4:List AIns:=[ja 40 0 2,jl 41 40,je 42 41 3]
def F44_r5:List AIns:=[jc 5 1024]
def F44_r6:List AIns:=[ja 43 0 2,jl 44 43,je 45 44 8]
def F44_r7:List AIns:=[jc 5 1023]
def F44_r8:List AIns:=[ja 46 0 2,jl 47 46,ii 48 (.call (.f N68_) [(.t 47),(.c (.lit (.string ⟨#[82]⟩)))]),ju 49 48,jm 50 49,jta 51 50 5 2,jtl 52 50 51,jtg 53 50 52,it 54 50 (.bin .gtr (.t 53) (.c (.lit (.int .i64 0)))),jp 55 50 54,jm 56 55,jfa 57 56 5 2,jfl 58 56 57,jfm 59 56 5,iF 60 56 (cl N69_ [58,59]),jfu 61 56 60,jP 62 56 61]
def F44_r9:List AIns:=[jf_ 4]
def F44_r10:List AIns:=[ja 63 0 2,jl 64 63,ii 65 (.bin .neq (.t 64) (.c (.lit (.int .i64 6))))]
def F44_r11:List AIns:=[ja 66 6 2,jl 67 66,jg 68 67,je 69 68 0,jm 4 69]
def F44_r12:List AIns:=[ja 70 6 2,jl 71 70,jg 72 71,ii 73 (.bin .geq (.t 72) (.c (.lit (.int .i64 1)))),jm 74 73,jta 75 74 6 2,jtl 76 74 75,jtg 77 74 76,it 78 74 (.bin .leq (.t 77) (.c (.lit (.int .i64 6)))),jp 79 74 78,jm 80 79,jta 81 80 6 2,jtl 82 80 81,jtm 83 80 1,it 84 80 (cl N43_ [82,83]),jp 85 80 84,jm 4 85]
def F44_:AFun:=⟨2,.seq (R F44_r0 [1,2] [2]) (.seq (.seq (R F44_r1 [1,2,39] [2]) (.cond (.t 39) (.seq (R F44_r2 [4] []) (.ret)) (.skip))) (.seq (R F44_r3 [1,2,5] [2]) (.seq (.seq (R F44_r4 [1,2,5,42] [2]) (.cond (.t 42) (R F44_r5 [1,2,5] [2]) (.skip))) (.seq (.seq (R F44_r6 [1,2,5,45] [2]) (.cond (.t 45) (R F44_r7 [1,2,5] [2]) (.skip))) (.seq (.seq (R F44_r8 [1,2,62] [2]) (.cond (.t 62) (.seq (R F44_r9 [4] []) (.ret)) (.skip))) (.seq (.seq (R F44_r10 [1,2,65] [2]) (.cond (.t 65) (.seq (R F44_r11 [4] []) (.ret)) (.skip))) (.seq (R F44_r12 [4] []) (.ret)))))))),[.t 4]⟩
def F45_r0:List AIns:=[jf_ 2]
def F45_r1:List AIns:=[jm 3 0,je 4 3 7,jm 5 4,jfm 6 5 0,jfe 7 5 6 8,jP 8 5 7,jm 9 8,jfm 10 9 0,jfe 11 9 10 6,jP 12 9 11,jm 13 12,jfm 14 13 0,jfe 15 13 14 10,jP 16 13 15,jm 2 16]
def F45_:AFun:=⟨1,.seq (R F45_r0 [0] []) (.seq (R F45_r1 [2] []) (.ret)),[.t 2]⟩
def F46_r0:List AIns:=[jf_ 2]
def F46_r1:List AIns:=[jm 3 0,je 4 3 7,jm 5 4,jfm 6 5 0,jfe 7 5 6 8,jP 8 5 7,jm 9 8,jfm 10 9 0,jfe 11 9 10 6,jP 12 9 11,jm 13 12,jfm 14 13 0,jfe 15 13 14 10,jP 16 13 15,jm 2 16]
def F46_:AFun:=⟨1,.seq (R F46_r0 [0] []) (.seq (R F46_r1 [2] []) (.ret)),[.t 2]⟩
def F47_r0:List AIns:=[jb 2 0,ii 3 (.box false (.t 1)),jf_ 4]
def F47_r1:List AIns:=[ja 9 0 2,jl 10 9,ii 11 (.bin .lss (.t 10) (.c (.lit (.int .i64 0)))),jm 12 11,jfa 13 12 0 2,jfl 14 12 13,iF 15 12 (.bin .gtr (.t 14) (.c (.lit (.int .i64 10)))),jP 16 12 15]
def F47_r2:List AIns:=[jf_ 4]
def F47_r3:List AIns:=[ii 17 (cl N70_ []),ja 18 0 2,jl 19 18,ii 20 (.wop (.ixv 11 2 (some 2)) [(.t 17),(.t 19)]),ii 5 (.alloc true Z5),jns 2 5 20]
def F47_r4:List AIns:=[ja 21 1 2,jl 22 21,ja 23 2 2,jl 24 23,ja 25 3 2,jl 26 25,ii 27 (.bsl 1 [(.t 22),(.t 24),(.t 26)]),jg 28 27,jc 29 0]
def F47_r5:List AIns:=[jq 30 29 28]
def F47_r6:List AIns:=[jm 31 29,jx 32 1 27 29,jl 33 32,jm 6 31,jm 7 33]
def F47_r7:List AIns:=[jk 34 2 5,jm 35 6,ii 36 (.bin .add (.c (.lit (.int .i64 97))) (.t 35)),ii 37 (.cvt .i32 (.t 36)),ii 38 (cl N71_ [34,37]),jm 39 38,jtm 40 39 7,it 41 39 (cl N72_ [40]),jtu 42 39 41,jp 43 39 42,jm 44 43,jfk 45 44 2 5,jfm 46 44 6,iF 47 44 (.bin .add (.c (.lit (.int .i64 97))) (.t 46)),iF 48 44 (.cvt .i32 (.t 47)),iF 49 44 (cl N71_ [45,48]),jfu 50 44 49,jfm 51 44 50,jtm 52 51 7,it 53 51 (.bin .neq (.t 52) (.c (.lit (.int .i64 0)))),jfp 54 44 51 53,jP 55 44 54]
def F47_r8:List AIns:=[jf_ 4]
def F47_r9:List AIns:=[jA 56 29 1,jm 29 56]
def F47_l1:AC:=.seq (R F47_r5 [2,3,5,27,28,29,30] [2,5]) (.seq (.cond (.t 30) (.skip) (.exit 0)) (.seq (.block 1 (.seq (R F47_r6 [2,3,5,6,7,27,28,29] [2,5]) (.seq (R F47_r7 [2,3,5,27,28,29,55] [2,5]) (.cond (.t 55) (.seq (R F47_r8 [4] []) (.ret)) (.skip))))) (R F47_r9 [2,3,5,27,28,29] [2,5])))
def F47_r10:List AIns:=[jc 8 0]
def F47_r11:List AIns:=[ja 57 0 2,jl 58 57]
def F47_r12:List AIns:=[je 60 58 3,jm 59 60]
def F47_r13:List AIns:=[jc 8 1024]
def F47_r14:List AIns:=[je 62 58 7,jm 61 62]
def F47_r15:List AIns:=[jc 8 1024]
def F47_r16:List AIns:=[je 64 58 8,jm 63 64]
def F47_r17:List AIns:=[jc 8 1023]
def F47_r18:List AIns:=[ja 65 5 2,jl 66 65,jg 67 66,jm 68 8,ii 69 (.bin .gtr (.t 67) (.t 68)),jm 70 69,jfa 71 70 5 2,jfl 72 70 71,iF 73 70 (.call (.f N73_) [(.t 72),(.f N74_)]),jP 74 70 73]
def F47_r19:List AIns:=[jf_ 4]
def F47_r20:List AIns:=[ja 75 0 2,jl 76 75,je 77 76 6,ja 78 6 2,jl 79 78,jg 80 79,ii 81 (.bin .gtr (.t 80) (.c (.lit (.int .i64 0)))),ii 82 (.beq true (.t 77) (.t 81)),jm 83 82,jfa 84 83 6 2,jfl 85 83 84,jfg 86 83 85,iF 87 83 (.bin .gtr (.t 86) (.c (.lit (.int .i64 6)))),jP 88 83 87,jm 89 88,jfa 90 89 6 2,jfl 91 89 90,iF 92 89 (.mkf N75_ [] [(.t 3)]),iF 93 89 (cl N73_ [91,92]),jP 94 89 93]
def F47_r21:List AIns:=[jf_ 4]
def F47_r22:List AIns:=[jk 95 2 5,ja 96 4 2,jl 97 96,jL 98 3,ii 99 (cl N76_ [95,97,98]),jm 4 99]
def F47_:AFun:=⟨2,.seq (R F47_r0 [2,3] [2]) (.seq (.seq (R F47_r1 [2,3,16] [2]) (.cond (.t 16) (.seq (R F47_r2 [4] []) (.ret)) (.skip))) (.seq (.reg F47_r3 [5] [2,3,5] [2,5]) (.seq (.seq (R F47_r4 [2,3,5,27,28,29] [2,5]) (.block 0 (.loop F47_l1))) (.seq (R F47_r10 [2,3,5,8] [2,5]) (.seq (.seq (R F47_r11 [2,3,5,8,58] [2,5]) (.block 2 (.seq (R F47_r12 [2,3,5,8,58,59] [2,5]) (.cond (.t 59) (R F47_r13 [2,3,5,8] [2,5]) (.seq (R F47_r14 [2,3,5,8,58,61] [2,5]) (.cond (.t 61) (R F47_r15 [2,3,5,8] [2,5]) (.seq (R F47_r16 [2,3,5,8,63] [2,5]) (.cond (.t 63) (R F47_r17 [2,3,5,8] [2,5]) (.skip))))))))) (.seq (.seq (R F47_r18 [2,3,5,74] [2,5]) (.cond (.t 74) (.seq (R F47_r19 [4] []) (.ret)) (.skip))) (.seq (.seq (R F47_r20 [2,3,5,94] [2,5]) (.cond (.t 94) (.seq (R F47_r21 [4] []) (.ret)) (.skip))) (.seq (R F47_r22 [4] []) (.ret))))))))),[.t 4]⟩
def F48_r0:List AIns:=[jb 2 0,ii 4 (.alloc true Z0)]
def F48_r1:List AIns:=[ja 5 14 2,⟨none,none,.st false 1 (.t 5) (.c (.lit (.bool true)))⟩]
def F48_r2:List AIns:=[jm 6 1,ja 7 10 2,ja 8 0 7,jns 1 8 6]
def F48_r3:List AIns:=[jk 9 15 2,jns 15 4 9]
def F48_:AFun:=⟨2,.seq (R F48_r0 [1,2,4] [2,4]) (.seq (R F48_r1 [1,2,4] [2,4]) (.seq (R F48_r2 [2,4] [2,4]) (.seq (R F48_r3 [4] [4]) (.ret)))),[.cell (some 15) 4]⟩
def F49_r0:List AIns:=[jb 1 0,ii 2 (.alloc true Z0)]
def F49_r1:List AIns:=[ja 4 0 1,ja 5 1 4,jl 6 5,ja 7 8 1,jl 8 7,jx 9 7 6 8,jk 10 7 9,ii 3 (.alloc true Z1),jns 7 3 10]
def F49_r2:List AIns:=[ja 11 0 3,jl 12 11]
def F49_r3:List AIns:=[je 14 12 0,jm 13 14]
def F49_r4:List AIns:=[jk 15 15 1,ja 16 1 3,jl 17 16,ja 18 4 3,jl 19 18,ii 20 (.build Z6 [(1,1,(.t 19))]),ii 21 (cl N77_ [15,17,20]),jns 15 2 21]
def F49_r5:List AIns:=[je 23 12 1,jm 22 23]
def F49_r6:List AIns:=[jk 24 15 1,ja 25 1 3,jl 26 25,ja 27 7 1,jl 28 27,ja 29 2 3,jl 30 29,jx 31 2 28 30,jk 32 2 31,ii 33 (cl N77_ [24,26,32]),jns 15 2 33]
def F49_r7:List AIns:=[je 35 12 3,jm 34 35]
def F49_r8:List AIns:=[jk 36 15 1,jk 37 7 3,ii 38 (cl N78_ [36,37]),jns 15 2 38]
def F49_r9:List AIns:=[je 40 12 4,jm 39 40]
def F49_r10:List AIns:=[jk 41 15 1,jk 42 7 3,ii 43 (cl N79_ [41,42]),jns 15 2 43]
def F49_r11:List AIns:=[je 45 12 6,jm 44 45]
def F49_r12:List AIns:=[jk 46 15 1,jk 47 7 3,ja 48 6 3,jl 49 48,ii 50 (cl N80_ [46,47,49]),jns 15 2 50]
def F49_r13:List AIns:=[je 52 12 8,jm 51 52]
def F49_r14:List AIns:=[jk 53 15 1,jk 54 7 3,ja 55 0 1,ja 56 2 55,jl 57 56,ii 58 (cl N80_ [53,54,57]),jns 15 2 58]
def F49_r15:List AIns:=[je 60 12 7,jm 59 60]
def F49_r16:List AIns:=[jk 61 15 1,ja 62 5 3,jl 63 62,ii 64 (cl N82_ [61,63]),ii 65 (cl N81_ [64]),ja 66 7 1,jns 1 66 65]
def F49_r17:List AIns:=[ja 67 4 3,jl 68 67,ja 69 8 1,jns 1 69 68]
def F49_r18:List AIns:=[jk 70 15 1,jns 15 2 70]
def F49_r19:List AIns:=[jk 71 15 1,jk 72 7 3,ii 73 (cl N83_ [71,72]),jns 15 2 73]
def F49_:AFun:=⟨1,.seq (R F49_r0 [1,2] [1,2]) (.seq (R F49_r1 [1,2,3] [1,2,3]) (.seq (.seq (R F49_r2 [1,2,3,12] [1,2,3]) (.block 0 (.seq (R F49_r3 [1,2,3,12,13] [1,2,3]) (.cond (.t 13) (.seq (R F49_r4 [2] [2]) (.ret)) (.seq (R F49_r5 [1,2,3,12,22] [1,2,3]) (.cond (.t 22) (.seq (R F49_r6 [2] [2]) (.ret)) (.seq (R F49_r7 [1,2,3,12,34] [1,2,3]) (.cond (.t 34) (.seq (R F49_r8 [2] [2]) (.ret)) (.seq (R F49_r9 [1,2,3,12,39] [1,2,3]) (.cond (.t 39) (.seq (R F49_r10 [2] [2]) (.ret)) (.seq (R F49_r11 [1,2,3,12,44] [1,2,3]) (.cond (.t 44) (.seq (R F49_r12 [2] [2]) (.ret)) (.seq (R F49_r13 [1,2,3,12,51] [1,2,3]) (.cond (.t 51) (.seq (R F49_r14 [2] [2]) (.ret)) (.seq (R F49_r15 [1,2,3,59] [1,2,3]) (.cond (.t 59) (.seq (R F49_r16 [1,2,3] [1,2,3]) (.seq (R F49_r17 [1,2] [1,2]) (.seq (R F49_r18 [2] [2]) (.ret)))) (.skip))))))))))))))))) (.seq (R F49_r19 [2] [2]) (.ret)))),[.cell (some 15) 2]⟩
def F50_r0:List AIns:=[ii 2 (.mv (.c (.slice .full 1 [])))]
def F50_r1:List AIns:=[jm 3 0,ii 4 (.peq false (.t 3) (.c (.lit (.pointer none))))]
def F50_r2:List AIns:=[ii 2 (.mv (.c (.slice .full 1 [])))]
def F50_r3:List AIns:=[jm 5 0,jh 6 5,ja 7 1 6,ja 8 2 7,jL 9 8,ii 10 (cl N37_ [9]),jm 2 10]
def F50_:AFun:=⟨1,.seq (R F50_r0 [0] []) (.seq (.seq (R F50_r1 [0,4] []) (.cond (.t 4) (.seq (R F50_r2 [2] []) (.retz 1 2)) (.skip))) (.seq (R F50_r3 [2] []) (.retz 1 2))),[.t 2]⟩
def F51_r0:List AIns:=[jc 4 0,jc 5 0]
def F51_r1:List AIns:=[jm 7 0,jm 8 1,ii 9 (cl N84_ [7,8]),jm 6 9]
def F51_r2:List AIns:=[jm 10 6,ii 11 (.bin .neq (.t 10) (.c (.lit (.int .i64 0))))]
def F51_r3:List AIns:=[jm 12 6,jc 4 0,jm 5 12]
def F51_r4:List AIns:=[jm 13 0,jh 14 13,ja 15 1 14,jm 16 1,ii 17 (cl N85_ [15,16]),jm 4 17,jc 5 0]
def F51_:AFun:=⟨2,.seq (R F51_r0 [0,1] []) (.seq (.seq (R F51_r1 [0,1,6] []) (.seq (R F51_r2 [0,1,6,11] []) (.cond (.t 11) (.seq (R F51_r3 [4,5] []) (.ret)) (.skip)))) (.seq (R F51_r4 [4,5] []) (.ret))),[.t 4,.t 5]⟩
def F52_r0:List AIns:=[ii 4 (.mv (.c (.slice .full 2 []))),jc 5 0]
def F52_r1:List AIns:=[jm 7 0,jm 8 1,ii 9 (cl N84_ [7,8]),jm 6 9]
def F52_r2:List AIns:=[jm 10 6,ii 11 (.bin .neq (.t 10) (.c (.lit (.int .i64 0))))]
def F52_r3:List AIns:=[jm 12 6,ii 4 (.mv (.c (.slice .full 2 []))),jm 5 12]
def F52_r4:List AIns:=[jm 13 0,jh 14 13,ja 15 1 14,jm 16 1,ii 17 (cl N86_ [15,16]),ii 18 (cl N36_ [17]),jm 4 18,jc 5 0]
def F52_:AFun:=⟨2,.seq (R F52_r0 [0,1] []) (.seq (.seq (R F52_r1 [0,1,6] []) (.seq (R F52_r2 [0,1,6,11] []) (.cond (.t 11) (.seq (R F52_r3 [4,5] []) (.retz 1 4)) (.skip)))) (.seq (R F52_r4 [4,5] []) (.retz 1 4))),[.t 4,.t 5]⟩
def F53_r0:List AIns:=[jb 3 1,jc 4 0]
def F53_r1:List AIns:=[jm 5 0,ja 6 1 3,jl 7 6,ja 8 4 3,jl 9 8,ii 10 (.build Z6 [(1,1,(.t 9))]),ii 11 (cl N87_ [5,7,10])]
def F53_r2:List AIns:=[jm 12 0,jh 13 12,ja 14 5 13,jL 15 14,jA 16 15 1,jh 17 12,ja 18 5 17,jnS 1 18 16]
def F53_r3:List AIns:=[jc 4 0]
def F53_:AFun:=⟨2,.seq (R F53_r0 [0,3] [3]) (.seq (R F53_r1 [0] []) (.seq (R F53_r2 [] []) (.seq (R F53_r3 [4] []) (.ret)))),[.t 4]⟩
def F54_r0:List AIns:=[jb 3 1,jc 4 0]
def F54_r1:List AIns:=[jm 5 0,ja 6 1 3,jl 7 6,jm 8 0,ja 9 2 3,jl 10 9,ii 11 (cl N88_ [8,10]),ii 12 (cl N87_ [5,7,11])]
def F54_r2:List AIns:=[jm 13 0,jh 14 13,ja 15 5 14,jL 16 15,jA 17 16 1,jh 18 13,ja 19 5 18,jnS 1 19 17]
def F54_r3:List AIns:=[jc 4 0]
def F54_:AFun:=⟨2,.seq (R F54_r0 [0,3] [3]) (.seq (R F54_r1 [0] []) (.seq (R F54_r2 [] []) (.seq (R F54_r3 [4] []) (.ret)))),[.t 4]⟩
def F55_r0:List AIns:=[jb 3 1,jc 4 0]
def F55_r1:List AIns:=[jm 7 0,ja 8 2 3,jl 9 8,ii 10 (cl N88_ [7,9]),jm 11 0,ja 12 3 3,jl 13 12,ii 14 (cl N88_ [11,13]),ii 5 (.alloc true Z6),ii 6 (.alloc true Z6),jns 2 5 10,jns 2 6 14]
def F55_r2:List AIns:=[ja 15 0 5,jl 16 15,jm 17 16,jfa 18 17 0 6,jfl 19 17 18,jP 20 17 19]
def F55_r3:List AIns:=[jc 4 1]
def F55_r4:List AIns:=[jm 21 0,ja 22 1 3,jl 23 22,ja 24 4 3,jl 25 24,ja 26 1 5,jl 27 26,ja 28 1 6,jl 29 28,ii 30 (cl N89_ [25,27,29]),ii 31 (.build Z6 [(1,1,(.t 30))]),ii 32 (cl N87_ [21,23,31])]
def F55_r5:List AIns:=[jm 33 0,jh 34 33,ja 35 5 34,jL 36 35,jA 37 36 1,jh 38 33,ja 39 5 38,jnS 1 39 37]
def F55_r6:List AIns:=[jc 4 0]
def F55_:AFun:=⟨2,.seq (R F55_r0 [0,3] [3]) (.seq (.reg F55_r1 [5,6] [0,3,5,6] [3,5,6]) (.seq (.seq (R F55_r2 [0,3,5,6,20] [3,5,6]) (.cond (.t 20) (.seq (R F55_r3 [4] []) (.ret)) (.skip))) (.seq (R F55_r4 [0] []) (.seq (R F55_r5 [] []) (.seq (R F55_r6 [4] []) (.ret)))))),[.t 4]⟩
def F56_r0:List AIns:=[jb 3 1,jc 4 0]
def F56_r1:List AIns:=[jm 7 0,jh 8 7,ja 9 6 8,jL 10 9,ii 11 (.bin .gtr (.t 10) (.c (.lit (.int .i64 0)))),jm 12 11,jtm 13 12 0,jth 14 12 13,jta 15 12 7 14,jtL 16 12 15,jtm 17 12 0,jth 18 12 17,jta 19 12 6 18,jtL 20 12 19,it 21 12 (.bin .rem (.t 16) (.t 20)),jte 22 12 21 0,jp 23 12 22]
def F56_r2:List AIns:=[jm 24 0,ii 25 (cl N40_ [24])]
def F56_r3:List AIns:=[jm 27 0,jh 28 27,ja 29 3 28,ii 30 (.ldo false 0 none (.t 29)),ja 31 4 3,jl 32 31,jm 33 0,ja 34 5 3,jl 35 34,ii 36 (.callq [0] (.f N91_) [(.t 33),(.t 35)]),ii 37 (cl N90_ [30,32,36]),jm 26 37,jz 38 26 0,jz 39 26 1,jm 5 38,jm 6 39]
def F56_r4:List AIns:=[jm 40 6,je 41 40 170]
def F56_r5:List AIns:=[jm 42 0,ii 43 (cl N40_ [42])]
def F56_r6:List AIns:=[jm 45 0,jh 46 45,ja 47 3 46,ii 48 (.ldo false 0 none (.t 47)),ja 49 4 3,jl 50 49,jm 51 0,ja 52 5 3,jl 53 52,ii 54 (.callq [0] (.f N91_) [(.t 51),(.t 53)]),ii 55 (cl N90_ [48,50,54]),jm 44 55,jz 56 44 0,jz 57 44 1,jm 5 56,jm 6 57]
def F56_r7:List AIns:=[jm 58 6,ii 59 (.bin .neq (.t 58) (.c (.lit (.int .i64 0))))]
def F56_r8:List AIns:=[jc 4 2]
def F56_r9:List AIns:=[jm 60 0,jh 61 60,ja 62 7 61,jL 63 62,jA 64 63 1,jh 65 60,ja 66 7 65,jnS 1 66 64]
def F56_r10:List AIns:=[jm 67 0,ja 68 1 3,jl 69 68,jm 70 5,ii 71 (.build Z6 [(0,1,(.c (.lit (.bool true)))),(1,1,(.t 70))]),ii 72 (cl N87_ [67,69,71])]
def F56_r11:List AIns:=[jm 73 0,jh 74 73,ja 75 5 74,jL 76 75,jA 77 76 1,jh 78 73,ja 79 5 78,jnS 1 79 77]
def F56_r12:List AIns:=[jc 4 0]
def F56_:AFun:=⟨2,.seq (R F56_r0 [0,3] [3]) (.seq (.seq (R F56_r1 [0,3,23] [3]) (.cond (.t 23) (R F56_r2 [0,3] [3]) (.skip))) (.seq (R F56_r3 [0,3,5,6] [3]) (.seq (.seq (R F56_r4 [0,3,5,6,41] [3]) (.cond (.t 41) (.seq (R F56_r5 [0,3] [3]) (R F56_r6 [0,3,5,6] [3])) (.skip))) (.seq (.seq (R F56_r7 [0,3,5,59] [3]) (.cond (.t 59) (.seq (R F56_r8 [4] []) (.ret)) (.skip))) (.seq (R F56_r9 [0,3,5] [3]) (.seq (R F56_r10 [0] []) (.seq (R F56_r11 [] []) (.seq (R F56_r12 [4] []) (.ret))))))))),[.t 4]⟩
def F57_r0:List AIns:=[jb 3 1,jc 4 0]
def F57_r1:List AIns:=[jm 8 0,ja 9 2 3,jl 10 9,ii 11 (cl N88_ [8,10]),ii 5 (.alloc true Z6),jns 2 5 11]
def F57_r2:List AIns:=[ja 12 0 5,jl 13 12,ju 14 13]
def F57_r3:List AIns:=[jc 4 1]
def F57_r4:List AIns:=[jm 16 0,jh 17 16,ja 18 3 17,jL 19 18,ja 20 1 5,jl 21 20,ja 22 4 3,jl 23 22,ii 24 (cl N92_ [19,21,23]),jm 15 24,jz 25 15 0,jz 26 15 1,ii 6 (.alloc true Z6),jns 2 6 25,jm 7 26]
def F57_r5:List AIns:=[jm 27 7,ii 28 (.bin .neq (.t 27) (.c (.lit (.int .i64 0))))]
def F57_r6:List AIns:=[jc 4 1]
def F57_r7:List AIns:=[jm 29 0,ja 30 1 3,jl 31 30,jk 32 2 6,ii 33 (cl N87_ [29,31,32])]
def F57_r8:List AIns:=[jm 34 0,jh 35 34,ja 36 5 35,jL 37 36,jA 38 37 1,jh 39 34,ja 40 5 39,jnS 1 40 38]
def F57_r9:List AIns:=[jc 4 0]
def F57_:AFun:=⟨2,.seq (R F57_r0 [0,3] [3]) (.seq (R F57_r1 [0,3,5] [3,5]) (.seq (.seq (R F57_r2 [0,3,5,14] [3,5]) (.cond (.t 14) (.seq (R F57_r3 [4] []) (.ret)) (.skip))) (.seq (.reg F57_r4 [6] [0,3,6,7] [3,6]) (.seq (.seq (R F57_r5 [0,3,6,28] [3,6]) (.cond (.t 28) (.seq (R F57_r6 [4] []) (.ret)) (.skip))) (.seq (R F57_r7 [0] []) (.seq (R F57_r8 [] []) (.seq (R F57_r9 [4] []) (.ret)))))))),[.t 4]⟩
def F58_r0:List AIns:=[jb 3 1,jc 4 0]
def F58_r1:List AIns:=[jm 6 0,ja 7 1 3,jl 8 7,ii 9 (cl N88_ [6,8]),ii 5 (.alloc true Z6),jns 2 5 9]
def F58_r3:List AIns:=[ja 18 0 5,jl 19 18,jm 17 19]
def F58_r4:List AIns:=[jc 4 1]
def F58_r5:List AIns:=[ja 21 1 5,jl 22 21,je 23 22 0,jm 20 23]
def F58_r6:List AIns:=[jm 24 0,ja 25 4 3,jl 26 25,jh 27 24,ja 28 5 27,jnS 1 28 26]
def F58_r2:List AIns:=[jm 10 0,jh 11 10,ja 12 5 11,jL 13 12,jA 14 13 1,jh 15 10,ja 16 5 15,jnS 1 16 14]
def F58_r7:List AIns:=[jc 4 0]
def F58_:AFun:=⟨2,.seq (R F58_r0 [0,3] [3]) (.seq (R F58_r1 [0,3,5] [3,5]) (.seq (.block 0 (.seq (R F58_r3 [0,3,5,17] [3,5]) (.cond (.t 17) (.seq (R F58_r4 [4] []) (.ret)) (.seq (R F58_r5 [0,3,20] [3]) (.cond (.t 20) (R F58_r6 [] []) (R F58_r2 [] [])))))) (.seq (R F58_r7 [4] []) (.ret)))),[.t 4]⟩
def F59_r0:List AIns:=[jb 3 1,jc 4 0]
def F59_r1:List AIns:=[jm 6 0,ja 7 1 3,jl 8 7,ii 9 (cl N93_ [6,8]),jm 5 9]
def F59_r2:List AIns:=[jm 10 5,ii 11 (.bin .lss (.t 10) (.c (.lit (.int .i64 0)))),jm 12 11,jfm 13 12 5,jfa 14 12 6 3,jfl 15 12 14,jfg 16 12 15,iF 17 12 (.bin .geq (.t 13) (.t 16)),jP 18 12 17]
def F59_r3:List AIns:=[jc 4 1]
def F59_r4:List AIns:=[jm 19 0,ja 20 6 3,jl 21 20,jm 22 5,jx 23 1 21 22,jL 24 23,jh 25 19,ja 26 5 25,jnS 1 26 24]
def F59_r5:List AIns:=[jc 4 0]
def F59_:AFun:=⟨2,.seq (R F59_r0 [0,3] [3]) (.seq (R F59_r1 [0,3,5] [3]) (.seq (.seq (R F59_r2 [0,3,5,18] [3]) (.cond (.t 18) (.seq (R F59_r3 [4] []) (.ret)) (.skip))) (.seq (R F59_r4 [] []) (.seq (R F59_r5 [4] []) (.ret))))),[.t 4]⟩
def F60_r0:List AIns:=[jb 3 1,jc 4 0]
def F60_r1:List AIns:=[jm 5 0,jm 6 0,ja 7 5 3,jl 8 7,ii 9 (cl N91_ [6,8]),jh 10 5,ja 11 4 10,jnS 1 11 9]
def F60_r2:List AIns:=[jm 12 0,ja 13 4 3,jl 14 13,jh 15 12,ja 16 5 15,jnS 1 16 14]
def F60_r3:List AIns:=[jc 4 0]
def F60_:AFun:=⟨2,.seq (R F60_r0 [0,3] [3]) (.seq (R F60_r1 [0,3] [3]) (.seq (R F60_r2 [] []) (.seq (R F60_r3 [4] []) (.ret)))),[.t 4]⟩
def F61_r0:List AIns:=[jb 3 1,jc 4 0]
def F61_r1:List AIns:=[jm 6 0,ja 7 1 3,jl 8 7,ii 9 (cl N93_ [6,8]),jm 5 9]
def F61_r2:List AIns:=[jm 10 5,ii 11 (.bin .lss (.t 10) (.c (.lit (.int .i64 0)))),jm 12 11,jfm 13 12 5,jfm 14 12 0,jfh 15 12 14,jfa 16 12 0 15,jfa 17 12 2 16,jfL 18 12 17,jfg 19 12 18,iF 20 12 (.bin .geq (.t 13) (.t 19)),jP 21 12 20]
def F61_r3:List AIns:=[jc 4 1]
def F61_r4:List AIns:=[jm 22 0,jm 23 0,ja 24 5 3,jl 25 24,ii 26 (cl N91_ [23,25]),jm 27 0,ja 28 1 3,jl 29 28,ii 30 (cl N88_ [27,29]),jB 31 2 30,ii 32 (.call (.f N94_) [(.t 26),(.c (.lit (.int .i64 0))),(.t 31)]),jh 33 22,ja 34 4 33,jnS 1 34 32]
def F61_r5:List AIns:=[jm 35 0,jm 36 0,jh 37 36,ja 38 0 37,ja 39 2 38,jL 40 39,jm 41 5,jx 42 1 40 41,jL 43 42,jh 44 35,ja 45 5 44,jnS 1 45 43]
def F61_r6:List AIns:=[jc 4 0]
def F61_:AFun:=⟨2,.seq (R F61_r0 [0,3] [3]) (.seq (R F61_r1 [0,3,5] [3]) (.seq (.seq (R F61_r2 [0,3,5,21] [3]) (.cond (.t 21) (.seq (R F61_r3 [4] []) (.ret)) (.skip))) (.seq (R F61_r4 [0,5] []) (.seq (R F61_r5 [] []) (.seq (R F61_r6 [4] []) (.ret)))))),[.t 4]⟩
def F62_r0:List AIns:=[jb 3 1,jc 4 0]
def F62_r1:List AIns:=[jm 6 0,ja 7 1 3,jl 8 7,ii 9 (cl N88_ [6,8]),ii 5 (.alloc true Z6),jns 2 5 9]
def F62_r2:List AIns:=[ja 10 0 5,jl 11 10]
def F62_r3:List AIns:=[jc 4 1]
def F62_r4:List AIns:=[jm 12 0,jm 13 0,jh 14 13,ja 15 9 14,ja 16 2 15,jL 17 16,ja 18 1 5,jl 19 18,jB 20 1 19,ii 21 (.wop (.appm 1 8) [(.t 17),(.t 20)]),jh 22 12,ja 23 9 22,ja 24 2 23,jnS 1 24 21]
def F62_r5:List AIns:=[jm 25 0,jh 26 25,ja 27 5 26,jL 28 27,jA 29 28 1,jh 30 25,ja 31 5 30,jnS 1 31 29]
def F62_r6:List AIns:=[jc 4 0]
def F62_:AFun:=⟨2,.seq (R F62_r0 [0,3] [3]) (.seq (R F62_r1 [0,5] [5]) (.seq (.seq (R F62_r2 [0,5,11] [5]) (.cond (.t 11) (.seq (R F62_r3 [4] []) (.ret)) (.skip))) (.seq (R F62_r4 [0] []) (.seq (R F62_r5 [] []) (.seq (R F62_r6 [4] []) (.ret)))))),[.t 4]⟩
def F63_r0:List AIns:=[jb 3 1,jc 4 0]
def F63_r1:List AIns:=[jm 6 0,ja 7 1 3,jl 8 7,ii 9 (cl N88_ [6,8]),ii 5 (.alloc true Z6),jns 2 5 9]
def F63_r2:List AIns:=[ja 10 0 5,jl 11 10]
def F63_r3:List AIns:=[jc 4 1]
def F63_r4:List AIns:=[jm 12 0,ja 13 1 5,jl 14 13,jh 15 12,ja 16 9 15,ja 17 1 16,jnS 1 17 14]
def F63_r5:List AIns:=[jc 4 3]
def F63_:AFun:=⟨2,.seq (R F63_r0 [0,3] [3]) (.seq (R F63_r1 [0,5] [5]) (.seq (.seq (R F63_r2 [0,5,11] [5]) (.cond (.t 11) (.seq (R F63_r3 [4] []) (.ret)) (.skip))) (.seq (R F63_r4 [] []) (.seq (R F63_r5 [4] []) (.ret))))),[.t 4]⟩
def F64_r0:List AIns:=[ii 2 (.box false (.t 0)),ii 4 (.mv (.c (.slice .full 2 []))),jc 5 0]
def F64_r1:List AIns:=[jL 12 2,ii 13 (.peq false (.t 12) (.c (.lit (.pointer none))))]
def F64_r2:List AIns:=[ii 4 (.mv (.c (.slice .full 2 []))),jc 5 3]
def F64_r3:List AIns:=[jL 14 2,jh 15 14,ja 16 1 15,jm 17 1,ii 18 (cl N95_ [16,17]),ju 19 18]
def F64_r4:List AIns:=[ii 4 (.mv (.c (.slice .full 2 []))),jc 5 171]
def F64_r5:List AIns:=[ii 6 (.alloc false [.slice .full 2 [],.slice .full 1 [],.slice .full 1 []])]
def F64_r6:List AIns:=[jL 20 2,jh 21 20,ja 22 1 21,ja 23 0 22,jL 24 23,jg 25 24,ii 26 (.wop (.mks 1 8 [.lit (.int .i64 0)]) [(.t 25),(.t 25)]),ii 7 (.alloc false [.slice .full 1 []]),jnS 1 7 26]
def F64_r7:List AIns:=[ii 27 (.mkf N96_ [] [(.t 7),(.t 6),(.t 2)]),jm 8 27]
def F64_r8:List AIns:=[jm 28 1,jg 29 28,ii 30 (.wop (.mks 2 16 Z6) [(.t 29),(.t 29)]),jm 9 30]
def F64_r9:List AIns:=[jm 31 9,jm 32 1,ii 33 (.wop (.cpy 2) [(.t 31),(.t 32)])]
def F64_r10:List AIns:=[jm 34 8,jm 35 9,ii 36 (.call (.t 34) [(.t 35)])]
def F64_r11:List AIns:=[jc 10 0]
def F64_r12:List AIns:=[jm 37 10,ja 38 2 6,jL 39 38,jg 40 39,jq 41 37 40]
def F64_r14:List AIns:=[ja 44 2 6,jL 45 44,jm 46 10,jx 47 1 45 46,jL 48 47,ii 49 (cl N86_ [6,48]),ii 50 (cl N36_ [49]),jm 11 50]
def F64_r15:List AIns:=[jm 51 8,jm 52 11,ii 53 (.call (.t 51) [(.t 52)])]
def F64_r16:List AIns:=[ja 54 2 6,jL 55 54,jm 56 10,jx 57 1 55 56,jL 58 57,ii 59 (cl N86_ [6,58]),jm 60 11,ii 61 (.wop (.cpy 2) [(.t 59),(.t 60)])]
def F64_r13:List AIns:=[jm 42 10,jA 43 42 1,jm 10 43]
def F64_l1:AC:=.seq (.seq (R F64_r12 [2,6,8,9,10,41] []) (.cond (.t 41) (.skip) (.exit 0))) (.seq (.block 1 (.seq (R F64_r14 [2,6,8,9,10,11] []) (.seq (R F64_r15 [2,6,8,9,10,11] []) (R F64_r16 [2,6,8,9,10] [])))) (R F64_r13 [2,6,8,9,10] []))
def F64_r17:List AIns:=[jL 62 2,jK 63 3 6,jh 64 62,ja 65 1 64,jnS 3 65 63]
def F64_r18:List AIns:=[jm 66 9,jm 4 66,jc 5 0]
def F64_:AFun:=⟨2,.seq (R F64_r0 [1,2] []) (.seq (.seq (R F64_r1 [1,2,13] []) (.cond (.t 13) (.seq (R F64_r2 [4,5] []) (.ret)) (.skip))) (.seq (.seq (R F64_r3 [1,2,19] []) (.cond (.t 19) (.seq (R F64_r4 [4,5] []) (.ret)) (.skip))) (.seq (R F64_r5 [1,2,6] []) (.seq (R F64_r6 [1,2,6,7] []) (.seq (R F64_r7 [1,2,6,8] []) (.seq (R F64_r8 [1,2,6,8,9] []) (.seq (R F64_r9 [2,6,8,9] []) (.seq (R F64_r10 [2,6,8,9] []) (.seq (.seq (R F64_r11 [2,6,8,9,10] []) (.block 0 (.loop F64_l1))) (.seq (R F64_r17 [9] []) (.seq (R F64_r18 [4,5] []) (.ret)))))))))))),[.t 4,.t 5]⟩
def F65_r0:List AIns:=[jb 2 0,ii 4 (.alloc true Z7),ii 5 (.mv (.c (.slice .full 2 [])))]
def F65_r1:List AIns:=[jk 15 2 2,jm 16 1,ii 17 (cl N98_ [15,16]),jm 6 17]
def F65_r2:List AIns:=[ii 7 (.mv (.c (.slice .full 1 [])))]
def F65_r3:List AIns:=[jc 8 0]
def F65_r4:List AIns:=[jm 18 6,jg 19 18,jc 20 0]
def F65_r5:List AIns:=[jq 21 20 19]
def F65_r6:List AIns:=[jx 22 1 18 20,jl 23 22,jm 10 23]
def F65_r7:List AIns:=[jm 24 7,jm 25 8,jB 26 1 25,ii 27 (.app 1 8 (.t 24) (.t 26)),jm 7 27]
def F65_r8:List AIns:=[jm 28 8,ja 29 1 2,jl 30 29,jk 31 2 2,jm 32 10,ii 33 (cl N100_ [31,32]),jx 34 3 30 33,ja 35 2 34,jl 36 35,jg 37 36,ii 38 (cl N99_ [37]),ii 39 (.bin .add (.t 28) (.t 38)),jm 8 39]
def F65_r9:List AIns:=[jA 40 20 1,jm 20 40]
def F65_l1:AC:=.seq (R F65_r5 [1,2,4,6,7,8,18,19,20,21] [2,4]) (.seq (.cond (.t 21) (.skip) (.exit 0)) (.seq (.block 1 (.seq (R F65_r6 [1,2,4,6,7,8,10,18,19,20] [2,4]) (.seq (R F65_r7 [1,2,4,6,7,8,10,18,19,20] [2,4]) (R F65_r8 [1,2,4,6,7,8,18,19,20] [2,4])))) (R F65_r9 [1,2,4,6,7,8,18,19,20] [2,4])))
def F65_r10:List AIns:=[ja 41 0 2,jl 42 41,ii 43 (.build Z7 [(0,1,(.t 42))]),ii 11 (.alloc true Z7),jns 2 11 43]
def F65_r11:List AIns:=[jm 44 6,jg 45 44,jc 46 0]
def F65_r12:List AIns:=[jq 47 46 45]
def F65_r13:List AIns:=[jm 48 46,jx 49 1 44 46,jl 50 49,jm 12 48,jm 13 50]
def F65_r14:List AIns:=[ja 51 1 2,jl 52 51,jk 53 2 2,jm 54 13,ii 55 (cl N100_ [53,54]),jx 56 3 52 55,jk 57 3 56,ii 14 (.alloc true Z3),jns 3 14 57]
def F65_r15:List AIns:=[ja 58 1 11,jl 59 58,jm 60 7,jm 61 12,jx 62 1 60 61,jl 63 62,ja 64 1 14,jl 65 64,ja 66 2 14,jl 67 66,jm 68 6,jm 69 7,ii 70 (cl N101_ [67,68,69]),ii 71 (.build Z3 [(0,1,(.t 63)),(1,1,(.t 65)),(2,1,(.t 70))]),jB 72 3 71,ii 73 (.app 3 40 (.t 59) (.t 72)),ja 74 1 11,jns 1 74 73]
def F65_r16:List AIns:=[jA 75 46 1,jm 46 75]
def F65_l2:AC:=.seq (R F65_r12 [1,2,4,6,7,11,44,45,46,47] [2,4,11]) (.seq (.cond (.t 47) (.skip) (.exit 2)) (.seq (.block 3 (.seq (R F65_r13 [1,2,4,6,7,11,12,13,44,45,46] [2,4,11]) (.seq (.reg F65_r14 [14] [1,2,4,6,7,11,12,14,44,45,46] [2,4,11,14]) (R F65_r15 [1,2,4,6,7,11,44,45,46] [2,4,11])))) (R F65_r16 [1,2,4,6,7,11,44,45,46] [2,4,11])))
def F65_r17:List AIns:=[jk 76 2 11,jm 77 1,jm 78 6,jm 79 7,ii 80 (cl N101_ [77,78,79]),jns 2 4 76,jm 5 80]
def F65_:AFun:=⟨2,.seq (R F65_r0 [1,2,4] [2,4]) (.seq (R F65_r1 [1,2,4,6] [2,4]) (.seq (R F65_r2 [1,2,4,6,7] [2,4]) (.seq (R F65_r3 [1,2,4,6,7,8] [2,4]) (.seq (.seq (R F65_r4 [1,2,4,6,7,8,18,19,20] [2,4]) (.block 0 (.loop F65_l1))) (.seq (R F65_r10 [1,2,4,6,7,11] [2,4,11]) (.seq (.seq (R F65_r11 [1,2,4,6,7,11,44,45,46] [2,4,11]) (.block 2 (.loop F65_l2))) (.seq (R F65_r17 [4,5] [4]) (.ret)))))))),[.cell (some 2) 4,.t 5]⟩
def F66_r0:List AIns:=[jb 2 0,jf_ 4]
def F66_r1:List AIns:=[ja 5 0 2,jl 6 5]
def F66_r2:List AIns:=[je 8 6 0,jm 7 8]
def F66_r3:List AIns:=[ii 4 (.mv (.c (.lit (.bool true))))]
def F66_r4:List AIns:=[je 10 6 2,jm 9 10]
def F66_r5:List AIns:=[ja 11 4 2,jl 12 11,ii 13 (.call (.f N42_) [(.t 12),(.c (.lit (.int .i64 6)))]),jm 4 13]
def F66_r6:List AIns:=[je 15 6 3,jm 14 15]
def F66_r7:List AIns:=[ja 16 4 2,jl 17 16,ii 18 (.call (.f N42_) [(.t 17),(.c (.lit (.int .i64 100000)))]),jm 4 18]
def F66_r8:List AIns:=[je 20 6 4,jm 19 20]
def F66_r9:List AIns:=[ja 21 4 2,jl 22 21,ii 23 (.call (.f N42_) [(.t 22),(.c (.lit (.int .i64 1023)))]),jm 4 23]
def F66_r10:List AIns:=[je 25 6 5,jm 24 25]
def F66_r11:List AIns:=[je 26 6 7,jm 24 26]
def F66_r12:List AIns:=[ja 27 4 2,jl 28 27,jm 29 1,ii 30 (.bin .sub (.t 29) (.c (.lit (.int .i64 1)))),ii 31 (cl N42_ [28,30]),jm 4 31]
def F66_r13:List AIns:=[ja 32 4 2,jl 33 32,je 34 33 0,jm 4 34]
def F66_:AFun:=⟨2,.seq (R F66_r0 [1,2] [2]) (.seq (.seq (R F66_r1 [1,2,6] [2]) (.block 0 (.seq (R F66_r2 [1,2,6,7] [2]) (.cond (.t 7) (.seq (R F66_r3 [4] []) (.ret)) (.seq (R F66_r4 [1,2,6,9] [2]) (.cond (.t 9) (.seq (R F66_r5 [4] []) (.ret)) (.seq (R F66_r6 [1,2,6,14] [2]) (.cond (.t 14) (.seq (R F66_r7 [4] []) (.ret)) (.seq (R F66_r8 [1,2,6,19] [2]) (.cond (.t 19) (.seq (R F66_r9 [4] []) (.ret)) (.seq (.seq (R F66_r10 [1,2,6,24] [2]) (.cond (.t 24) (.skip) (R F66_r11 [1,2,24] [2]))) (.cond (.t 24) (.seq (R F66_r12 [4] []) (.ret)) (.skip))))))))))))) (.seq (R F66_r13 [4] []) (.ret))),[.t 4]⟩
def F67_r0:List AIns:=[jf_ 6]
def F67_r1:List AIns:=[jm 7 2,je 8 7 0,jm 9 8,jfm 10 9 0,jfm 11 9 1,iF 12 9 (cl N68_ [10,11]),jfm 13 9 12,jtm 14 13 2,it 15 13 (.call (.f N42_) [(.t 14),(.c (.lit (.int .i64 1023)))]),jfp 16 9 13 15,jP 17 9 16,jm 6 17]
def F67_:AFun:=⟨3,.seq (R F67_r0 [0,1,2] []) (.seq (R F67_r1 [6] []) (.ret)),[.t 6]⟩
def F68_r0:List AIns:=[jf_ 4]
def F68_r1:List AIns:=[jm 5 0,ii 6 (cl N103_ [5]),jm 7 1,ii 8 (cl N102_ [6,7]),jm 4 8]
def F68_:AFun:=⟨2,.seq (R F68_r0 [0,1] []) (.seq (R F68_r1 [4] []) (.ret)),[.t 4]⟩
def F69_r0:List AIns:=[jf_ 4]
def F69_r1:List AIns:=[jm 7 0,jg 8 7,jc 9 0]
def F69_r2:List AIns:=[jq 10 9 8]
def F69_r3:List AIns:=[jx 11 1 7 9,jl 12 11,jm 6 12]
def F69_r4:List AIns:=[jm 13 6,ii 14 (.call (.f N42_) [(.t 13),(.c (.lit (.int .i64 1023)))]),ju 15 14]
def F69_r5:List AIns:=[jf_ 4]
def F69_r6:List AIns:=[jA 16 9 1,jm 9 16]
def F69_l1:AC:=.seq (R F69_r2 [0,1,7,8,9,10] []) (.seq (.cond (.t 10) (.skip) (.exit 0)) (.seq (.block 1 (.seq (R F69_r3 [0,1,6,7,8,9] []) (.seq (R F69_r4 [0,1,7,8,9,15] []) (.cond (.t 15) (.seq (R F69_r5 [4] []) (.ret)) (.skip))))) (R F69_r6 [0,1,7,8,9] [])))
def F69_r7:List AIns:=[jm 17 0,jg 18 17,jm 19 1,ii 20 (.bin .leq (.t 18) (.t 19)),jm 4 20]
def F69_:AFun:=⟨2,.seq (R F69_r0 [0,1] []) (.seq (.seq (R F69_r1 [0,1,7,8,9] []) (.block 0 (.loop F69_l1))) (.seq (R F69_r7 [4] []) (.ret))),[.t 4]⟩
def F70_r0:List AIns:=[ii 0 (.alloc true [.lit (.string ⟨#[]⟩),.lit (.string ⟨#[]⟩),.lit (.string ⟨#[]⟩),.lit (.string ⟨#[]⟩),.lit (.string ⟨#[]⟩),.lit (.string ⟨#[]⟩),.lit (.string ⟨#[]⟩),.lit (.string ⟨#[]⟩),.lit (.string ⟨#[]⟩),.lit (.string ⟨#[]⟩),.lit (.string ⟨#[]⟩),.lit (.string ⟨#[]⟩),.lit (.string ⟨#[]⟩),.lit (.string ⟨#[]⟩),.lit (.string ⟨#[]⟩),.lit (.string ⟨#[]⟩),.lit (.string ⟨#[]⟩),.lit (.string ⟨#[]⟩),.lit (.string ⟨#[]⟩),.lit (.string ⟨#[]⟩),.lit (.string ⟨#[]⟩),.lit (.string ⟨#[]⟩)])]
def F70_r1:List AIns:=[ii 1 (.build Z5 [(0,1,(.c (.lit (.string ⟨#[108,105,116]⟩)))),(1,1,(.c (.lit (.string ⟨#[97,110]⟩))))]),ii 2 (.build Z5 [(0,1,(.c (.lit (.string ⟨#[109,111,118,101]⟩)))),(1,1,(.c (.lit (.string ⟨#[97,98]⟩))))]),ii 3 (.build Z5 [(0,1,(.c (.lit (.string ⟨#[112,114,105,109]⟩)))),(1,1,(.c (.lit (.string ⟨#[111,97,98,99]⟩))))]),ii 4 (.build Z5 [(0,1,(.c (.lit (.string ⟨#[110,101,119]⟩)))),(1,1,(.c (.lit (.string ⟨#[97,116,114]⟩))))]),ii 5 (.build Z5 [(0,1,(.c (.lit (.string ⟨#[108,111,97,100]⟩)))),(1,1,(.c (.lit (.string ⟨#[97,98,102]⟩))))]),ii 6 (.build Z5 [(0,1,(.c (.lit (.string ⟨#[122,101,114,111]⟩)))),(1,1,(.c (.lit (.string ⟨#[97,112]⟩))))]),ii 7 (.build Z5 [(0,1,(.c (.lit (.string ⟨#[115,119,105,116,99,104]⟩)))),(1,1,(.c (.lit (.string ⟨#[97,115]⟩))))]),ii 8 (.build Z5 [(0,1,(.c (.lit (.string ⟨#[106,117,109,112]⟩)))),(1,1,(.c (.lit (.string ⟨#[112,114]⟩))))]),ii 9 (.build Z5 [(0,1,(.c (.lit (.string ⟨#[101,110,116,101,114]⟩)))),(1,1,(.c (.lit (.string ⟨#[97,114]⟩))))]),ii 10 (.build Z5 [(0,1,(.c (.lit (.string ⟨#[101,109,105,116]⟩)))),(1,1,(.c (.lit (.string ⟨#[97]⟩))))]),ii 11 (.build Z5 [(0,1,(.c (.lit (.string ⟨#[100,111,110,101]⟩)))),(1,1,(.c (.lit (.string ⟨#[97]⟩))))]),ii 12 (.build [.lit (.string ⟨#[]⟩),.lit (.string ⟨#[]⟩),.lit (.string ⟨#[]⟩),.lit (.string ⟨#[]⟩),.lit (.string ⟨#[]⟩),.lit (.string ⟨#[]⟩),.lit (.string ⟨#[]⟩),.lit (.string ⟨#[]⟩),.lit (.string ⟨#[]⟩),.lit (.string ⟨#[]⟩),.lit (.string ⟨#[]⟩),.lit (.string ⟨#[]⟩),.lit (.string ⟨#[]⟩),.lit (.string ⟨#[]⟩),.lit (.string ⟨#[]⟩),.lit (.string ⟨#[]⟩),.lit (.string ⟨#[]⟩),.lit (.string ⟨#[]⟩),.lit (.string ⟨#[]⟩),.lit (.string ⟨#[]⟩),.lit (.string ⟨#[]⟩),.lit (.string ⟨#[]⟩)] [(0,2,(.t 1)),(2,2,(.t 2)),(4,2,(.t 3)),(6,2,(.t 4)),(8,2,(.t 5)),(10,2,(.t 6)),(12,2,(.t 7)),(14,2,(.t 8)),(16,2,(.t 9)),(18,2,(.t 10)),(20,2,(.t 11))]),jns 22 0 12]
def F70_:AFun:=⟨0,.seq (R F70_r0 [0] [0]) (.seq (R F70_r1 [0] [0]) (.ret)),[.cell (some 22) 0]⟩
def F72_r0:List AIns:=[jf_ 2]
def F72_r1:List AIns:=[jm 3 0,ii 4 (.bin .geq (.t 3) (.c (.lit (.int .i64 0)))),jm 5 4,jtm 6 5 0,it 7 5 (.bin .lss (.t 6) (.c (.lit (.int .i64 1024)))),jp 8 5 7,jm 2 8]
def F72_:AFun:=⟨1,.seq (R F72_r0 [0] []) (.seq (R F72_r1 [2] []) (.ret)),[.t 2]⟩
def F73_r0:List AIns:=[jf_ 4]
def F73_r1:List AIns:=[jm 5 0,jm 6 1,ii 7 (cl N104_ [5,6]),ii 8 (.bin .geq (.t 7) (.c (.lit (.int .i64 0)))),jm 4 8]
def F73_:AFun:=⟨2,.seq (R F73_r0 [0,1] []) (.seq (R F73_r1 [4] []) (.ret)),[.t 4]⟩
def F74_r0:List AIns:=[jf_ 2]
def F74_r1:List AIns:=[jm 3 0,ii 4 (cl N72_ [3]),ju 5 4,jm 2 5]
def F74_:AFun:=⟨1,.seq (R F74_r0 [0] []) (.seq (R F74_r1 [2] []) (.ret)),[.t 2]⟩
def F75_r0:List AIns:=[jf_ 3]
def F75_r1:List AIns:=[jm 4 0,ii 5 (.bin .lss (.t 4) (.c (.lit (.int .i64 0)))),jm 6 5,jfm 7 6 0,jfL 8 6 1,iF 9 6 (.bin .geq (.t 7) (.t 8)),jP 10 6 9,jm 3 10]
def F75_:AFun:=⟨2,.seq (R F75_r0 [0,1] []) (.seq (R F75_r1 [3] []) (.ret)),[.t 3]⟩
def F76_r0:List AIns:=[jb 3 0,jf_ 6]
def F76_r1:List AIns:=[jk 8 2 3,ii 9 (.call (.f N71_) [(.t 8),(.c (.lit (.int .i32 110)))]),jm 7 9]
def F76_r2:List AIns:=[ii 6 (.mv (.c (.lit (.bool true))))]
def F76_r3:List AIns:=[jk 11 2 3,ii 12 (.call (.f N71_) [(.t 11),(.c (.lit (.int .i32 111)))]),jm 10 12]
def F76_r4:List AIns:=[jm 13 1,ii 14 (.bin .geq (.t 13) (.c (.lit (.int .i64 0)))),jm 15 14,jtm 16 15 1,it 17 15 (.bin .leq (.t 16) (.c (.lit (.int .i64 6)))),jp 18 15 17,jm 6 18]
def F76_r5:List AIns:=[jk 20 2 3,ii 21 (.call (.f N71_) [(.t 20),(.c (.lit (.int .i32 116)))]),jm 19 21]
def F76_r6:List AIns:=[jm 22 1,ii 23 (.bin .geq (.t 22) (.c (.lit (.int .i64 0)))),jm 24 23,jtm 25 24 1,it 26 24 (.bin .leq (.t 25) (.c (.lit (.int .i64 100000)))),jp 27 24 26,jm 6 27]
def F76_r7:List AIns:=[jk 29 2 3,ii 30 (.call (.f N71_) [(.t 29),(.c (.lit (.int .i32 102)))]),jm 28 30]
def F76_r8:List AIns:=[jm 31 1,ii 32 (.bin .geq (.t 31) (.c (.lit (.int .i64 0)))),jm 33 32,jtm 34 33 1,it 35 33 (.bin .lss (.t 34) (.c (.lit (.int .i64 1024)))),jp 36 33 35,jm 6 36]
def F76_r9:List AIns:=[jk 38 2 3,ii 39 (.call (.f N71_) [(.t 38),(.c (.lit (.int .i32 112)))]),jm 37 39]
def F76_r10:List AIns:=[jm 40 1,ii 41 (.bin .geq (.t 40) (.c (.lit (.int .i64 0)))),jm 42 41,jtm 43 42 1,jtm 44 42 2,jtq 45 42 43 44,jp 46 42 45,jm 6 46]
def F76_r11:List AIns:=[jm 47 1,je 48 47 0,jm 6 48]
def F76_:AFun:=⟨3,.seq (R F76_r0 [1,2,3] [3]) (.seq (.block 0 (.seq (R F76_r1 [1,2,3,7] [3]) (.cond (.t 7) (.seq (R F76_r2 [6] []) (.ret)) (.seq (R F76_r3 [1,2,3,10] [3]) (.cond (.t 10) (.seq (R F76_r4 [6] []) (.ret)) (.seq (R F76_r5 [1,2,3,19] [3]) (.cond (.t 19) (.seq (R F76_r6 [6] []) (.ret)) (.seq (R F76_r7 [1,2,3,28] [3]) (.cond (.t 28) (.seq (R F76_r8 [6] []) (.ret)) (.seq (R F76_r9 [1,2,37] []) (.cond (.t 37) (.seq (R F76_r10 [6] []) (.ret)) (.skip)))))))))))) (.seq (R F76_r11 [6] []) (.ret))),[.t 6]⟩
def F77_r0:List AIns:=[jb 3 0,jb 5 2,ii 6 (.alloc true Z0)]
def F77_r1:List AIns:=[ja 7 7 3,jl 8 7,ii 9 (cl N105_ [8]),ja 10 7 3,jns 1 10 9]
def F77_r2:List AIns:=[ja 11 7 3,jl 12 11,jm 13 1,jk 14 2 5,jx 15 2 12 13,jnS 2 15 14]
def F77_r3:List AIns:=[ja 16 8 3,jl 17 16,jA 18 17 1,ja 19 8 3,jns 1 19 18]
def F77_r4:List AIns:=[jk 20 15 3,jns 15 6 20]
def F77_:AFun:=⟨3,.seq (R F77_r0 [1,3,5,6] [3,5,6]) (.seq (R F77_r1 [1,3,5,6] [3,5,6]) (.seq (R F77_r2 [3,6] [3,6]) (.seq (R F77_r3 [3,6] [3,6]) (.seq (R F77_r4 [6] [6]) (.retz 1 6))))),[.cell (some 15) 6]⟩
def F78_r0:List AIns:=[jb 2 0,jb 3 1,ii 4 (.alloc true Z0)]
def F78_r1:List AIns:=[ja 9 9 2,jl 10 9,jm 5 10]
def F78_r2:List AIns:=[jm 11 5,jA 12 11 1,ja 13 9 2,jns 1 13 12]
def F78_r3:List AIns:=[ja 14 3 2,jl 15 14,ii 16 (.bin .gtr (.t 15) (.c (.lit (.int .i64 0)))),jm 17 16,jtm 18 17 5,jta 19 17 3 2,jtl 20 17 19,it 21 17 (.bin .rem (.t 18) (.t 20)),jte 22 17 21 0,jp 23 17 22]
def F78_r4:List AIns:=[jk 24 15 2,ii 25 (cl N41_ [24]),jns 15 2 25]
def F78_r5:List AIns:=[ja 26 5 2,jk 27 2 26,ii 28 (cl N106_ [27]),ja 29 5 3,jl 30 29,jg 31 30,ii 32 (cl N99_ [31]),ii 33 (.bin .add (.t 28) (.t 32)),ja 34 5 2,ja 35 0 34,jl 36 35,ii 37 (.bin .gtr (.t 33) (.t 36))]
def F78_r6:List AIns:=[jk 38 15 2,ii 39 (cl N41_ [38]),jns 15 2 39]
def F78_r7:List AIns:=[ja 41 5 2,jk 42 2 41,ja 43 4 3,jl 44 43,jk 45 15 2,ja 46 5 3,jl 47 46,ii 48 (cl N82_ [45,47]),ii 49 (cl N107_ [42,44,48]),jm 40 49,jz 50 40 0,jz 51 40 1,jz 52 40 2,ii 6 (.alloc true Z7),jns 2 6 50,jm 7 51,jm 8 52]
def F78_r8:List AIns:=[jm 53 8,ii 54 (.bin .neq (.t 53) (.c (.lit (.int .i64 0))))]
def F78_r9:List AIns:=[jk 55 15 2,ii 56 (.call (.f N48_) [(.t 55),(.c (.lit (.int .i64 3)))]),jns 15 4 56]
def F78_r10:List AIns:=[jk 57 2 6,ja 58 5 2,jns 2 58 57]
def F78_r11:List AIns:=[jk 59 15 2,ja 60 1 3,jl 61 60,jm 62 7,ii 63 (.build Z6 [(0,1,(.c (.lit (.bool true)))),(1,1,(.t 62))]),ii 64 (cl N77_ [59,61,63]),jns 15 4 64]
def F78_:AFun:=⟨2,.seq (R F78_r0 [2,3,4] [2,3,4]) (.seq (R F78_r1 [2,3,4,5] [2,3,4]) (.seq (R F78_r2 [2,3,4,5] [2,3,4]) (.seq (.seq (R F78_r3 [2,3,4,23] [2,3,4]) (.cond (.t 23) (R F78_r4 [2,3,4] [2,3,4]) (.skip))) (.seq (.seq (R F78_r5 [2,3,4,37] [2,3,4]) (.cond (.t 37) (R F78_r6 [2,3,4] [2,3,4]) (.skip))) (.seq (.reg F78_r7 [6] [2,3,4,6,7,8] [2,3,4,6]) (.seq (.seq (R F78_r8 [2,3,4,6,7,54] [2,3,4,6]) (.cond (.t 54) (.seq (R F78_r9 [4] [4]) (.ret)) (.skip))) (.seq (R F78_r10 [2,3,4,7] [2,3,4]) (.seq (R F78_r11 [4] [4]) (.ret))))))))),[.cell (some 15) 4]⟩
def F79_r0:List AIns:=[jb 2 0,jb 3 1,ii 4 (.alloc true Z0)]
def F79_r1:List AIns:=[jk 8 15 2,ja 9 2 3,jl 10 9,ii 11 (cl N108_ [8,10]),jm 7 11,jz 12 7 0,jz 13 7 1,ii 5 (.alloc true Z3),jns 3 5 12,jm 6 13]
def F79_r2:List AIns:=[jm 14 6,ju 15 14,jm 16 15,jfa 17 16 4 3,jfl 18 16 17,jfa 19 16 2 5,jfl 20 16 19,jfg 21 16 20,iF 22 16 (.bin .geq (.t 18) (.t 21)),jP 23 16 22]
def F79_r3:List AIns:=[jk 24 15 2,ii 25 (.call (.f N48_) [(.t 24),(.c (.lit (.int .i64 2)))]),jns 15 4 25]
def F79_r4:List AIns:=[jk 26 15 2,ja 27 1 3,jl 28 27,ja 29 2 5,jl 30 29,ja 31 4 3,jl 32 31,jx 33 2 30 32,jk 34 2 33,ii 35 (cl N77_ [26,28,34]),jns 15 4 35]
def F79_:AFun:=⟨2,.seq (R F79_r0 [2,3,4] [2,3,4]) (.seq (R F79_r1 [2,3,4,5,6] [2,3,4,5]) (.seq (.seq (R F79_r2 [2,3,4,5,23] [2,3,4,5]) (.cond (.t 23) (.seq (R F79_r3 [4] [4]) (.ret)) (.skip))) (.seq (R F79_r4 [4] [4]) (.ret)))),[.cell (some 15) 4]⟩
def F80_r0:List AIns:=[jb 3 0,jb 4 1,ii 6 (.alloc true Z0)]
def F80_r1:List AIns:=[jk 10 15 3,ja 11 1 4,jl 12 11,ii 13 (cl N108_ [10,12]),jm 9 13,jz 14 9 0,jz 15 9 1,ii 7 (.alloc true Z3),jns 3 7 14,jm 8 15]
def F80_r2:List AIns:=[jm 16 8,ju 17 16,jm 18 17,jfa 19 18 1 7,jfl 20 18 19,jfm 21 18 2,jfg 22 18 21,iF 23 18 (.bin .geq (.t 20) (.t 22)),jP 24 18 23]
def F80_r3:List AIns:=[jk 25 15 3,ii 26 (.call (.f N48_) [(.t 25),(.c (.lit (.int .i64 2)))]),jns 15 6 26]
def F80_r4:List AIns:=[ja 27 0 4,jl 28 27,je 29 28 8]
def F80_r5:List AIns:=[ja 30 7 3,jl 31 30,ja 32 1 4,jl 33 32,jx 34 2 31 33,jk 35 2 34,jB 36 2 35,jk 37 15 3,ja 38 5 4,jl 39 38,ii 40 (cl N82_ [37,39]),ii 41 (.app 2 16 (.t 36) (.t 40)),ii 42 (cl N81_ [41]),ja 43 7 3,jns 1 43 42]
def F80_r6:List AIns:=[jm 44 2,ja 45 1 7,jl 46 45,jx 47 1 44 46,jl 48 47,ja 49 8 3,jns 1 49 48]
def F80_r7:List AIns:=[jk 50 15 3,jns 15 6 50]
def F80_:AFun:=⟨3,.seq (R F80_r0 [2,3,4,6] [3,4,6]) (.seq (R F80_r1 [2,3,4,6,7,8] [3,4,6,7]) (.seq (.seq (R F80_r2 [2,3,4,6,7,24] [3,4,6,7]) (.cond (.t 24) (.seq (R F80_r3 [6] [6]) (.ret)) (.skip))) (.seq (.seq (R F80_r4 [2,3,4,6,7,29] [3,4,6,7]) (.cond (.t 29) (R F80_r5 [2,3,6,7] [3,6,7]) (.skip))) (.seq (R F80_r6 [3,6] [3,6]) (.seq (R F80_r7 [6] [6]) (.ret)))))),[.cell (some 15) 6]⟩
def F81_r0:List AIns:=[ii 2 (.mv (.c (.slice .full 2 [])))]
def F81_r1:List AIns:=[ii 4 (.wop (.mks 2 16 Z6) [(.c (.lit (.int .i64 1024))),(.c (.lit (.int .i64 1024)))]),jm 3 4]
def F81_r2:List AIns:=[jm 5 3,jm 6 0,ii 7 (.wop (.cpy 2) [(.t 5),(.t 6)])]
def F81_r3:List AIns:=[jm 8 3,jm 2 8]
def F81_:AFun:=⟨1,.seq (R F81_r0 [0] []) (.seq (R F81_r1 [0,3] []) (.seq (R F81_r2 [3] []) (.seq (R F81_r3 [2] []) (.retz 1 2)))),[.t 2]⟩
def F82_r0:List AIns:=[jb 2 0,ii 4 (.mv (.c (.slice .full 2 [])))]
def F82_r1:List AIns:=[ii 5 (.mv (.c (.slice .full 2 [])))]
def F82_r2:List AIns:=[jm 8 1,jg 9 8,jc 10 0]
def F82_r3:List AIns:=[jq 11 10 9]
def F82_r4:List AIns:=[jx 12 1 8 10,jl 13 12,jm 7 13]
def F82_r5:List AIns:=[jm 14 5,ja 15 7 2,jl 16 15,jm 17 7,jx 18 2 16 17,jk 19 2 18,jB 20 2 19,ii 21 (.app 2 16 (.t 14) (.t 20)),jm 5 21]
def F82_r6:List AIns:=[jA 22 10 1,jm 10 22]
def F82_l1:AC:=.seq (R F82_r3 [2,5,8,9,10,11] [2]) (.seq (.cond (.t 11) (.skip) (.exit 0)) (.seq (.block 1 (.seq (R F82_r4 [2,5,7,8,9,10] [2]) (R F82_r5 [2,5,8,9,10] [2]))) (R F82_r6 [2,5,8,9,10] [2])))
def F82_r7:List AIns:=[jm 23 5,jm 4 23]
def F82_:AFun:=⟨2,.seq (R F82_r0 [1,2] [2]) (.seq (R F82_r1 [1,2,5] [2]) (.seq (.seq (R F82_r2 [2,5,8,9,10] [2]) (.block 0 (.loop F82_l1))) (.seq (R F82_r7 [4] []) (.ret)))),[.t 4]⟩
def F83_r0:List AIns:=[jb 2 0,jb 3 1,ii 4 (.alloc true Z0)]
def F83_r1:List AIns:=[ja 6 0 3,jl 7 6]
def F83_r2:List AIns:=[je 9 7 2,jm 8 9]
def F83_r3:List AIns:=[jk 10 15 2,ja 11 2 3,jl 12 11,ja 13 3 3,jl 14 13,ii 15 (.bsl 1 [(.t 12),(.t 14)]),ii 16 (cl N109_ [10,15]),ju 17 16]
def F83_r4:List AIns:=[jk 18 15 2,ii 19 (.call (.f N48_) [(.t 18),(.c (.lit (.int .i64 2)))]),jns 15 4 19]
def F83_r5:List AIns:=[jk 20 15 2,ja 21 1 3,jl 22 21,ja 23 4 3,jl 24 23,ja 25 7 2,jl 26 25,ja 27 2 3,jl 28 27,jx 29 2 26 28,ja 30 1 29,jl 31 30,ja 32 7 2,jl 33 32,ja 34 3 3,jl 35 34,jx 36 2 33 35,ja 37 1 36,jl 38 37,ii 39 (cl N110_ [24,31,38]),ii 40 (.build Z6 [(1,1,(.t 39))]),ii 41 (cl N77_ [20,22,40]),jns 15 4 41]
def F83_r6:List AIns:=[je 43 7 5,jm 42 43]
def F83_r7:List AIns:=[jk 44 15 2,ja 45 1 3,jl 46 45,jB 47 1 46,ii 48 (cl N109_ [44,47]),ju 49 48]
def F83_r8:List AIns:=[jk 50 15 2,ii 51 (.call (.f N48_) [(.t 50),(.c (.lit (.int .i64 2)))]),jns 15 4 51]
def F83_r9:List AIns:=[ja 52 8 2,jl 53 52,jA 54 53 1,ja 55 8 2,jns 1 55 54]
def F83_r10:List AIns:=[ja 56 7 2,jl 57 56,ja 58 1 3,jl 59 58,jx 60 2 57 59,ja 61 1 60,jl 62 61,je 63 62 0]
def F83_r11:List AIns:=[ja 64 4 3,jl 65 64,ja 66 8 2,jns 1 66 65]
def F83_r12:List AIns:=[jk 67 15 2,jns 15 4 67]
def F83_r13:List AIns:=[jk 68 15 2,ja 69 1 3,jl 70 69,jB 71 1 70,ii 72 (cl N109_ [68,71]),ju 73 72]
def F83_r14:List AIns:=[jk 74 15 2,ii 75 (.call (.f N48_) [(.t 74),(.c (.lit (.int .i64 2)))]),jns 15 4 75]
def F83_r15:List AIns:=[ja 76 7 2,jl 77 76,ja 78 1 3,jl 79 78,jx 80 2 77 79,ja 81 1 80,jl 82 81,jm 5 82]
def F83_r16:List AIns:=[ja 83 0 3,jl 84 83,je 85 84 10]
def F83_r17:List AIns:=[jm 86 5,ja 87 10 2,ja 88 1 87,jns 1 88 86]
def F83_r18:List AIns:=[jk 89 15 2,ii 90 (.call (.f N48_) [(.t 89),(.c (.lit (.int .i64 0)))]),jns 15 4 90]
def F83_r19:List AIns:=[ii 91 (.bsl 1 []),ja 92 10 2,ja 93 2 92,jl 94 93,ii 95 (.app 1 8 (.t 91) (.t 94)),jm 96 5,jB 97 1 96,ii 98 (.app 1 8 (.t 95) (.t 97)),ja 99 10 2,ja 100 2 99,jns 1 100 98]
def F83_r20:List AIns:=[ja 101 8 2,jl 102 101,jA 103 102 1,ja 104 8 2,jns 1 104 103]
def F83_r21:List AIns:=[jk 105 15 2,jns 15 4 105]
def F83_:AFun:=⟨2,.seq (R F83_r0 [2,3,4] [2,3,4]) (.seq (.seq (R F83_r1 [2,3,4,7] [2,3,4]) (.block 0 (.seq (R F83_r2 [2,3,4,7,8] [2,3,4]) (.cond (.t 8) (.seq (.seq (R F83_r3 [2,3,4,17] [2,3,4]) (.cond (.t 17) (.seq (R F83_r4 [4] [4]) (.ret)) (.skip))) (.seq (R F83_r5 [4] [4]) (.ret))) (.seq (R F83_r6 [2,3,4,42] [2,3,4]) (.cond (.t 42) (.seq (.seq (R F83_r7 [2,3,4,49] [2,3,4]) (.cond (.t 49) (.seq (R F83_r8 [4] [4]) (.ret)) (.skip))) (.seq (R F83_r9 [2,3,4] [2,3,4]) (.seq (.seq (R F83_r10 [2,3,4,63] [2,3,4]) (.cond (.t 63) (R F83_r11 [2,4] [2,4]) (.skip))) (.seq (R F83_r12 [4] [4]) (.ret))))) (.skip))))))) (.seq (.seq (R F83_r13 [2,3,4,73] [2,3,4]) (.cond (.t 73) (.seq (R F83_r14 [4] [4]) (.ret)) (.skip))) (.seq (R F83_r15 [2,3,4,5] [2,3,4]) (.seq (.seq (R F83_r16 [2,4,5,85] [2,4]) (.cond (.t 85) (.seq (R F83_r17 [2,4] [2,4]) (.seq (R F83_r18 [4] [4]) (.ret))) (.skip))) (.seq (R F83_r19 [2,4] [2,4]) (.seq (R F83_r20 [2,4] [2,4]) (.seq (R F83_r21 [4] [4]) (.ret)))))))),[.cell (some 15) 4]⟩
def F84_r0:List AIns:=[jc 4 0]
def F84_r1:List AIns:=[jm 6 0,ii 7 (.peq false (.t 6) (.c (.lit (.pointer none)))),jm 5 7]
def F84_r2:List AIns:=[jc 4 3]
def F84_r3:List AIns:=[jm 9 0,jh 10 9,ja 11 1 10,jm 12 1,ii 13 (cl N111_ [11,12]),ju 14 13,jm 8 14]
def F84_r4:List AIns:=[jc 4 171]
def F84_r5:List AIns:=[jc 4 0]
def F84_:AFun:=⟨2,.seq (R F84_r0 [0,1] []) (.seq (.block 0 (.seq (R F84_r1 [0,1,5] []) (.cond (.t 5) (.seq (R F84_r2 [4] []) (.ret)) (.seq (R F84_r3 [8] []) (.cond (.t 8) (.seq (R F84_r4 [4] []) (.ret)) (.skip)))))) (.seq (R F84_r5 [4] []) (.ret))),[.t 4]⟩
def F85_r0:List AIns:=[jc 4 0]
def F85_r1:List AIns:=[jm 5 0,jh 6 5,ja 7 0 6,jL 8 7,jm 9 1,jx 10 2 8 9,ja 11 1 10,jL 12 11,jm 4 12]
def F85_:AFun:=⟨2,.seq (R F85_r0 [0,1] []) (.seq (R F85_r1 [4] []) (.ret)),[.t 4]⟩
def F86_r0:List AIns:=[ii 4 (.mv (.c (.slice .full 2 [])))]
def F86_r1:List AIns:=[jm 6 1,jm 7 0,jh 8 7,ja 9 1 8,jL 10 9,jm 11 1,jx 12 1 10 11,jL 13 12,ii 14 (.bin .add (.t 6) (.t 13)),jm 5 14]
def F86_r2:List AIns:=[jm 15 0,jh 16 15,ja 17 0 16,jL 18 17,jm 19 1,jA 20 19 1,jm 21 5,jm 22 5,ii 23 (.sl 2 (.t 18) (some (.t 20)) (some (.t 21)) (some (.t 22))),jm 4 23]
def F86_:AFun:=⟨2,.seq (R F86_r0 [0,1] []) (.seq (R F86_r1 [0,1,5] []) (.seq (R F86_r2 [4] []) (.ret))),[.t 4]⟩
def F87_r0:List AIns:=[jb 5 2]
def F87_r1:List AIns:=[jm 6 1,jm 7 0,jh 8 7,ja 9 4 8,jL 10 9,jg 11 10,ii 12 (.bin .geq (.t 6) (.t 11))]
def F87_r2:List AIns:=[jm 13 0,jm 14 0,jh 15 14,ja 16 4 15,jL 17 16,ii 18 (.build Z6 []),jB 19 2 18,ii 20 (.wop (.appm 2 16) [(.t 17),(.t 19)]),jh 21 13,ja 22 4 21,jnS 1 22 20]
def F87_l1:AC:=.seq (.seq (R F87_r1 [0,1,5,12] [5]) (.cond (.t 12) (.skip) (.exit 0))) (.block 1 (R F87_r2 [0,1,5] [5]))
def F87_r3:List AIns:=[jm 23 0,jh 24 23,ja 25 4 24,jL 26 25,jm 27 1,jk 28 2 5,jx 29 2 26 27,jnS 2 29 28]
def F87_:AFun:=⟨3,.seq (R F87_r0 [0,1,5] [5]) (.seq (.block 0 (.loop F87_l1)) (R F87_r3 [] [])),[]⟩
def F88_r0:List AIns:=[ii 4 (.alloc true Z6)]
def F88_r1:List AIns:=[jm 5 1,jm 6 0,jh 7 6,ja 8 4 7,jL 9 8,jg 10 9,jq 11 5 10]
def F88_r2:List AIns:=[jm 12 0,jh 13 12,ja 14 4 13,jL 15 14,jm 16 1,jx 17 2 15 16,jK 18 2 17,jns 2 4 18]
def F88_r3:List AIns:=[ii 19 (.build Z6 []),jns 2 4 19]
def F88_:AFun:=⟨2,.seq (R F88_r0 [0,1,4] [4]) (.seq (.seq (R F88_r1 [0,1,4,11] [4]) (.cond (.t 11) (.seq (R F88_r2 [4] [4]) (.ret)) (.skip))) (.seq (R F88_r3 [4] [4]) (.ret))),[.cell (some 2) 4]⟩
def F89_r0:List AIns:=[jc 6 0]
def F89_r1:List AIns:=[jc 7 0]
def F89_r2:List AIns:=[jm 9 2,ii 10 (.bin .neq (.t 9) (.c (.lit (.int .i64 0))))]
def F89_r3:List AIns:=[jm 11 1,jm 12 2,ii 13 (.bin .quo (.t 11) (.t 12)),jm 7 13]
def F89_r4:List AIns:=[jf_ 8]
def F89_r5:List AIns:=[jm 14 0]
def F89_r7:List AIns:=[je 19 14 0,jm 18 19]
def F89_r8:List AIns:=[jm 20 1,jm 21 2,ii 22 (.bin .add (.t 20) (.t 21)),jm 6 22]
def F89_r9:List AIns:=[je 24 14 1,jm 23 24]
def F89_r10:List AIns:=[jm 25 1,jm 26 2,ii 27 (.bin .sub (.t 25) (.t 26)),jm 6 27]
def F89_r11:List AIns:=[je 29 14 2,jm 28 29]
def F89_r12:List AIns:=[jm 30 1,jm 31 2,ii 32 (.bin .mul (.t 30) (.t 31)),jm 6 32]
def F89_r13:List AIns:=[je 34 14 3,jm 33 34]
def F89_r14:List AIns:=[jm 35 7,jm 6 35]
def F89_r15:List AIns:=[je 37 14 4,jm 36 37]
def F89_r16:List AIns:=[jm 38 1,jm 39 2,jm 40 7,ii 41 (.bin .mul (.t 39) (.t 40)),ii 42 (.bin .sub (.t 38) (.t 41)),jm 6 42]
def F89_r17:List AIns:=[je 44 14 5,jm 43 44]
def F89_r18:List AIns:=[jm 45 1,jm 46 2,ii 47 (.bin .eql (.t 45) (.t 46)),jm 8 47]
def F89_r6:List AIns:=[jm 15 1,jm 16 2,jq 17 15 16,jm 8 17]
def F89_r19:List AIns:=[jm 48 8]
def F89_r20:List AIns:=[jc 6 1]
def F89_r21:List AIns:=[jc 6 0]
def F89_:AFun:=⟨3,.seq (R F89_r0 [0,1,2] []) (.seq (R F89_r1 [0,1,2,7] []) (.seq (.seq (R F89_r2 [0,1,2,7,10] []) (.cond (.t 10) (R F89_r3 [0,1,2,7] []) (.skip))) (.seq (R F89_r4 [0,1,2,7] []) (.seq (.seq (R F89_r5 [1,2,7,14] []) (.block 0 (.seq (R F89_r7 [1,2,7,14,18] []) (.cond (.t 18) (.seq (R F89_r8 [6] []) (.ret)) (.seq (R F89_r9 [1,2,7,14,23] []) (.cond (.t 23) (.seq (R F89_r10 [6] []) (.ret)) (.seq (R F89_r11 [1,2,7,14,28] []) (.cond (.t 28) (.seq (R F89_r12 [6] []) (.ret)) (.seq (R F89_r13 [1,2,7,14,33] []) (.cond (.t 33) (.seq (R F89_r14 [6] []) (.ret)) (.seq (R F89_r15 [1,2,7,14,36] []) (.cond (.t 36) (.seq (R F89_r16 [6] []) (.ret)) (.seq (R F89_r17 [1,2,43] []) (.cond (.t 43) (R F89_r18 [8] []) (R F89_r6 [8] []))))))))))))))) (.seq (.seq (R F89_r19 [48] []) (.cond (.t 48) (.seq (R F89_r20 [6] []) (.ret)) (.skip))) (.seq (R F89_r21 [6] []) (.ret))))))),[.t 6]⟩
def F90_r0:List AIns:=[jc 6 0,jc 7 0]
def F90_r1:List AIns:=[jm 9 0,ii 10 (.peq false (.t 9) (.c (.lit (.pointer none)))),jm 8 10]
def F90_r2:List AIns:=[jc 6 0,jc 7 3]
def F90_r3:List AIns:=[jm 12 1,ii 13 (.bin .lss (.t 12) (.c (.lit (.int .i64 0)))),jm 14 13,jfm 15 14 1,iF 16 14 (.bin .gtr (.t 15) (.c (.lit (.int .i64 100000)))),jP 17 14 16,jm 18 17,jfm 19 18 2,jfg 20 18 19,iF 21 18 (.bin .gtr (.t 20) (.c (.lit (.int .i64 1024)))),jP 22 18 21,jm 11 22]
def F90_r4:List AIns:=[jc 6 0,jc 7 1]
def F90_r5:List AIns:=[jm 24 0,jh 25 24,ja 26 1 25,jm 27 2,ii 28 (cl N95_ [26,27]),ju 29 28,jm 23 29]
def F90_r6:List AIns:=[jc 6 0,jc 7 171]
def F90_r7:List AIns:=[jm 31 0,jh 32 31,ja 33 1 32,ja 34 0 33,jL 35 34,jg 36 35,jA 37 36 1,jm 38 2,jg 39 38,ii 40 (.bin .add (.t 37) (.t 39)),jm 41 0,jh 42 41,ja 43 0 42,jL 44 43,ii 45 (.bin .gtr (.t 40) (.t 44)),jm 30 45]
def F90_r8:List AIns:=[jc 6 0,jc 7 170]
def F90_r9:List AIns:=[jm 46 0,jh 47 46,ja 48 1 47,jm 49 1,jm 50 2,ii 51 (cl N97_ [48,49,50]),jm 6 51,jc 7 0]
def F90_:AFun:=⟨3,.seq (R F90_r0 [0,1,2] []) (.seq (.block 0 (.seq (R F90_r1 [0,1,2,8] []) (.cond (.t 8) (.seq (R F90_r2 [6,7] []) (.ret)) (.seq (R F90_r3 [0,1,2,11] []) (.cond (.t 11) (.seq (R F90_r4 [6,7] []) (.ret)) (.seq (R F90_r5 [0,1,2,23] []) (.cond (.t 23) (.seq (R F90_r6 [6,7] []) (.ret)) (.seq (R F90_r7 [0,1,2,30] []) (.cond (.t 30) (.seq (R F90_r8 [6,7] []) (.ret)) (.skip)))))))))) (.seq (R F90_r9 [6,7] []) (.ret))),[.t 6,.t 7]⟩
def F91_r0:List AIns:=[ii 4 (.mv (.c (.slice .full 2 [])))]
def F91_r1:List AIns:=[jm 8 1,jg 9 8,jA 10 9 1,ii 11 (.wop (.mks 2 16 Z6) [(.c (.lit (.int .i64 0))),(.t 10)]),jm 5 11]
def F91_r2:List AIns:=[jm 12 1,jg 13 12,jc 14 0]
def F91_r3:List AIns:=[jq 15 14 13]
def F91_r4:List AIns:=[jx 16 1 12 14,jL 17 16,jm 7 17]
def F91_r5:List AIns:=[jm 18 5,jm 19 0,jm 20 7,ii 21 (cl N88_ [19,20]),jB 22 2 21,ii 23 (.wop (.appm 2 16) [(.t 18),(.t 22)]),jm 5 23]
def F91_r6:List AIns:=[jA 24 14 1,jm 14 24]
def F91_l1:AC:=.seq (R F91_r3 [0,5,12,13,14,15] []) (.seq (.cond (.t 15) (.skip) (.exit 0)) (.seq (.block 1 (.seq (R F91_r4 [0,5,7,12,13,14] []) (R F91_r5 [0,5,12,13,14] []))) (R F91_r6 [0,5,12,13,14] [])))
def F91_r7:List AIns:=[jm 25 5,jm 4 25]
def F91_:AFun:=⟨2,.seq (R F91_r0 [0,1] []) (.seq (R F91_r1 [0,1,5] []) (.seq (.seq (R F91_r2 [0,5,12,13,14] []) (.block 0 (.loop F91_l1))) (.seq (R F91_r7 [4] []) (.ret)))),[.t 4]⟩
def F92_r0:List AIns:=[ii 6 (.alloc true Z6),jc 7 0]
def F92_r1:List AIns:=[jm 10 0,jm 11 1,ii 12 (cl N84_ [10,11]),jm 8 12]
def F92_r2:List AIns:=[jm 13 8,ii 14 (.bin .neq (.t 13) (.c (.lit (.int .i64 0))))]
def F92_r3:List AIns:=[ii 15 (.build Z6 []),jm 16 8,jns 2 6 15,jm 7 16]
def F92_r4:List AIns:=[jm 17 0,jh 18 17,ja 19 1 18,jm 20 1,ii 21 (cl N86_ [19,20]),jm 9 21]
def F92_r5:List AIns:=[jm 22 2,ii 23 (.bin .geq (.t 22) (.c (.lit (.int .i64 0)))),jm 24 23,jtm 25 24 2,jtm 26 24 9,jtg 27 24 26,jtq 28 24 25 27,jp 29 24 28]
def F92_r6:List AIns:=[jm 30 9,jm 31 2,jx 32 2 30 31,jK 33 2 32,jns 2 6 33,jc 7 0]
def F92_r7:List AIns:=[ii 34 (.build Z6 []),jns 2 6 34,jc 7 1]
def F92_:AFun:=⟨3,.seq (R F92_r0 [0,1,2,6] [6]) (.seq (.seq (R F92_r1 [0,1,2,6,8] [6]) (.seq (R F92_r2 [0,1,2,6,8,14] [6]) (.cond (.t 14) (.seq (R F92_r3 [6,7] [6]) (.ret)) (.skip)))) (.seq (.seq (R F92_r4 [2,6,9] [6]) (.seq (R F92_r5 [2,6,9,29] [6]) (.cond (.t 29) (.seq (R F92_r6 [6,7] [6]) (.ret)) (.skip)))) (.seq (R F92_r7 [6,7] [6]) (.ret)))),[.cell (some 2) 6,.t 7]⟩
def F93_r0:List AIns:=[jc 4 0]
def F93_r1:List AIns:=[jm 8 0,jm 9 1,ii 10 (cl N88_ [8,9]),ii 5 (.alloc true Z6),jns 2 5 10]
def F93_r2:List AIns:=[ja 11 0 5,jl 12 11,ju 13 12]
def F93_r3:List AIns:=[ii 4 (.mv (.c (.lit (.int .i64 (-1)))))]
def F93_r4:List AIns:=[jm 15 0,jh 16 15,ja 17 3 16,jL 18 17,ja 19 1 5,jl 20 19,ii 21 (cl N51_ [18,20]),jm 14 21,jz 22 14 0,jz 23 14 1,jm 6 22,jm 7 23]
def F93_r5:List AIns:=[jm 24 6,jm 4 24]
def F93_:AFun:=⟨2,.seq (R F93_r0 [0,1] []) (.seq (R F93_r1 [0,5] [5]) (.seq (.seq (R F93_r2 [0,5,13] [5]) (.cond (.t 13) (.seq (R F93_r3 [4] []) (.ret)) (.skip))) (.seq (R F93_r4 [6] []) (.seq (R F93_r5 [4] []) (.ret))))),[.t 4]⟩
def F95_r0:List AIns:=[ii 2 (.box false (.t 0)),jf_ 4]
def F95_r1:List AIns:=[jm 5 1,ii 6 (.mkf N115_ [] [(.t 2)]),ii 7 (cl N114_ [5,6]),ju 8 7,jm 4 8]
def F95_:AFun:=⟨2,.seq (R F95_r0 [1,2] []) (.seq (R F95_r1 [4] []) (.ret)),[.t 4]⟩
def F96_r0:List AIns:=[jm 7 0,jg 8 7,jc 9 0]
def F96_r1:List AIns:=[jq 10 9 8]
def F96_r2:List AIns:=[jm 11 9,jx 12 2 7 9,jK 13 2 12,ii 6 (.alloc true Z6),jm 5 11,jns 2 6 13]
def F96_r3:List AIns:=[ja 14 0 6,jl 15 14,ju 16 15]
def F96_r4:List AIns:=[jL 17 1,ja 18 1 6,jl 19 18,jx 20 1 17 19,jL 21 20,je 22 21 0]
def F96_r5:List AIns:=[ii 23 (.ldo false 1 none (.t 1)),ja 24 1 6,jl 25 24,jL 26 3,jh 27 26,ja 28 1 27,ja 29 1 6,jl 30 29,ii 31 (.callq [1,3] (.f N85_) [(.t 28),(.t 30)]),ii 32 (.ldo false 3 none (.t 3)),jh 33 32,ja 34 1 33,ja 35 1 6,jl 36 35,ii 37 (.callq [1] (.f N86_) [(.t 34),(.t 36)]),ii 38 (.callq [1] (.f N97_) [(.t 2),(.t 31),(.t 37)]),jA 39 38 1,jx 40 1 23 25,jnS 1 40 39]
def F96_r6:List AIns:=[jm 41 0,jm 42 5,jL 43 1,ja 44 1 6,jl 45 44,jx 46 1 43 45,jL 47 46,ii 48 (.bin .sub (.t 47) (.c (.lit (.int .i64 1)))),jx 49 2 41 42,ja 50 1 49,jnS 1 50 48]
def F96_r7:List AIns:=[jA 51 9 1,jm 9 51]
def F96_l1:AC:=.seq (R F96_r1 [0,1,2,3,7,8,9,10] []) (.seq (.cond (.t 10) (.skip) (.exit 0)) (.seq (.block 1 (.seq (R F96_r2 [0,1,2,3,5,6,7,8,9] [6]) (.seq (.seq (R F96_r3 [0,1,2,3,5,6,7,8,9,16] [6]) (.cond (.t 16) (.exit 1) (.skip))) (.seq (.seq (R F96_r4 [0,1,2,3,5,6,7,8,9,22] [6]) (.cond (.t 22) (R F96_r5 [0,1,2,3,5,6,7,8,9] [6]) (.skip))) (R F96_r6 [0,1,2,3,7,8,9] []))))) (R F96_r7 [0,1,2,3,7,8,9] [])))
def F96_:AFun:=⟨4,.seq (R F96_r0 [0,1,2,3,7,8,9] []) (.block 0 (.loop F96_l1)),[]⟩
def F97_r0:List AIns:=[jc 6 0]
def F97_r1:List AIns:=[jm 8 0,jh 9 8,ja 10 0 9,jL 11 10,jg 12 11,jm 7 12]
def F97_r2:List AIns:=[jm 13 0,jm 14 0,jh 15 14,ja 16 2 15,jL 17 16,jm 18 7,jB 19 1 18,ii 20 (.wop (.appm 1 8) [(.t 17),(.t 19)]),jh 21 13,ja 22 2 21,jnS 1 22 20]
def F97_r3:List AIns:=[jm 23 0,jm 24 0,jh 25 24,ja 26 0 25,jL 27 26,jm 28 1,ii 29 (.build Z6 [(1,1,(.t 28))]),jB 30 2 29,ii 31 (.wop (.appm 2 16) [(.t 27),(.t 30)]),jm 32 2,ii 33 (.wop (.appm 2 16) [(.t 31),(.t 32)]),jh 34 23,ja 35 0 34,jnS 1 35 33]
def F97_r4:List AIns:=[jm 36 0,jm 37 0,jh 38 37,ja 39 1 38,jL 40 39,jm 41 2,jg 42 41,jA 43 42 1,jB 44 1 43,ii 45 (.wop (.appm 1 8) [(.t 40),(.t 44)]),jh 46 36,ja 47 1 46,jnS 1 47 45]
def F97_r5:List AIns:=[jm 48 2,jg 49 48,jc 50 0]
def F97_r6:List AIns:=[jq 51 50 49]
def F97_r7:List AIns:=[jm 52 0,jm 53 0,jh 54 53,ja 55 1 54,jL 56 55,ii 57 (.bsl 1 [(.c (.lit (.int .i64 0)))]),ii 58 (.wop (.appm 1 8) [(.t 56),(.t 57)]),jh 59 52,ja 60 1 59,jnS 1 60 58]
def F97_r8:List AIns:=[jA 61 50 1,jm 50 61]
def F97_l1:AC:=.seq (R F97_r6 [0,7,49,50,51] []) (.seq (.cond (.t 51) (.skip) (.exit 0)) (.seq (.block 1 (R F97_r7 [0,7,49,50] [])) (R F97_r8 [0,7,49,50] [])))
def F97_r9:List AIns:=[jm 62 7,jm 6 62]
def F97_:AFun:=⟨3,.seq (R F97_r0 [0,1,2] []) (.seq (R F97_r1 [0,1,2,7] []) (.seq (R F97_r2 [0,1,2,7] []) (.seq (R F97_r3 [0,2,7] []) (.seq (R F97_r4 [0,2,7] []) (.seq (.seq (R F97_r5 [0,7,49,50] []) (.block 0 (.loop F97_l1))) (.seq (R F97_r9 [6] []) (.ret))))))),[.t 6]⟩
def F98_r0:List AIns:=[jb 2 0,ii 4 (.mv (.c (.slice .full 1 [])))]
def F98_r1:List AIns:=[jm 7 1,ii 8 (.call (.f N116_) [(.c (.lit (.slice none 0 0))),(.t 7)]),jm 5 8]
def F98_r2:List AIns:=[jc 6 0]
def F98_r3:List AIns:=[jm 9 6,jm 10 5,jg 11 10,jq 12 9 11]
def F98_r5:List AIns:=[jm 15 5,ja 16 1 2,jl 17 16,jk 18 2 2,jm 19 5,jm 20 6,jx 21 1 19 20,jL 22 21,ii 23 (cl N100_ [18,22]),jx 24 3 17 23,ja 25 2 24,jL 26 25,ii 27 (cl N116_ [15,26]),jm 5 27]
def F98_r4:List AIns:=[jm 13 6,jA 14 13 1,jm 6 14]
def F98_l1:AC:=.seq (.seq (R F98_r3 [2,5,6,12] [2]) (.cond (.t 12) (.skip) (.exit 0))) (.seq (.block 1 (R F98_r5 [2,5,6] [2])) (R F98_r4 [2,5,6] [2]))
def F98_r6:List AIns:=[jm 28 5,jm 4 28]
def F98_:AFun:=⟨2,.seq (R F98_r0 [1,2] [2]) (.seq (R F98_r1 [2,5] [2]) (.seq (.seq (R F98_r2 [2,5,6] [2]) (.block 0 (.loop F98_l1))) (.seq (R F98_r6 [4] []) (.retz 1 4)))),[.t 4]⟩
def F99_r0:List AIns:=[jc 2 0]
def F99_r1:List AIns:=[jm 3 0,ii 4 (.bin .add (.c (.lit (.int .i64 1))) (.t 3)),jm 2 4]
def F99_:AFun:=⟨1,.seq (R F99_r0 [0] []) (.seq (R F99_r1 [2] []) (.ret)),[.t 2]⟩
def F100_r0:List AIns:=[jb 2 0,jc 4 0]
def F100_r1:List AIns:=[ja 7 1 2,jl 8 7,jg 9 8,jc 10 0]
def F100_r2:List AIns:=[jq 11 10 9]
def F100_r3:List AIns:=[jm 12 10,jx 13 3 8 10,jk 14 3 13,ii 6 (.alloc true Z3),jm 5 12,jns 3 6 14]
def F100_r4:List AIns:=[ja 15 0 6,jl 16 15,jm 17 1,ii 18 (.bin .eql (.t 16) (.t 17))]
def F100_r5:List AIns:=[jm 19 5,jm 4 19]
def F100_r6:List AIns:=[jA 20 10 1,jm 10 20]
def F100_l1:AC:=.seq (R F100_r2 [1,8,9,10,11] []) (.seq (.cond (.t 11) (.skip) (.exit 0)) (.seq (.block 1 (.seq (R F100_r3 [1,5,6,8,9,10] [6]) (.seq (R F100_r4 [1,5,8,9,10,18] []) (.cond (.t 18) (.seq (R F100_r5 [4] []) (.ret)) (.skip))))) (R F100_r6 [1,8,9,10] [])))
def F100_r7:List AIns:=[ii 4 (.mv (.c (.lit (.int .i64 (-1)))))]
def F100_:AFun:=⟨2,.seq (R F100_r0 [1,2] [2]) (.seq (.seq (R F100_r1 [1,8,9,10] []) (.block 0 (.loop F100_l1))) (.seq (R F100_r7 [4] []) (.ret))),[.t 4]⟩
def F101_r0:List AIns:=[ii 6 (.mv (.c (.slice .full 2 [])))]
def F101_r1:List AIns:=[ii 7 (.mv (.c (.slice .full 2 [])))]
def F101_r2:List AIns:=[jm 10 0,jg 11 10,jc 12 0]
def F101_r3:List AIns:=[jq 13 12 11]
def F101_r4:List AIns:=[jx 14 2 10 12,jk 15 2 14,ii 9 (.alloc true Z6),jns 2 9 15]
def F101_r5:List AIns:=[ja 16 0 9,jl 17 16]
def F101_r6:List AIns:=[jm 18 2,jm 19 1,ja 20 1 9,jl 21 20,ii 22 (cl N117_ [19,21]),jx 23 1 18 22,jl 24 23,ja 25 1 9,jns 1 25 24]
def F101_r7:List AIns:=[jm 26 7,jk 27 2 9,jB 28 2 27,ii 29 (.app 2 16 (.t 26) (.t 28)),jm 7 29]
def F101_r8:List AIns:=[jA 30 12 1,jm 12 30]
def F101_l1:AC:=.seq (R F101_r3 [1,2,7,10,11,12,13] []) (.seq (.cond (.t 13) (.skip) (.exit 0)) (.seq (.block 1 (.seq (R F101_r4 [1,2,7,9,10,11,12] [9]) (.seq (.seq (R F101_r5 [1,2,7,9,10,11,12,17] [9]) (.cond (.t 17) (R F101_r6 [1,2,7,9,10,11,12] [9]) (.skip))) (R F101_r7 [1,2,7,10,11,12] [])))) (R F101_r8 [1,2,7,10,11,12] [])))
def F101_r9:List AIns:=[jm 31 7,jm 6 31]
def F101_:AFun:=⟨3,.seq (R F101_r0 [0,1,2] []) (.seq (R F101_r1 [0,1,2,7] []) (.seq (.seq (R F101_r2 [1,2,7,10,11,12] []) (.block 0 (.loop F101_l1))) (.seq (R F101_r9 [6] []) (.ret)))),[.t 6]⟩
def F103_r0:List AIns:=[ii 2 (.mv (.c (.lit (.string ⟨#[]⟩))))]
def F103_r1:List AIns:=[jm 3 0]
def F103_r2:List AIns:=[je 5 3 0,jm 4 5]
def F103_r3:List AIns:=[je 6 3 5,jm 4 6]
def F103_r4:List AIns:=[ii 2 (.mv (.c (.lit (.string ⟨#[65,78]⟩))))]
def F103_r5:List AIns:=[je 8 3 1,jm 7 8]
def F103_r6:List AIns:=[ii 2 (.mv (.c (.lit (.string ⟨#[65,66]⟩))))]
def F103_r7:List AIns:=[je 10 3 2,jm 9 10]
def F103_r8:List AIns:=[ii 2 (.mv (.c (.lit (.string ⟨#[80,65,66,67]⟩))))]
def F103_r9:List AIns:=[je 12 3 3,jm 11 12]
def F103_r10:List AIns:=[ii 2 (.mv (.c (.lit (.string ⟨#[65,78,82]⟩))))]
def F103_r11:List AIns:=[je 14 3 4,jm 13 14]
def F103_r12:List AIns:=[ii 2 (.mv (.c (.lit (.string ⟨#[65,66,78]⟩))))]
def F103_r13:List AIns:=[je 16 3 6,jm 15 16]
def F103_r14:List AIns:=[ii 2 (.mv (.c (.lit (.string ⟨#[65,84]⟩))))]
def F103_r15:List AIns:=[je 18 3 7,jm 17 18]
def F103_r16:List AIns:=[ii 2 (.mv (.c (.lit (.string ⟨#[78,82]⟩))))]
def F103_r17:List AIns:=[je 20 3 8,jm 19 20]
def F103_r18:List AIns:=[ii 2 (.mv (.c (.lit (.string ⟨#[65,82]⟩))))]
def F103_r19:List AIns:=[ii 2 (.mv (.c (.lit (.string ⟨#[65]⟩))))]
def F103_:AFun:=⟨1,.seq (R F103_r0 [0] []) (.seq (.seq (R F103_r1 [3] []) (.block 0 (.seq (.seq (R F103_r2 [3,4] []) (.cond (.t 4) (.skip) (R F103_r3 [3,4] []))) (.cond (.t 4) (.seq (R F103_r4 [2] []) (.ret)) (.seq (R F103_r5 [3,7] []) (.cond (.t 7) (.seq (R F103_r6 [2] []) (.ret)) (.seq (R F103_r7 [3,9] []) (.cond (.t 9) (.seq (R F103_r8 [2] []) (.ret)) (.seq (R F103_r9 [3,11] []) (.cond (.t 11) (.seq (R F103_r10 [2] []) (.ret)) (.seq (R F103_r11 [3,13] []) (.cond (.t 13) (.seq (R F103_r12 [2] []) (.ret)) (.seq (R F103_r13 [3,15] []) (.cond (.t 15) (.seq (R F103_r14 [2] []) (.ret)) (.seq (R F103_r15 [3,17] []) (.cond (.t 17) (.seq (R F103_r16 [2] []) (.ret)) (.seq (R F103_r17 [19] []) (.cond (.t 19) (.seq (R F103_r18 [2] []) (.ret)) (.skip))))))))))))))))))) (.seq (R F103_r19 [2] []) (.ret))),[.t 2]⟩
def F104_r0:List AIns:=[jc 4 0]
def F104_r1:List AIns:=[jm 6 0,jg 7 6,jc 8 0]
def F104_r2:List AIns:=[jq 9 8 7]
def F104_r3:List AIns:=[jm 10 8,jm 5 10]
def F104_r4:List AIns:=[jm 11 1,jm 12 0,jm 13 5,jx 14 1 12 13,jL 15 14,ii 16 (.call (.t 11) [(.t 15)])]
def F104_r5:List AIns:=[jm 17 5,jm 4 17]
def F104_r6:List AIns:=[jA 18 8 1,jm 8 18]
def F104_l1:AC:=.seq (R F104_r2 [0,1,7,8,9] []) (.seq (.cond (.t 9) (.skip) (.exit 0)) (.seq (.block 1 (.seq (R F104_r3 [0,1,5,7,8] []) (.seq (R F104_r4 [0,1,5,7,8,16] []) (.cond (.t 16) (.seq (R F104_r5 [4] []) (.ret)) (.skip))))) (R F104_r6 [0,1,7,8] [])))
def F104_r7:List AIns:=[ii 4 (.mv (.c (.lit (.int .i64 (-1)))))]
def F104_:AFun:=⟨2,.seq (R F104_r0 [0,1] []) (.seq (.seq (R F104_r1 [0,1,7,8] []) (.block 0 (.loop F104_l1))) (.seq (R F104_r7 [4] []) (.ret))),[.t 4]⟩
def F105_r0:List AIns:=[ii 2 (.mv (.c (.slice .full 2 [])))]
def F105_r1:List AIns:=[ii 3 (.bsl 2 []),jm 4 0,ii 5 (.wop (.appm 2 16) [(.t 3),(.t 4)]),jm 2 5]
def F105_:AFun:=⟨1,.seq (R F105_r0 [0] []) (.seq (R F105_r1 [2] []) (.ret)),[.t 2]⟩
def F106_r0:List AIns:=[jb 1 0,jc 2 0]
def F106_r1:List AIns:=[ja 4 1 1,jl 5 4,jg 6 5,je 7 6 0]
def F106_r2:List AIns:=[jc 2 0]
def F106_r3:List AIns:=[ja 8 1 1,jl 9 8,ja 10 1 1,jl 11 10,jg 12 11,ii 13 (.bin .sub (.t 12) (.c (.lit (.int .i64 1)))),jx 14 3 9 13,jk 15 3 14,ii 3 (.alloc true Z3),jns 3 3 15]
def F106_r4:List AIns:=[ja 16 0 3,jl 17 16,ja 18 2 3,jl 19 18,jg 20 19,ii 21 (cl N99_ [20]),ii 22 (.bin .add (.t 17) (.t 21)),jm 2 22]
def F106_:AFun:=⟨1,.seq (R F106_r0 [1] [1]) (.seq (.seq (R F106_r1 [1,7] [1]) (.cond (.t 7) (.seq (R F106_r2 [2] []) (.ret)) (.skip))) (.seq (R F106_r3 [3] [3]) (.seq (R F106_r4 [2] []) (.ret)))),[.t 2]⟩
def F107_r0:List AIns:=[jb 3 0,ii 6 (.alloc true Z7),jc 7 0,jc 8 0]
def F107_r1:List AIns:=[jm 12 1,ii 13 (.bin .lss (.t 12) (.c (.lit (.int .i64 0)))),jm 14 13,jfm 15 14 1,iF 16 14 (.bin .gtr (.t 15) (.c (.lit (.int .i64 100000)))),jP 17 14 16,jm 18 17,jfm 19 18 2,jfg 20 18 19,iF 21 18 (.bin .gtr (.t 20) (.c (.lit (.int .i64 1024)))),jP 22 18 21,jm 11 22]
def F107_r2:List AIns:=[jk 23 2 3,jns 2 6 23,jc 7 0,jc 8 1]
def F107_r3:List AIns:=[jk 25 2 3,jm 26 2,ii 27 (cl N119_ [25,26]),ju 28 27,jm 24 28]
def F107_r4:List AIns:=[jk 29 2 3,jns 2 6 29,jc 7 0,jc 8 171]
def F107_r5:List AIns:=[jk 31 2 3,ii 32 (cl N106_ [31]),jm 33 2,jg 34 33,ii 35 (cl N99_ [34]),ii 36 (.bin .add (.t 32) (.t 35)),ja 37 0 3,jl 38 37,ii 39 (.bin .gtr (.t 36) (.t 38)),jm 30 39]
def F107_r6:List AIns:=[jk 40 2 3,jns 2 6 40,jc 7 0,jc 8 170]
def F107_r7:List AIns:=[jk 41 2 3,ii 42 (cl N106_ [41]),jm 9 42]
def F107_r8:List AIns:=[ii 43 (.bsl 3 []),ja 44 1 3,jl 45 44,ii 46 (.app 3 40 (.t 43) (.t 45)),jm 47 9,jm 48 1,jm 49 2,ii 50 (cl N105_ [49]),ii 51 (.wop (.bldz Z3 [(0,1),(1,1),(2,1)]) [(.t 47),(.t 48),(.t 50)]),jB 52 3 51,ii 53 (.app 3 40 (.t 46) (.t 52)),jm 10 53]
def F107_r9:List AIns:=[ja 54 0 3,jl 55 54,jm 56 10,ii 57 (.build Z7 [(0,1,(.t 55)),(1,1,(.t 56))]),jm 58 9,jns 2 6 57,jm 7 58,jc 8 0]
def F107_:AFun:=⟨3,.seq (R F107_r0 [1,2,3,6] [3,6]) (.seq (.block 0 (.seq (R F107_r1 [1,2,3,6,11] [3,6]) (.cond (.t 11) (.seq (R F107_r2 [6,7,8] [6]) (.ret)) (.seq (R F107_r3 [1,2,3,6,24] [3,6]) (.cond (.t 24) (.seq (R F107_r4 [6,7,8] [6]) (.ret)) (.seq (R F107_r5 [1,2,3,6,30] [3,6]) (.cond (.t 30) (.seq (R F107_r6 [6,7,8] [6]) (.ret)) (.skip)))))))) (.seq (R F107_r7 [1,2,3,6,9] [3,6]) (.seq (R F107_r8 [3,6,9,10] [3,6]) (.seq (R F107_r9 [6,7,8] [6]) (.ret))))),[.cell (some 2) 6,.t 7,.t 8]⟩
def F108_r0:List AIns:=[jb 2 0,ii 4 (.alloc true Z3),jf_ 5]
def F108_r1:List AIns:=[ja 7 7 2,jl 8 7,jm 9 1,jx 10 2 8 9,jk 11 2 10,ii 6 (.alloc true Z6),jns 2 6 11]
def F108_r2:List AIns:=[ja 12 0 6,jl 13 12,ju 14 13]
def F108_r3:List AIns:=[ii 15 (.build Z3 []),jns 3 4 15,jf_ 5]
def F108_r4:List AIns:=[ja 16 5 2,ja 17 1 16,jl 18 17,ja 19 5 2,jk 20 2 19,ja 21 1 6,jl 22 21,ii 23 (cl N100_ [20,22]),jx 24 3 18 23,jk 25 3 24,jns 3 4 25,ii 5 (.mv (.c (.lit (.bool true))))]
def F108_:AFun:=⟨2,.seq (R F108_r0 [1,2,4] [2,4]) (.seq (R F108_r1 [2,4,6] [2,4,6]) (.seq (.seq (R F108_r2 [2,4,6,14] [2,4,6]) (.cond (.t 14) (.seq (R F108_r3 [4,5] [4]) (.ret)) (.skip))) (.seq (R F108_r4 [4,5] [4]) (.ret)))),[.cell (some 3) 4,.t 5]⟩
def F109_r0:List AIns:=[jb 2 0,jf_ 4]
def F109_r1:List AIns:=[jm 7 1,jg 8 7,jc 9 0]
def F109_r2:List AIns:=[jq 10 9 8]
def F109_r3:List AIns:=[jx 11 1 7 9,jl 12 11,jm 6 12]
def F109_r4:List AIns:=[ja 13 7 2,jl 14 13,jm 15 6,jx 16 2 14 15,ja 17 0 16,jl 18 17]
def F109_r5:List AIns:=[jf_ 4]
def F109_r6:List AIns:=[jA 19 9 1,jm 9 19]
def F109_l1:AC:=.seq (R F109_r2 [2,7,8,9,10] [2]) (.seq (.cond (.t 10) (.skip) (.exit 0)) (.seq (.block 1 (.seq (R F109_r3 [2,6,7,8,9] [2]) (.seq (R F109_r4 [2,7,8,9,18] [2]) (.cond (.t 18) (.seq (R F109_r5 [4] []) (.ret)) (.skip))))) (R F109_r6 [2,7,8,9] [2])))
def F109_r7:List AIns:=[ii 4 (.mv (.c (.lit (.bool true))))]
def F109_:AFun:=⟨2,.seq (R F109_r0 [1,2] [2]) (.seq (.seq (R F109_r1 [2,7,8,9] [2]) (.block 0 (.loop F109_l1))) (.seq (R F109_r7 [4] []) (.ret))),[.t 4]⟩
def F110_r0:List AIns:=[jc 6 0]
def F110_r1:List AIns:=[jm 7 0]
def F110_r2:List AIns:=[je 9 7 0,jm 8 9]
def F110_r3:List AIns:=[jm 10 1,jm 11 2,ii 12 (.bin .add (.t 10) (.t 11)),jm 6 12]
def F110_r4:List AIns:=[je 14 7 1,jm 13 14]
def F110_r5:List AIns:=[jm 15 1,jm 16 2,ii 17 (.bin .sub (.t 15) (.t 16)),jm 6 17]
def F110_r6:List AIns:=[je 19 7 2,jm 18 19]
def F110_r7:List AIns:=[jm 20 1,jm 21 2,ii 22 (.bin .mul (.t 20) (.t 21)),jm 6 22]
def F110_r8:List AIns:=[je 24 7 3,jm 23 24]
def F110_r9:List AIns:=[jm 25 1,jm 26 2,ii 27 (cl N120_ [25,26]),jm 6 27]
def F110_r10:List AIns:=[je 29 7 4,jm 28 29]
def F110_r11:List AIns:=[jm 30 1,jm 31 2,jm 32 1,jm 33 2,ii 34 (cl N120_ [32,33]),ii 35 (.bin .mul (.t 31) (.t 34)),ii 36 (.bin .sub (.t 30) (.t 35)),jm 6 36]
def F110_r12:List AIns:=[je 38 7 5,jm 37 38]
def F110_r13:List AIns:=[jm 39 1,jm 40 2,ii 41 (.bin .eql (.t 39) (.t 40)),ii 42 (cl N121_ [41]),jm 6 42]
def F110_r14:List AIns:=[jm 43 1,jm 44 2,jq 45 43 44,ii 46 (cl N121_ [45]),jm 6 46]
def F110_:AFun:=⟨3,.seq (R F110_r0 [0,1,2] []) (.seq (.seq (R F110_r1 [1,2,7] []) (.block 0 (.seq (R F110_r2 [1,2,7,8] []) (.cond (.t 8) (.seq (R F110_r3 [6] []) (.ret)) (.seq (R F110_r4 [1,2,7,13] []) (.cond (.t 13) (.seq (R F110_r5 [6] []) (.ret)) (.seq (R F110_r6 [1,2,7,18] []) (.cond (.t 18) (.seq (R F110_r7 [6] []) (.ret)) (.seq (R F110_r8 [1,2,7,23] []) (.cond (.t 23) (.seq (R F110_r9 [6] []) (.ret)) (.seq (R F110_r10 [1,2,7,28] []) (.cond (.t 28) (.seq (R F110_r11 [6] []) (.ret)) (.seq (R F110_r12 [1,2,37] []) (.cond (.t 37) (.seq (R F110_r13 [6] []) (.ret)) (.skip))))))))))))))) (.seq (R F110_r14 [6] []) (.ret))),[.t 6]⟩
def F111_r0:List AIns:=[jf_ 4]
def F111_r1:List AIns:=[jm 5 1,ii 6 (.bin .geq (.t 5) (.c (.lit (.int .i64 0)))),jm 7 6,jtm 8 7 1,jtm 9 7 0,jth 10 7 9,jta 11 7 1 10,jtL 12 7 11,jtg 13 7 12,jtq 14 7 8 13,jp 15 7 14,jm 16 15,jtm 17 16 0,jth 18 16 17,jta 19 16 1 18,jtL 20 16 19,jtm 21 16 1,jtx 22 16 1 20 21,jtL 23 16 22,it 24 16 (.bin .gtr (.t 23) (.c (.lit (.int .i64 0)))),jp 25 16 24,jm 4 25]
def F111_:AFun:=⟨2,.seq (R F111_r0 [0,1] []) (.seq (R F111_r1 [4] []) (.ret)),[.t 4]⟩
def F114_r0:List AIns:=[jf_ 4]
def F114_r1:List AIns:=[jm 5 0,jm 6 1,ii 7 (cl N123_ [5,6]),ii 8 (.bin .geq (.t 7) (.c (.lit (.int .i64 0)))),jm 4 8]
def F114_:AFun:=⟨2,.seq (R F114_r0 [0,1] []) (.seq (R F114_r1 [4] []) (.ret)),[.t 4]⟩
def F115_r0:List AIns:=[jb 2 0,jf_ 3]
def F115_r1:List AIns:=[ja 4 0 2,jl 5 4,jm 6 5,jtL 7 6 1,jta 8 6 1 2,jtl 9 6 8,it 10 6 (cl N111_ [7,9]),jtu 11 6 10,jp 12 6 11,jm 3 12]
def F115_:AFun:=⟨2,.seq (R F115_r0 [1,2] [2]) (.seq (R F115_r1 [3] []) (.ret)),[.t 3]⟩
def F116_r0:List AIns:=[ii 4 (.mv (.c (.slice .full 1 [])))]
def F116_r1:List AIns:=[jm 7 1,jg 8 7,jc 9 0]
def F116_r2:List AIns:=[jq 10 9 8]
def F116_r3:List AIns:=[jx 11 2 7 9,jK 12 2 11,ii 6 (.alloc true Z6),jns 2 6 12]
def F116_r4:List AIns:=[ja 13 0 6,jl 14 13,jm 15 14,jtm 16 15 0,jta 17 15 1 6,jtl 18 15 17,it 19 15 (cl N117_ [16,18]),it 20 15 (.bin .lss (.t 19) (.c (.lit (.int .i64 0)))),jp 21 15 20]
def F116_r5:List AIns:=[jm 22 0,ja 23 1 6,jl 24 23,jB 25 1 24,ii 26 (.wop (.appm 1 8) [(.t 22),(.t 25)]),jm 0 26]
def F116_r6:List AIns:=[jA 27 9 1,jm 9 27]
def F116_l1:AC:=.seq (R F116_r2 [0,7,8,9,10] []) (.seq (.cond (.t 10) (.skip) (.exit 0)) (.seq (.block 1 (.seq (R F116_r3 [0,6,7,8,9] [6]) (.seq (R F116_r4 [0,6,7,8,9,21] [6]) (.cond (.t 21) (R F116_r5 [0,7,8,9] []) (.skip))))) (R F116_r6 [0,7,8,9] [])))
def F116_r7:List AIns:=[jm 28 0,jm 4 28]
def F116_:AFun:=⟨2,.seq (R F116_r0 [0,1] []) (.seq (.seq (R F116_r1 [0,7,8,9] []) (.block 0 (.loop F116_l1))) (.seq (R F116_r7 [4] []) (.ret))),[.t 4]⟩
def F117_r0:List AIns:=[jc 4 0]
def F117_r1:List AIns:=[jm 7 0,jg 8 7,jc 9 0]
def F117_r2:List AIns:=[jq 10 9 8]
def F117_r3:List AIns:=[jm 11 9,jx 12 1 7 9,jL 13 12,jm 5 11,jm 6 13]
def F117_r4:List AIns:=[jm 14 6,jm 15 1,ii 16 (.bin .eql (.t 14) (.t 15))]
def F117_r5:List AIns:=[jm 17 5,jm 4 17]
def F117_r6:List AIns:=[jA 18 9 1,jm 9 18]
def F117_l1:AC:=.seq (R F117_r2 [1,7,8,9,10] []) (.seq (.cond (.t 10) (.skip) (.exit 0)) (.seq (.block 1 (.seq (R F117_r3 [1,5,6,7,8,9] []) (.seq (R F117_r4 [1,5,7,8,9,16] []) (.cond (.t 16) (.seq (R F117_r5 [4] []) (.ret)) (.skip))))) (R F117_r6 [1,7,8,9] [])))
def F117_r7:List AIns:=[ii 4 (.mv (.c (.lit (.int .i64 (-1)))))]
def F117_:AFun:=⟨2,.seq (R F117_r0 [0,1] []) (.seq (.seq (R F117_r1 [1,7,8,9] []) (.block 0 (.loop F117_l1))) (.seq (R F117_r7 [4] []) (.ret))),[.t 4]⟩
def F119_r0:List AIns:=[jb 2 0,jf_ 4]
def F119_r1:List AIns:=[jm 7 1,jg 8 7,jc 9 0]
def F119_r2:List AIns:=[jq 10 9 8]
def F119_r3:List AIns:=[jx 11 2 7 9,jk 12 2 11,ii 6 (.alloc true Z6),jns 2 6 12]
def F119_r4:List AIns:=[ja 13 0 6,jl 14 13,jm 15 14,jtk 16 15 2 2,jta 17 15 1 6,jtl 18 15 17,it 19 15 (cl N100_ [16,18]),it 20 15 (.bin .lss (.t 19) (.c (.lit (.int .i64 0)))),jp 21 15 20]
def F119_r5:List AIns:=[jf_ 4]
def F119_r6:List AIns:=[jA 22 9 1,jm 9 22]
def F119_l1:AC:=.seq (R F119_r2 [2,7,8,9,10] [2]) (.seq (.cond (.t 10) (.skip) (.exit 0)) (.seq (.block 1 (.seq (R F119_r3 [2,6,7,8,9] [2,6]) (.seq (R F119_r4 [2,7,8,9,21] [2]) (.cond (.t 21) (.seq (R F119_r5 [4] []) (.ret)) (.skip))))) (R F119_r6 [2,7,8,9] [2])))
def F119_r7:List AIns:=[ii 4 (.mv (.c (.lit (.bool true))))]
def F119_:AFun:=⟨2,.seq (R F119_r0 [1,2] [2]) (.seq (.seq (R F119_r1 [2,7,8,9] [2]) (.block 0 (.loop F119_l1))) (.seq (R F119_r7 [4] []) (.ret))),[.t 4]⟩
def F120_r0:List AIns:=[jc 4 0]
def F120_r1:List AIns:=[jm 5 1]
def F120_r2:List AIns:=[je 7 5 0,jm 6 7]
def F120_r3:List AIns:=[jc 4 0]
def F120_r4:List AIns:=[ii 9 (.bin .eql (.t 5) (.c (.lit (.int .i64 (-1))))),jm 8 9]
def F120_r5:List AIns:=[jm 10 0,ii 11 (.uneg (.t 10)),jm 4 11]
def F120_r6:List AIns:=[jm 12 0,jm 13 1,ii 14 (.bin .quo (.t 12) (.t 13)),jm 4 14]
def F120_:AFun:=⟨2,.seq (R F120_r0 [0,1] []) (.seq (.seq (R F120_r1 [0,1,5] []) (.block 0 (.seq (R F120_r2 [0,1,5,6] []) (.cond (.t 6) (.seq (R F120_r3 [4] []) (.ret)) (.seq (R F120_r4 [0,1,8] []) (.cond (.t 8) (.seq (R F120_r5 [4] []) (.ret)) (.skip))))))) (.seq (R F120_r6 [4] []) (.ret))),[.t 4]⟩
def F121_r0:List AIns:=[jc 2 0]
def F121_r1:List AIns:=[jm 3 0]
def F121_r2:List AIns:=[jc 2 1]
def F121_r3:List AIns:=[jc 2 0]
def F121_:AFun:=⟨1,.seq (R F121_r0 [0] []) (.seq (.seq (R F121_r1 [3] []) (.cond (.t 3) (.seq (R F121_r2 [2] []) (.ret)) (.skip))) (.seq (R F121_r3 [2] []) (.ret))),[.t 2]⟩
def F123_r0:List AIns:=[jc 4 0]
def F123_r1:List AIns:=[jm 6 0,jg 7 6,jc 8 0]
def F123_r2:List AIns:=[jq 9 8 7]
def F123_r3:List AIns:=[jm 10 8,jm 5 10]
def F123_r4:List AIns:=[jm 11 1,jm 12 0,jm 13 5,jx 14 2 12 13,jK 15 2 14,ii 16 (.call (.t 11) [(.t 15)])]
def F123_r5:List AIns:=[jm 17 5,jm 4 17]
def F123_r6:List AIns:=[jA 18 8 1,jm 8 18]
def F123_l1:AC:=.seq (R F123_r2 [0,1,7,8,9] []) (.seq (.cond (.t 9) (.skip) (.exit 0)) (.seq (.block 1 (.seq (R F123_r3 [0,1,5,7,8] []) (.seq (R F123_r4 [0,1,5,7,8,16] []) (.cond (.t 16) (.seq (R F123_r5 [4] []) (.ret)) (.skip))))) (R F123_r6 [0,1,7,8] [])))
def F123_r7:List AIns:=[ii 4 (.mv (.c (.lit (.int .i64 (-1)))))]
def F123_:AFun:=⟨2,.seq (R F123_r0 [0,1] []) (.seq (.seq (R F123_r1 [0,1,7,8] []) (.block 0 (.loop F123_l1))) (.seq (R F123_r7 [4] []) (.ret))),[.t 4]⟩
def tab:List (Nat × AFun):=[(N3_,F3_),(N4_,F4_),(N5_,F5_),(N6_,F6_),(N7_,F7_),(N8_,F8_),(N9_,F9_),(N10_,F10_),(N11_,F11_),(N12_,F12_),(N13_,F13_),(N14_,F14_),(N15_,F15_),(N16_,F16_),(N17_,F17_),(N18_,F18_),(N19_,F19_),(N20_,F20_),(N21_,F21_),(N22_,F22_),(N23_,F23_),(N24_,F24_),(N25_,F25_),(N26_,F26_),(N27_,F27_),(N28_,F28_),(N29_,F29_),(N30_,F30_),(N31_,F31_),(N32_,F32_),(N33_,F33_),(N34_,F34_),(N35_,F35_),(N38_,F38_),(N39_,F39_),(N40_,F40_),(N41_,F41_),(N42_,F42_),(N43_,F43_),(N44_,F44_),(N45_,F45_),(N46_,F46_),(N47_,F47_),(N48_,F48_),(N49_,F49_),(N50_,F50_),(N51_,F51_),(N52_,F52_),(N53_,F53_),(N54_,F54_),(N55_,F55_),(N56_,F56_),(N57_,F57_),(N58_,F58_),(N59_,F59_),(N60_,F60_),(N61_,F61_),(N62_,F62_),(N63_,F63_),(N64_,F64_),(N65_,F65_),(N66_,F66_),(N67_,F67_),(N68_,F68_),(N69_,F69_),(N70_,F70_),(N72_,F72_),(N73_,F73_),(N74_,F74_),(N75_,F75_),(N76_,F76_),(N77_,F77_),(N78_,F78_),(N79_,F79_),(N80_,F80_),(N81_,F81_),(N82_,F82_),(N83_,F83_),(N84_,F84_),(N85_,F85_),(N86_,F86_),(N87_,F87_),(N88_,F88_),(N89_,F89_),(N90_,F90_),(N91_,F91_),(N92_,F92_),(N93_,F93_),(N95_,F95_),(N96_,F96_),(N97_,F97_),(N98_,F98_),(N99_,F99_),(N100_,F100_),(N101_,F101_),(N103_,F103_),(N104_,F104_),(N105_,F105_),(N106_,F106_),(N107_,F107_),(N108_,F108_),(N109_,F109_),(N110_,F110_),(N111_,F111_),(N114_,F114_),(N115_,F115_),(N116_,F116_),(N117_,F117_),(N119_,F119_),(N120_,F120_),(N121_,F121_),(N123_,F123_)]
def fnOf (n:Nat):Option AFun:=(tab.find? fun x=>x.1 == n).map (·.2)
end Go.Sim.W
namespace Go.Sim.W
open Go Go.Sim
abbrev SL (sz:Nat) (xs:List AV):AV:=.slice .none sz xs
abbrev ints (l:List Int):AV:=SL 1 (l.map I)
structure Word where
 ref:Bool
 n:Int
deriving DecidableEq
def Word.cs (w:Word):List AV:=[B w.ref,I w.n]
def Word.enc (w:Word):AV:=.agg w.cs
def w0:Word:=⟨false,0⟩
structure Instr where
 op:Int
 a:Int
 b:Int
 c:Int
 n:Int
 regs:List Int
 to:List Int
def Instr.cs (x:Instr):List AV:=[I x.op,I x.a,I x.b,I x.c,I x.n,ints x.regs,ints x.to]
def Instr.enc (x:Instr):AV:=.agg x.cs
structure Code where
 params:Int
 ins:List Instr
 entries:List Int
def Code.cs (c:Code):List AV:=[I c.params,SL 7 (c.ins.map Instr.enc),ints c.entries]
structure Run where
 fin:Int
 val:Int
 outs:List Int
 steps:Int
theorem ereg_1 {c:Caller} {l:List AIns} {a:Nat} {k kl:List Nat} {E E1:Nat → Option TV} {L:Nat → Option (List AV)} {n:Nat} {v:Nat → Bool} {D:List (Nat × List AV)} {S:Sg} {Q:Ex → Fr → Prop}
 (h1:dropL a E=E1) (h:HL c l ⟨E1,upd L a none,n,v,D,S⟩ (KQ k kl Q)):EX c (.reg l [a] k kl) ⟨E,L,n,v,D,S⟩ Q:=by
 refine eregf ?_
 rw [← h1] at h
 exact h
def WL (sz:Nat) (v:AV) (n:Nat) (cs:List AV) (S:Sg):Prop :=
 cs.length=n * sz ∧ ((n=0 ∧ v=.slice .full sz []) ∨ ∃ g,v=.ms g 0 n sz ∧ S.mu g=some cs ∧ g < S.mn)
def tk:AV → List Nat
 | .ms g _ _ _=>[g]
 | _=>[]
def tks (l:List AV):List Nat:=l.flatMap tk
theorem WL.c1 {sz n:Nat} {v:AV} {cs:List AV} {S:Sg} (h:WL sz v n cs S):v.cells=[v]:=by
 rcases h.2 with ⟨_,rfl⟩ | ⟨g,rfl,_⟩ <;> rfl
theorem WL.erT {sz n:Nat} {v:AV} {cs:List AV} {S:Sg} (h:WL sz v n cs S):v.erT=v:=by
 rcases h.2 with ⟨_,rfl⟩ | ⟨g,rfl,_⟩ <;> rfl
theorem WL.tip {sz n:Nat} {v:AV} {cs:List AV} {S:Sg} (h:WL sz v n cs S) (t s:Nat) (xs:List AV):v ≠ .slice (.tip t) s xs:=by
 rcases h.2 with ⟨_,rfl⟩ | ⟨g,rfl,_⟩ <;> (intro e;cases e)
theorem WL.lt {sz n:Nat} {v:AV} {cs:List AV} {S:Sg} (h:WL sz v n cs S):∀ g ∈ tk v,g < S.mn:=by
 rcases h.2 with ⟨_,rfl⟩ | ⟨g,rfl,_,h⟩
 ·intro g hg;cases hg
 intro g' hg
 rw [List.mem_singleton.1 hg]
 exact h
theorem WL.mono {sz n:Nat} {v:AV} {cs:List AV} {S S':Sg} (h:WL sz v n cs S) (hm:∀ g ∈ tk v,S'.mu g=S.mu g) (hn:S.mn ≤ S'.mn):WL sz v n cs S':=by
 refine ⟨h.1,?_⟩
 rcases h.2 with h | ⟨g,rfl,h1,h2⟩
 ·exact .inl h
 exact .inr ⟨g,rfl,(hm g (by simp [tk])).trans h1,Nat.lt_of_lt_of_le h2 hn⟩
def own (X:List Nat) (S:Sg) (g:Nat):Prop:=∃ i ∈ X,∃ row,S.ob i=some (.row row) ∧ g ∈ tks row
structure KX (X:List Nat) (S S':Sg):Prop where
 nx:S.nx ≤ S'.nx
 mn:S.mn ≤ S'.mn
 gn:S.gn ≤ S'.gn
 gl:∀ g,g < S.gn → S'.gl g=S.gl g
 Q:S'.Q=S.Q
 ob:∀ i,i < S.nx → i ∉ X → S'.ob i=S.ob i
 mu:∀ g,g < S.mn → ¬ own X S g → S'.mu g=S.mu g
 own:∀ g,own X S' g → own X S g ∨ S.mn ≤ g
theorem KX.refl (X:List Nat) (S:Sg):KX X S S:=⟨Nat.le_refl _,Nat.le_refl _,Nat.le_refl _,fun _ _=>rfl,rfl,fun _ _ _=>rfl,fun _ _ _=>rfl,fun _ h=>.inl h⟩
theorem KX.trans {X:List Nat} {A B C:Sg} (h:KX X A B) (k:KX X B C):KX X A C:=by
 refine ⟨Nat.le_trans h.nx k.nx,Nat.le_trans h.mn k.mn,Nat.le_trans h.gn k.gn,fun g hg=>(k.gl g (Nat.lt_of_lt_of_le hg h.gn)).trans (h.gl g hg),k.Q.trans h.Q,
  fun i hi hx=>(k.ob i (Nat.lt_of_lt_of_le hi h.nx) hx).trans (h.ob i hi hx),fun g hg ho=>?_,fun g hg=>?_⟩
 ·refine (k.mu g (Nat.lt_of_lt_of_le hg h.mn) fun hb=>?_).trans (h.mu g hg ho)
  rcases h.own g hb with hb | hb
  ·exact ho hb
  omega
 rcases k.own g hg with hg | hg
 ·exact h.own g hg
 exact .inr (Nat.le_trans h.mn hg)
theorem KX.up {X Y:List Nat} {S S':Sg} (h:KX X S S') (hY:∀ i ∈ Y,i < S.nx) (hs:∀ i ∈ X,i ∈ Y):KX Y S S':=by
 refine ⟨h.nx,h.mn,h.gn,h.gl,h.Q,fun i hi hx=>h.ob i hi fun hx2=>hx (hs i hx2),fun g hg ho=>h.mu g hg fun ⟨i,hi,r⟩=>ho ⟨i,hs i hi,r⟩,fun g hg=>?_⟩
 obtain ⟨i,hi,row,h1,h2⟩:=hg
 by_cases hx:i ∈ X
 ·rcases h.own g ⟨i,hx,row,h1,h2⟩ with ⟨j,hj,r⟩ | h
  ·exact .inl ⟨j,hs j hj,r⟩
  exact .inr h
 rw [h.ob i (hY i hi) hx] at h1
 exact .inl ⟨i,hi,row,h1,h2⟩
end Go.Sim.W
namespace Go.Sim.W
open Go Go.Sim
def hasInt (q:Option AV):Bool :=
 match q with
 | some (.lit (.int .i64 _))=>true
 | _=>false
def containsOv (args:List AV) (s:Sg):Option (List AV × Sg) :=
 match args with
 | [.lit (.string a),.lit (.string b)]=>if a.size < 4294967281 ∧ hasInt (s.Q 0 0)=true then some ([.lit (.bool (Lib.contains a.data.toList b.data.toList))],s) else none
 | _=>none
def asciiB (f:ByteArray):Bool:=f.data.toList.all fun b=>decide (b.toNat < 128)
def hasB (f:ByteArray) (r:Int):Bool:=f.data.toList.any fun b=>decide ((b.toNat:Int)=r)
def hasOv (args:List AV) (s:Sg):Option (List AV × Sg) :=
 match args with
 | [.agg [.lit (.string nm),.lit (.string f)],.lit (.int .i32 r)]=>if asciiB f=true then some ([.lit (.bool (hasB f r))],s) else none
 | _=>none
def insertOv (args:List AV) (s:Sg):Option (List AV × Sg) :=
 match args with
 | [.ms g 0 len 2,.lit (.int .i64 0),.slice o 2 [w]]=>(s.mu g).bind fun cs=>if cs.length=len * 2 ∧ w.cells.length=2 ∧ (len + 1) * 16 ≤ 2 ^ 47 then
    some ([.ms s.mn 0 (len + 1) 2],{ s with mu:=upd (upd s.mu g none) s.mn (some (w.cells ++ cs)),mn:=s.mn + 1 }) else none
 | _=>none
def ov (n:Nat):Option (List AV → Sg → Option (List AV × Sg)) :=
 if n=N102_ then some containsOv else if n=N71_ then some hasOv else if n=N37_ then some (cloneOv 1 8) else if n=N36_ then some (cloneOv 2 16)
 else if n=N94_ then some insertOv else none
def p:Pg:=⟨fnOf,ov⟩
theorem f3_:p.fn N3_=some F3_:=rfl
theorem f4_:p.fn N4_=some F4_:=rfl
theorem f5_:p.fn N5_=some F5_:=rfl
theorem f6_:p.fn N6_=some F6_:=rfl
theorem f7_:p.fn N7_=some F7_:=rfl
theorem f8_:p.fn N8_=some F8_:=rfl
theorem f9_:p.fn N9_=some F9_:=rfl
theorem f10_:p.fn N10_=some F10_:=rfl
theorem f11_:p.fn N11_=some F11_:=rfl
theorem f12_:p.fn N12_=some F12_:=rfl
theorem f13_:p.fn N13_=some F13_:=rfl
theorem f14_:p.fn N14_=some F14_:=rfl
theorem f15_:p.fn N15_=some F15_:=rfl
theorem f16_:p.fn N16_=some F16_:=rfl
theorem f17_:p.fn N17_=some F17_:=rfl
theorem f18_:p.fn N18_=some F18_:=rfl
theorem f19_:p.fn N19_=some F19_:=rfl
theorem f20_:p.fn N20_=some F20_:=rfl
theorem f21_:p.fn N21_=some F21_:=rfl
theorem f22_:p.fn N22_=some F22_:=rfl
theorem f23_:p.fn N23_=some F23_:=rfl
theorem f24_:p.fn N24_=some F24_:=rfl
theorem f25_:p.fn N25_=some F25_:=rfl
theorem f26_:p.fn N26_=some F26_:=rfl
theorem f27_:p.fn N27_=some F27_:=rfl
theorem f28_:p.fn N28_=some F28_:=rfl
theorem f29_:p.fn N29_=some F29_:=rfl
theorem f30_:p.fn N30_=some F30_:=rfl
theorem f31_:p.fn N31_=some F31_:=rfl
theorem f32_:p.fn N32_=some F32_:=rfl
theorem f33_:p.fn N33_=some F33_:=rfl
theorem f34_:p.fn N34_=some F34_:=rfl
theorem f35_:p.fn N35_=some F35_:=rfl
theorem f38_:p.fn N38_=some F38_:=rfl
theorem f39_:p.fn N39_=some F39_:=rfl
theorem f40_:p.fn N40_=some F40_:=rfl
theorem f41_:p.fn N41_=some F41_:=rfl
theorem f42_:p.fn N42_=some F42_:=rfl
theorem f43_:p.fn N43_=some F43_:=rfl
theorem f44_:p.fn N44_=some F44_:=rfl
theorem f45_:p.fn N45_=some F45_:=rfl
theorem f46_:p.fn N46_=some F46_:=rfl
theorem f47_:p.fn N47_=some F47_:=rfl
theorem f48_:p.fn N48_=some F48_:=rfl
theorem f49_:p.fn N49_=some F49_:=rfl
theorem f50_:p.fn N50_=some F50_:=rfl
theorem f51_:p.fn N51_=some F51_:=rfl
theorem f52_:p.fn N52_=some F52_:=rfl
theorem f53_:p.fn N53_=some F53_:=rfl
theorem f54_:p.fn N54_=some F54_:=rfl
theorem f55_:p.fn N55_=some F55_:=rfl
theorem f56_:p.fn N56_=some F56_:=rfl
theorem f57_:p.fn N57_=some F57_:=rfl
theorem f58_:p.fn N58_=some F58_:=rfl
theorem f59_:p.fn N59_=some F59_:=rfl
theorem f60_:p.fn N60_=some F60_:=rfl
theorem f61_:p.fn N61_=some F61_:=rfl
theorem f62_:p.fn N62_=some F62_:=rfl
theorem f63_:p.fn N63_=some F63_:=rfl
theorem f64_:p.fn N64_=some F64_:=rfl
theorem f65_:p.fn N65_=some F65_:=rfl
theorem f66_:p.fn N66_=some F66_:=rfl
theorem f67_:p.fn N67_=some F67_:=rfl
theorem f68_:p.fn N68_=some F68_:=rfl
theorem f69_:p.fn N69_=some F69_:=rfl
theorem f70_:p.fn N70_=some F70_:=rfl
theorem f72_:p.fn N72_=some F72_:=rfl
theorem f73_:p.fn N73_=some F73_:=rfl
theorem f74_:p.fn N74_=some F74_:=rfl
theorem f75_:p.fn N75_=some F75_:=rfl
theorem f76_:p.fn N76_=some F76_:=rfl
theorem f77_:p.fn N77_=some F77_:=rfl
theorem f78_:p.fn N78_=some F78_:=rfl
theorem f79_:p.fn N79_=some F79_:=rfl
theorem f80_:p.fn N80_=some F80_:=rfl
theorem f81_:p.fn N81_=some F81_:=rfl
theorem f82_:p.fn N82_=some F82_:=rfl
theorem f83_:p.fn N83_=some F83_:=rfl
theorem f84_:p.fn N84_=some F84_:=rfl
theorem f85_:p.fn N85_=some F85_:=rfl
theorem f86_:p.fn N86_=some F86_:=rfl
theorem f87_:p.fn N87_=some F87_:=rfl
theorem f88_:p.fn N88_=some F88_:=rfl
theorem f89_:p.fn N89_=some F89_:=rfl
theorem f90_:p.fn N90_=some F90_:=rfl
theorem f91_:p.fn N91_=some F91_:=rfl
theorem f92_:p.fn N92_=some F92_:=rfl
theorem f93_:p.fn N93_=some F93_:=rfl
theorem f95_:p.fn N95_=some F95_:=rfl
theorem f96_:p.fn N96_=some F96_:=rfl
theorem f97_:p.fn N97_=some F97_:=rfl
theorem f98_:p.fn N98_=some F98_:=rfl
theorem f99_:p.fn N99_=some F99_:=rfl
theorem f100_:p.fn N100_=some F100_:=rfl
theorem f101_:p.fn N101_=some F101_:=rfl
theorem f103_:p.fn N103_=some F103_:=rfl
theorem f104_:p.fn N104_=some F104_:=rfl
theorem f105_:p.fn N105_=some F105_:=rfl
theorem f106_:p.fn N106_=some F106_:=rfl
theorem f107_:p.fn N107_=some F107_:=rfl
theorem f108_:p.fn N108_=some F108_:=rfl
theorem f109_:p.fn N109_=some F109_:=rfl
theorem f110_:p.fn N110_=some F110_:=rfl
theorem f111_:p.fn N111_=some F111_:=rfl
theorem f114_:p.fn N114_=some F114_:=rfl
theorem f115_:p.fn N115_=some F115_:=rfl
theorem f116_:p.fn N116_=some F116_:=rfl
theorem f117_:p.fn N117_=some F117_:=rfl
theorem f119_:p.fn N119_=some F119_:=rfl
theorem f120_:p.fn N120_=some F120_:=rfl
theorem f121_:p.fn N121_=some F121_:=rfl
theorem f123_:p.fn N123_=some F123_:=rfl
end Go.Sim.W
