/-
  A part of a proof: see the last text of this claim.
-/
import Derived.Test.YtljdbieojelmjaaPC
import Derived.Lib.IndexMore
set_option linter.unusedVariables false
set_option linter.unusedSimpArgs false
namespace Go.Sim.W
open Go Go.Sim
def R (l:List AIns) (k kl:List Nat):AC:=.reg l [] k kl
abbrev Z0:List AV:=[.lit (.int .i64 0),.lit (.int .i64 0),.lit (.int .i64 0),.lit (.int .i64 0),.lit (.int .i64 0),.slice .full 1 [],.slice .full 1 []]
abbrev Z1:List AV:=[.lit (.int .i64 0),.lit (.int .i64 0),.slice .full 1 [],.lit (.int .i64 0)]
abbrev Z2:List AV:=[.lit (.int .i64 0),.slice .full 7 [],.slice .full 1 []]
abbrev Z3:List AV:=[.lit (.string ⟨#[]⟩),.lit (.string ⟨#[]⟩)]
abbrev Z4:List AV:=[.lit (.bool false),.lit (.int .i64 0)]
def ii (n:Nat) (o:AOp):AIns:=⟨some n,none,o⟩
def it (n g:Nat) (o:AOp):AIns:=⟨some n,some (g,true),o⟩
def iF (n g:Nat) (o:AOp):AIns:=⟨some n,some (g,false),o⟩
def cl (f:Nat) (l:List Nat):AOp:=.call (.f f) (l.map .t)
def jm (d:Nat) (a:Nat):AIns:=⟨some d,none,.mv (.t a)⟩
def jtm (d:Nat) (g:Nat) (a:Nat):AIns:=⟨some d,some (g,true),.mv (.t a)⟩
def jfm (d:Nat) (g:Nat) (a:Nat):AIns:=⟨some d,some (g,false),.mv (.t a)⟩
def ja (d:Nat) (k:Nat) (a:Nat):AIns:=⟨some d,none,.fa k (.t a)⟩
def jta (d:Nat) (g:Nat) (k:Nat) (a:Nat):AIns:=⟨some d,some (g,true),.fa k (.t a)⟩
def jfa (d:Nat) (g:Nat) (k:Nat) (a:Nat):AIns:=⟨some d,some (g,false),.fa k (.t a)⟩
def jl (d:Nat) (a:Nat):AIns:=⟨some d,none,.ld false none (.t a)⟩
def jtl (d:Nat) (g:Nat) (a:Nat):AIns:=⟨some d,some (g,true),.ld false none (.t a)⟩
def jfl (d:Nat) (g:Nat) (a:Nat):AIns:=⟨some d,some (g,false),.ld false none (.t a)⟩
def jL (d:Nat) (a:Nat):AIns:=⟨some d,none,.ld true none (.t a)⟩
def jtL (d:Nat) (g:Nat) (a:Nat):AIns:=⟨some d,some (g,true),.ld true none (.t a)⟩
def jfL (d:Nat) (g:Nat) (a:Nat):AIns:=⟨some d,some (g,false),.ld true none (.t a)⟩
def jk (d:Nat) (k:Nat) (a:Nat):AIns:=⟨some d,none,.ld false (some k) (.t a)⟩
def jtk (d:Nat) (g:Nat) (k:Nat) (a:Nat):AIns:=⟨some d,some (g,true),.ld false (some k) (.t a)⟩
def jfk (d:Nat) (g:Nat) (k:Nat) (a:Nat):AIns:=⟨some d,some (g,false),.ld false (some k) (.t a)⟩
def jK (d:Nat) (k:Nat) (a:Nat):AIns:=⟨some d,none,.ld true (some k) (.t a)⟩
def jtK (d:Nat) (g:Nat) (k:Nat) (a:Nat):AIns:=⟨some d,some (g,true),.ld true (some k) (.t a)⟩
def jc (d:Nat) (k:Int):AIns:=⟨some d,none,.mv (.c (.lit (.int .i64 k)))⟩
def jf_ (d:Nat):AIns:=⟨some d,none,.mv (.c (.lit (.bool false)))⟩
def jp (d:Nat) (a:Nat) (b:Nat):AIns:=⟨some d,none,.pick (.t a) (.t b) (.c (.lit (.bool false)))⟩
def jfp (d:Nat) (g:Nat) (a:Nat) (b:Nat):AIns:=⟨some d,some (g,false),.pick (.t a) (.t b) (.c (.lit (.bool false)))⟩
def jP (d:Nat) (a:Nat) (b:Nat):AIns:=⟨some d,none,.pick (.t a) (.c (.lit (.bool true))) (.t b)⟩
def jtP (d:Nat) (g:Nat) (a:Nat) (b:Nat):AIns:=⟨some d,some (g,true),.pick (.t a) (.c (.lit (.bool true))) (.t b)⟩
def jA (d:Nat) (a:Nat) (k:Int):AIns:=⟨some d,none,.bin .add (.t a) (.c (.lit (.int .i64 k)))⟩
def je (d:Nat) (a:Nat) (k:Int):AIns:=⟨some d,none,.bin .eql (.t a) (.c (.lit (.int .i64 k)))⟩
def jte (d:Nat) (g:Nat) (a:Nat) (k:Int):AIns:=⟨some d,some (g,true),.bin .eql (.t a) (.c (.lit (.int .i64 k)))⟩
def jfe (d:Nat) (g:Nat) (a:Nat) (k:Int):AIns:=⟨some d,some (g,false),.bin .eql (.t a) (.c (.lit (.int .i64 k)))⟩
def jq (d:Nat) (a:Nat) (b:Nat):AIns:=⟨some d,none,.bin .lss (.t a) (.t b)⟩
def jtq (d:Nat) (g:Nat) (a:Nat) (b:Nat):AIns:=⟨some d,some (g,true),.bin .lss (.t a) (.t b)⟩
def jfq (d:Nat) (g:Nat) (a:Nat) (b:Nat):AIns:=⟨some d,some (g,false),.bin .lss (.t a) (.t b)⟩
def jx (d:Nat) (k:Nat) (a:Nat) (b:Nat):AIns:=⟨some d,none,.ia k (.t a) (.t b)⟩
def jtx (d:Nat) (g:Nat) (k:Nat) (a:Nat) (b:Nat):AIns:=⟨some d,some (g,true),.ia k (.t a) (.t b)⟩
def jfx (d:Nat) (g:Nat) (k:Nat) (a:Nat) (b:Nat):AIns:=⟨some d,some (g,false),.ia k (.t a) (.t b)⟩
def jg (d:Nat) (a:Nat):AIns:=⟨some d,none,.len false (.t a)⟩
def jtg (d:Nat) (g:Nat) (a:Nat):AIns:=⟨some d,some (g,true),.len false (.t a)⟩
def jfg (d:Nat) (g:Nat) (a:Nat):AIns:=⟨some d,some (g,false),.len false (.t a)⟩
def jh (d:Nat) (a:Nat):AIns:=⟨some d,none,.nck (.t a)⟩
def jth (d:Nat) (g:Nat) (a:Nat):AIns:=⟨some d,some (g,true),.nck (.t a)⟩
def jfh (d:Nat) (g:Nat) (a:Nat):AIns:=⟨some d,some (g,false),.nck (.t a)⟩
def ju (d:Nat) (a:Nat):AIns:=⟨some d,none,.unot (.t a)⟩
def jtu (d:Nat) (g:Nat) (a:Nat):AIns:=⟨some d,some (g,true),.unot (.t a)⟩
def jfu (d:Nat) (g:Nat) (a:Nat):AIns:=⟨some d,some (g,false),.unot (.t a)⟩
def jb (d:Nat) (a:Nat):AIns:=⟨some d,none,.box true (.t a)⟩
def jz (d:Nat) (a:Nat) (k:Nat):AIns:=⟨some d,none,.ext (.t a) k⟩
def jns (k:Nat) (a:Nat) (b:Nat):AIns:=⟨none,none,.st false k (.t a) (.t b)⟩
def jnS (k:Nat) (a:Nat) (b:Nat):AIns:=⟨none,none,.st true k (.t a) (.t b)⟩
def jB (d:Nat) (k:Nat) (a:Nat):AIns:=⟨some d,none,.bsl k [.t a]⟩
def N4_:Nat:=4
def N5_:Nat:=5
def N6_:Nat:=6
def N7_:Nat:=7
def N8_:Nat:=8
def N9_:Nat:=9
def N10_:Nat:=10
def N11_:Nat:=11
def N12_:Nat:=12
def N13_:Nat:=13
def N14_:Nat:=14
def N15_:Nat:=15
def N16_:Nat:=16
def N17_:Nat:=17
def N18_:Nat:=18
def N19_:Nat:=19
def N20_:Nat:=20
def N21_:Nat:=21
def N22_:Nat:=22
def N23_:Nat:=23
def N24_:Nat:=24
def N25_:Nat:=25
def N26_:Nat:=26
def N27_:Nat:=27
def N28_:Nat:=28
def N29_:Nat:=29
def N30_:Nat:=30
def N31_:Nat:=31
def N32_:Nat:=32
def N33_:Nat:=33
def N34_:Nat:=34
def N35_:Nat:=35
def N36_:Nat:=36
def N37_:Nat:=37
def N38_:Nat:=38
def N39_:Nat:=39
def N40_:Nat:=40
def N41_:Nat:=41
def N42_:Nat:=42
def N43_:Nat:=43
def N44_:Nat:=44
def N45_:Nat:=45
def N46_:Nat:=46
def N47_:Nat:=47
def N48_:Nat:=48
def N49_:Nat:=49
def N50_:Nat:=50
def N51_:Nat:=51
def N52_:Nat:=52
def N53_:Nat:=53
def N54_:Nat:=54
def N55_:Nat:=55
def N56_:Nat:=56
def N57_:Nat:=57
def N58_:Nat:=58
def N59_:Nat:=59
def N60_:Nat:=60
def N61_:Nat:=61
def N62_:Nat:=62
def N63_:Nat:=63
def N64_:Nat:=64
def N65_:Nat:=65
def N66_:Nat:=66
def N67_:Nat:=67
def N68_:Nat:=68
def N69_:Nat:=69
def N70_:Nat:=70
def N71_:Nat:=71
def N72_:Nat:=72
def N73_:Nat:=73
def N74_:Nat:=74
def N75_:Nat:=75
def N76_:Nat:=76
def N77_:Nat:=77
def N78_:Nat:=78
def N79_:Nat:=79
def N80_:Nat:=80
def N81_:Nat:=81
def N82_:Nat:=82
def F4_r0:List AIns:=[jb 8 0,jf_ 16]
def F4_r1:List AIns:=[jk 34 3 8,jm 35 5,jm 36 6,ii 37 (cl N5_ [34,35,36]),ju 38 37,jm 39 38,jfk 40 39 3 8,jfm 41 39 1,jfm 42 39 3,jfm 43 39 5,jfm 44 39 6,iF 45 39 (cl N6_ [40,41,42,43,44]),iF 46 39 (.bin .neq (.t 45) (.c (.lit (.int .i64 0)))),jP 47 39 46,jm 48 47,jfk 49 48 3 8,jfm 50 48 2,jfm 51 48 4,jfm 52 48 5,jfm 53 48 6,iF 54 48 (cl N6_ [49,50,51,52,53]),iF 55 48 (.bin .neq (.t 54) (.c (.lit (.int .i64 0)))),jP 56 48 55,jm 57 56,jfm 58 57 2,jfm 59 57 1,jfq 60 57 58 59,jP 61 57 60]
def F4_r2:List AIns:=[ii 62 (cl N7_ []),jm 16 62]
def F4_r3:List AIns:=[jk 64 3 8,jm 65 1,jm 66 3,jm 67 5,jm 68 6,ii 69 (cl N11_ [64,65,66,67,68]),jm 63 69,jz 70 63 0,jz 71 63 1,jm 17 70,jm 18 71]
def F4_r4:List AIns:=[jk 73 3 8,jm 74 2,jm 75 4,jm 76 5,jm 77 6,ii 78 (cl N11_ [73,74,75,76,77]),jm 72 78,jz 79 72 0,jz 80 72 1,jm 19 79,jm 20 80]
def F4_r5:List AIns:=[jm 81 18,ii 82 (.bin .neq (.t 81) (.c (.lit (.int .i64 0)))),jm 83 82,jfm 84 83 20,iF 85 83 (.bin .neq (.t 84) (.c (.lit (.int .i64 0)))),jP 86 83 85]
def F4_r6:List AIns:=[jf_ 16]
def F4_r7:List AIns:=[jc 21 0]
def F4_r8:List AIns:=[jm 87 21,jm 88 5,ii 89 (.bin .leq (.t 87) (.t 88))]
def F4_r10:List AIns:=[jm 92 7,jg 93 92,jc 94 0]
def F4_r11:List AIns:=[jq 95 94 93]
def F4_r12:List AIns:=[jx 96 1 92 94,jl 97 96,jm 23 97]
def F4_r13:List AIns:=[jm 98 23,jm 99 21,ii 100 (.bin .eql (.t 98) (.t 99)),jm 101 100,jtm 102 101 19,it 103 101 (cl N12_ [102]),it 104 101 (.bin .neq (.t 103) (.c (.lit (.int .i64 0)))),jp 105 101 104]
def F4_r14:List AIns:=[jf_ 16]
def F4_r15:List AIns:=[jA 106 94 1,jm 94 106]
def F4_l2:AC:=.seq (R F4_r11 [5,7,17,19,21,92,93,94,95] []) (.seq (.cond (.t 95) (.skip) (.exit 2)) (.seq (.block 3 (.seq (R F4_r12 [5,7,17,19,21,23,92,93,94] []) (.seq (R F4_r13 [5,7,17,19,21,92,93,94,105] []) (.cond (.t 105) (.seq (R F4_r14 [16] []) (.ret)) (.skip))))) (R F4_r15 [5,7,17,19,21,92,93,94] [])))
def F4_r16:List AIns:=[jm 107 17,ii 108 (cl N13_ [107]),jm 24 108]
def F4_r17:List AIns:=[jm 110 17,ii 111 (cl N14_ [110]),jm 109 111,jz 112 109 0,jz 113 109 1,ii 25 (.alloc true Z1),jns 4 25 112,jm 26 113]
def F4_r18:List AIns:=[jm 114 24,ju 115 114,jm 116 115,jta 117 116 0 25,jtl 118 116 117,jte 119 116 118 3,jp 120 116 119]
def F4_r19:List AIns:=[ii 121 (cl N7_ []),jm 16 121]
def F4_r20:List AIns:=[jm 122 19,ii 123 (cl N13_ [122]),jm 27 123]
def F4_r21:List AIns:=[jm 125 19,ii 126 (cl N14_ [125]),jm 124 126,jz 127 124 0,jz 128 124 1,ii 28 (.alloc true Z1),jns 4 28 127,jm 29 128]
def F4_r22:List AIns:=[jm 129 17,ii 130 (cl N15_ [129]),jm 131 19,ii 132 (cl N15_ [131]),jm 30 130,jm 31 132]
def F4_r23:List AIns:=[jm 134 17,ii 135 (cl N17_ [134]),jm 136 30,jm 137 19,ii 138 (cl N17_ [137]),jm 139 31,ii 140 (cl N16_ [135,136,138,139]),jm 133 140,jz 141 133 0,jz 142 133 1,jm 32 141,jm 33 142]
def F4_r24:List AIns:=[jm 143 24,jm 144 27,ii 145 (.beq true (.t 143) (.t 144)),jm 146 145,jfk 147 146 4 25,jfk 148 146 4 28,iF 149 146 (cl N9_ [147,148]),jfu 150 146 149,jP 151 146 150,jm 152 151,jfm 153 152 33,iF 154 152 (.bin .neq (.t 153) (.c (.lit (.int .i64 0)))),jP 155 152 154,jm 156 155,jfm 157 156 32,jfu 158 156 157,jP 159 156 158]
def F4_r25:List AIns:=[jf_ 16]
def F4_r26:List AIns:=[jm 160 24,ju 161 160]
def F4_r9:List AIns:=[jm 90 21,jA 91 90 1,jm 21 91]
def F4_l1:AC:=.seq (.seq (R F4_r8 [5,7,17,19,21,89] []) (.cond (.t 89) (.skip) (.exit 0))) (.seq (.block 1 (.seq (.seq (R F4_r10 [5,7,17,19,21,92,93,94] []) (.block 2 (.loop F4_l2))) (.seq (R F4_r16 [5,7,17,19,21,24] []) (.seq (R F4_r17 [5,7,17,19,21,24,25] [25]) (.seq (.seq (R F4_r18 [5,7,17,19,21,24,25,120] [25]) (.cond (.t 120) (.seq (R F4_r19 [16] []) (.ret)) (.skip))) (.seq (R F4_r20 [5,7,17,19,21,24,25,27] [25]) (.seq (R F4_r21 [5,7,17,19,21,24,25,27,28] [25,28]) (.seq (R F4_r22 [5,7,17,19,21,24,25,27,28,30,31] [25,28]) (.seq (R F4_r23 [5,7,17,19,21,24,25,27,28,32,33] [25,28]) (.seq (.seq (R F4_r24 [5,7,17,19,21,24,159] []) (.cond (.t 159) (.seq (R F4_r25 [16] []) (.ret)) (.skip))) (.seq (R F4_r26 [5,7,17,19,21,161] []) (.cond (.t 161) (.exit 0) (.skip))))))))))))) (R F4_r9 [5,7,17,19,21] []))
def F4_r27:List AIns:=[ii 162 (cl N7_ []),jm 16 162]
def F4_:AFun:=⟨8,.seq (R F4_r0 [1,2,3,4,5,6,7,8] [8]) (.seq (.seq (R F4_r1 [1,2,3,4,5,6,7,8,61] [8]) (.cond (.t 61) (.seq (R F4_r2 [16] []) (.ret)) (.skip))) (.seq (R F4_r3 [2,4,5,6,7,8,17,18] [8]) (.seq (R F4_r4 [5,7,17,18,19,20] []) (.seq (.seq (R F4_r5 [5,7,17,19,86] []) (.cond (.t 86) (.seq (R F4_r6 [16] []) (.ret)) (.skip))) (.seq (.seq (R F4_r7 [5,7,17,19,21] []) (.block 0 (.loop F4_l1))) (.seq (R F4_r27 [16] []) (.ret))))))),[.t 16]⟩
def F5_r0:List AIns:=[jb 3 0,jf_ 6]
def F5_r1:List AIns:=[ja 7 1 3,jl 8 7,jg 9 8,ii 10 (.bin .leq (.t 9) (.c (.lit (.int .i64 200)))),jm 11 10,jfk 12 11 3 3,iF 13 11 (cl N18_ [12]),jfu 14 11 13,jP 15 11 14,jm 16 15,jtm 17 16 1,it 18 16 (.bin .leq (.t 17) (.c (.lit (.int .i64 600)))),jtm 19 16 18,jfm 20 19 1,iF 21 19 (.bin .gtr (.t 20) (.c (.lit (.int .i64 1048576)))),jtP 22 16 19 21,jp 23 16 22,jm 24 23,jtm 25 24 2,jtg 26 24 25,it 27 24 (.bin .leq (.t 26) (.c (.lit (.int .i64 200)))),jp 28 24 27,jm 6 28]
def F5_:AFun:=⟨3,.seq (R F5_r0 [1,2,3] [3]) (.seq (R F5_r1 [6] []) (.ret)),[.t 6]⟩
def F6_r0:List AIns:=[jb 5 0,jc 10 0]
def F6_r1:List AIns:=[jk 11 3 5,ii 12 (cl N18_ [11]),ju 13 12]
def F6_r2:List AIns:=[jc 10 150]
def F6_r3:List AIns:=[jm 14 1,ii 15 (.bin .lss (.t 14) (.c (.lit (.int .i64 0)))),jm 16 15,jfm 17 16 1,iF 18 16 (.bin .gtr (.t 17) (.c (.lit (.int .i64 1048576)))),jP 19 16 18,jm 20 19,jfm 21 20 2,iF 22 20 (.bin .lss (.t 21) (.c (.lit (.int .i64 0)))),jP 23 20 22,jm 24 23,jfm 25 24 3,iF 26 24 (.bin .lss (.t 25) (.c (.lit (.int .i64 0)))),jP 27 24 26,jm 28 27,jfm 29 28 3,iF 30 28 (.bin .gtr (.t 29) (.c (.lit (.int .i64 1048576)))),jP 31 28 30,jm 32 31,jfm 33 32 4,jfg 34 32 33,jfa 35 32 0 5,jfl 36 32 35,iF 37 32 (.bin .neq (.t 34) (.t 36)),jP 38 32 37]
def F6_r4:List AIns:=[jc 10 1]
def F6_r5:List AIns:=[jc 10 0]
def F6_:AFun:=⟨5,.seq (R F6_r0 [1,2,3,4,5] [5]) (.seq (.seq (R F6_r1 [1,2,3,4,5,13] [5]) (.cond (.t 13) (.seq (R F6_r2 [10] []) (.ret)) (.skip))) (.seq (.seq (R F6_r3 [38] []) (.cond (.t 38) (.seq (R F6_r4 [10] []) (.ret)) (.skip))) (.seq (R F6_r5 [10] []) (.ret)))),[.t 10]⟩
def F7_r0:List AIns:=[jf_ 0]
def F7_r1:List AIns:=[ii 12 (cl N19_ []),ii 13 (.bsl 1 [(.c (.lit (.int .i64 4)))]),ii 14 (.call (.f N8_) [(.t 12),(.c (.lit (.int .i64 0))),(.c (.lit (.int .i64 0))),(.c (.lit (.int .i64 100))),(.t 13)]),jm 11 14,jz 15 11 0,jz 16 11 1,ii 1 (.alloc true Z1),jns 4 1 15,jm 2 16]
def F7_r2:List AIns:=[ii 18 (cl N20_ []),ii 19 (.call (.f N8_) [(.t 18),(.c (.lit (.int .i64 2))),(.c (.lit (.int .i64 0))),(.c (.lit (.int .i64 50))),(.c (.slice .full 1 []))]),jm 17 19,jz 20 17 0,jz 21 17 1,ii 3 (.alloc true Z1),jns 4 3 20,jm 4 21]
def F7_r3:List AIns:=[ii 23 (cl N20_ []),ii 24 (.call (.f N8_) [(.t 23),(.c (.lit (.int .i64 1))),(.c (.lit (.int .i64 0))),(.c (.lit (.int .i64 50))),(.c (.slice .full 1 []))]),jm 22 24,jz 25 22 0,jz 26 22 1,ii 5 (.alloc true Z1),jns 4 5 25,jm 6 26]
def F7_r4:List AIns:=[ii 28 (cl N19_ []),ii 29 (.bsl 1 [(.c (.lit (.int .i64 4)))]),ii 30 (.call (.f N11_) [(.t 28),(.c (.lit (.int .i64 0))),(.c (.lit (.int .i64 0))),(.c (.lit (.int .i64 100))),(.t 29)]),jm 27 30,jz 31 27 0,jz 32 27 1,jm 7 31,jm 8 32]
def F7_r5:List AIns:=[ii 34 (.build Z2 []),ii 35 (.call (.f N11_) [(.t 34),(.c (.lit (.int .i64 0))),(.c (.lit (.int .i64 0))),(.c (.lit (.int .i64 0))),(.c (.slice .full 1 []))]),jm 33 35,jz 36 33 0,jz 37 33 1,jm 9 36,jm 10 37]
def F7_r6:List AIns:=[jm 38 2,je 39 38 0,jm 40 39,jtk 41 40 4 1,it 42 40 (.build Z1 [(0,1,(.c (.lit (.int .i64 0)))),(1,1,(.c (.lit (.int .i64 5)))),(3,1,(.c (.lit (.int .i64 3))))]),it 43 40 (cl N9_ [41,42]),jp 44 40 43,jm 45 44,jtm 46 45 4,jte 47 45 46 0,jp 48 45 47,jm 49 48,jta 50 49 0 3,jtl 51 49 50,jte 52 49 51 1,jp 53 49 52,jm 54 53,jta 55 54 3 3,jtl 56 54 55,jte 57 54 56 50,jp 58 54 57,jm 59 58,jtm 60 59 6,jte 61 59 60 0,jp 62 59 61,jm 63 62,jta 64 63 0 5,jtl 65 63 64,jte 66 63 65 3,jp 67 63 66,jm 68 67,jta 69 68 3 5,jtl 70 68 69,jte 71 68 70 2,jp 72 68 71,jm 73 72,jtm 74 73 8,jte 75 73 74 0,jp 76 73 75,jm 77 76,jtm 78 77 7,it 79 77 (cl N13_ [78]),jp 80 77 79,jm 81 80,jtm 82 81 7,it 83 81 (cl N21_ [82]),jte 84 81 83 1,jp 85 81 84,jm 86 85,jtm 87 86 10,jte 88 86 87 150,jp 89 86 88,jm 0 89]
def F7_:AFun:=⟨0,.seq (R F7_r0 [] []) (.seq (R F7_r1 [1,2] [1]) (.seq (R F7_r2 [1,2,3,4] [1,3]) (.seq (R F7_r3 [1,2,3,4,5,6] [1,3,5]) (.seq (R F7_r4 [1,2,3,4,5,6,7,8] [1,3,5]) (.seq (R F7_r5 [1,2,3,4,5,6,7,8,10] [1,3,5]) (.seq (R F7_r6 [0] []) (.ret))))))),[.t 0]⟩
def F8_r0:List AIns:=[jb 5 0,ii 10 (.alloc true Z1),jc 11 0]
def F8_r1:List AIns:=[jk 15 3 5,jm 16 1,jm 17 2,jm 18 3,jm 19 4,ii 20 (cl N11_ [15,16,17,18,19]),jm 14 20,jz 21 14 0,jz 22 14 1,jm 12 21,jm 13 22]
def F8_r2:List AIns:=[jm 23 13,ii 24 (.bin .neq (.t 23) (.c (.lit (.int .i64 0))))]
def F8_r3:List AIns:=[ii 25 (.build Z1 []),jm 26 13,jns 4 10 25,jm 11 26]
def F8_r4:List AIns:=[jm 27 12,ii 28 (cl N13_ [27])]
def F8_l1:AC:=.seq (.seq (R F8_r4 [10,12,28] [10]) (.cond (.t 28) (.skip) (.exit 0))) (.block 1 (.skip))
def F8_r5:List AIns:=[jm 29 12,jh 30 29,ja 31 9 30,jK 32 4 31,jns 4 10 32,jc 11 0]
def F8_:AFun:=⟨5,.seq (R F8_r0 [1,2,3,4,5,10] [5,10]) (.seq (R F8_r1 [10,12,13] [10]) (.seq (.seq (R F8_r2 [10,12,13,24] [10]) (.cond (.t 24) (.seq (R F8_r3 [10,11] [10]) (.retz 1 10)) (.skip))) (.seq (.block 0 (.loop F8_l1)) (.seq (R F8_r5 [10,11] [10]) (.retz 1 10))))),[.cell (some 4) 10,.t 11]⟩
def F9_r0:List AIns:=[jb 2 0,jb 3 1,jf_ 4]
def F9_r1:List AIns:=[ja 5 0 2,jl 6 5,ja 7 0 3,jl 8 7,ii 9 (.bin .eql (.t 6) (.t 8)),jm 10 9,jta 11 10 1 2,jtl 12 10 11,jta 13 10 1 3,jtl 14 10 13,it 15 10 (.bin .eql (.t 12) (.t 14)),jp 16 10 15,jm 17 16,jta 18 17 3 2,jtl 19 17 18,jta 20 17 3 3,jtl 21 17 20,it 22 17 (.bin .eql (.t 19) (.t 21)),jp 23 17 22,jm 24 23,jta 25 24 2 2,jtl 26 24 25,jta 27 24 2 3,jtl 28 24 27,it 29 24 (cl N10_ [26,28]),jp 30 24 29,jm 4 30]
def F9_:AFun:=⟨2,.seq (R F9_r0 [2,3] [2,3]) (.seq (R F9_r1 [4] []) (.ret)),[.t 4]⟩
def F10_r0:List AIns:=[jf_ 4]
def F10_r1:List AIns:=[jm 6 0,jg 7 6,jm 8 1,jg 9 8,ii 10 (.bin .neq (.t 7) (.t 9))]
def F10_r2:List AIns:=[jf_ 4]
def F10_r3:List AIns:=[jm 11 0,jg 12 11,jc 13 0]
def F10_r4:List AIns:=[jq 14 13 12]
def F10_r5:List AIns:=[jm 15 13,jm 5 15]
def F10_r6:List AIns:=[jm 16 0,jm 17 5,jx 18 1 16 17,jL 19 18,jm 20 1,jm 21 5,jx 22 1 20 21,jL 23 22,ii 24 (.bin .neq (.t 19) (.t 23))]
def F10_r7:List AIns:=[jf_ 4]
def F10_r8:List AIns:=[jA 25 13 1,jm 13 25]
def F10_l1:AC:=.seq (R F10_r4 [0,1,12,13,14] []) (.seq (.cond (.t 14) (.skip) (.exit 0)) (.seq (.block 1 (.seq (R F10_r5 [0,1,5,12,13] []) (.seq (R F10_r6 [0,1,12,13,24] []) (.cond (.t 24) (.seq (R F10_r7 [4] []) (.ret)) (.skip))))) (R F10_r8 [0,1,12,13] [])))
def F10_r9:List AIns:=[ii 4 (.mv (.c (.lit (.bool true))))]
def F10_:AFun:=⟨2,.seq (R F10_r0 [0,1] []) (.seq (.seq (R F10_r1 [0,1,10] []) (.cond (.t 10) (.seq (R F10_r2 [4] []) (.ret)) (.skip))) (.seq (.seq (R F10_r3 [0,1,12,13] []) (.block 0 (.loop F10_l1))) (.seq (R F10_r9 [4] []) (.ret)))),[.t 4]⟩
def F11_r0:List AIns:=[jb 5 0,ii 10 (.mv (.c (.lit (.pointer none)))),jc 11 0]
def F11_r1:List AIns:=[jk 18 3 5,ii 19 (cl N22_ [18]),jm 12 19]
def F11_r2:List AIns:=[jm 20 12,ii 21 (.bin .neq (.t 20) (.c (.lit (.int .i64 0))))]
def F11_r3:List AIns:=[jm 22 12,ii 10 (.mv (.c (.lit (.pointer none)))),jm 11 22]
def F11_r4:List AIns:=[jm 24 1,ii 25 (cl N23_ [24]),jm 23 25,jz 26 23 0,jz 27 23 1,jm 13 26,jm 14 27]
def F11_r5:List AIns:=[jm 28 14,ii 29 (.bin .neq (.t 28) (.c (.lit (.int .i64 0)))),jm 30 29,jfm 31 30 2,iF 32 30 (.bin .lss (.t 31) (.c (.lit (.int .i64 0)))),jP 33 30 32,jm 34 33,jfm 35 34 3,iF 36 34 (.bin .lss (.t 35) (.c (.lit (.int .i64 0)))),jP 37 34 36,jm 38 37,jfm 39 38 3,iF 40 38 (.bin .gtr (.t 39) (.c (.lit (.int .i64 1048576)))),jP 41 38 40,jm 42 41,jfm 43 42 4,jfg 44 42 43,jfa 45 42 0 5,jfl 46 42 45,iF 47 42 (.bin .neq (.t 44) (.t 46)),jP 48 42 47]
def F11_r6:List AIns:=[ii 10 (.mv (.c (.lit (.pointer none)))),jc 11 1]
def F11_r7:List AIns:=[jk 49 3 5,ii 50 (cl N24_ [49]),jm 51 13,jm 52 2,jm 53 3,ii 54 (.build [.lit (.int .i64 0),.slice .full 7 [],.slice .full 1 [],.lit (.pointer none),.slice .full 2 [],.lit (.int .i64 0),.lit (.int .i64 0),.lit (.int .i64 0),.lit (.int .i64 0),.lit (.int .i64 0),.lit (.int .i64 0),.slice .full 1 [],.lit (.int .i64 0),.lit (.bool false)] [(0,3,(.t 50)),(3,1,(.t 51)),(6,1,(.t 52)),(8,1,(.t 53))]),ii 55 (.box false (.t 54)),jm 15 55]
def F11_r8:List AIns:=[jm 56 4,jg 57 56,jc 58 0]
def F11_r9:List AIns:=[jq 59 58 57]
def F11_r10:List AIns:=[jx 60 1 56 58,jL 61 60,jm 17 61]
def F11_r11:List AIns:=[jm 62 15,jm 63 15,jh 64 63,ja 65 4 64,jL 66 65,jm 67 17,ii 68 (.build Z4 [(1,1,(.t 67))]),jB 69 2 68,ii 70 (.wop (.appm 2 16) [(.t 66),(.t 69)]),jh 71 62,ja 72 4 71,jnS 1 72 70]
def F11_r12:List AIns:=[jA 73 58 1,jm 58 73]
def F11_l1:AC:=.seq (R F11_r9 [15,56,57,58,59] []) (.seq (.cond (.t 59) (.skip) (.exit 0)) (.seq (.block 1 (.seq (R F11_r10 [15,17,56,57,58] []) (R F11_r11 [15,56,57,58] []))) (R F11_r12 [15,56,57,58] [])))
def F11_r13:List AIns:=[jm 74 15,jm 10 74,jc 11 0]
def F11_:AFun:=⟨5,.seq (R F11_r0 [1,2,3,4,5] [5]) (.seq (.seq (R F11_r1 [1,2,3,4,5,12] [5]) (.seq (R F11_r2 [1,2,3,4,5,12,21] [5]) (.cond (.t 21) (.seq (R F11_r3 [10,11] []) (.ret)) (.skip)))) (.seq (R F11_r4 [2,3,4,5,13,14] [5]) (.seq (.seq (R F11_r5 [2,3,4,5,13,48] [5]) (.cond (.t 48) (.seq (R F11_r6 [10,11] []) (.ret)) (.skip))) (.seq (R F11_r7 [4,15] []) (.seq (.seq (R F11_r8 [15,56,57,58] []) (.block 0 (.loop F11_l1))) (.seq (R F11_r13 [10,11] []) (.ret))))))),[.t 10,.t 11]⟩
def F12_r0:List AIns:=[jc 2 0]
def F12_r1:List AIns:=[jm 3 0,ii 4 (.peq false (.t 3) (.c (.lit (.pointer none))))]
def F12_r2:List AIns:=[jc 2 3]
def F12_r3:List AIns:=[jm 5 0,ii 6 (cl N25_ [5])]
def F12_r4:List AIns:=[jc 2 0]
def F12_:AFun:=⟨1,.seq (R F12_r0 [0] []) (.seq (.seq (R F12_r1 [0,4] []) (.cond (.t 4) (.seq (R F12_r2 [2] []) (.ret)) (.skip))) (.seq (R F12_r3 [] []) (.seq (R F12_r4 [2] []) (.ret)))),[.t 2]⟩
def F13_r0:List AIns:=[jf_ 2]
def F13_r1:List AIns:=[jm 4 0,ii 5 (.peq false (.t 4) (.c (.lit (.pointer none)))),jm 6 5,jfm 7 6 0,jfh 8 6 7,jfa 9 6 13 8,jfL 10 6 9,jP 11 6 10]
def F13_r2:List AIns:=[jf_ 2]
def F13_r3:List AIns:=[jm 12 0,jh 13 12,ja 14 9 13,ja 15 3 14,jL 16 15,jm 17 0,jh 18 17,ja 19 8 18,jL 20 19,ii 21 (.bin .eql (.t 16) (.t 20))]
def F13_r4:List AIns:=[jm 22 0,ii 23 (.call (.f N26_) [(.t 22),(.c (.lit (.int .i64 1)))])]
def F13_r5:List AIns:=[jm 24 0,jh 25 24,ja 26 0 25,ja 27 1 26,jL 28 27,jm 29 0,jh 30 29,ja 31 5 30,jL 32 31,jx 33 7 28 32,jK 34 7 33,ii 3 (.alloc true Z0),jns 7 3 34]
def F13_r6:List AIns:=[ii 35 (cl N27_ []),ja 36 0 3,jl 37 36,ii 38 (.wop (.ixv 11 1 none) [(.t 35),(.t 37)]),jm 39 0,jk 40 7 3,ii 41 (.call (.t 38) [(.t 39),(.t 40)])]
def F13_r7:List AIns:=[je 43 41 1,jm 42 43]
def F13_r8:List AIns:=[jm 44 0,ii 45 (.call (.f N26_) [(.t 44),(.c (.lit (.int .i64 2)))])]
def F13_r9:List AIns:=[je 47 41 2,jm 46 47]
def F13_r10:List AIns:=[jm 48 0,ii 49 (.call (.f N26_) [(.t 48),(.c (.lit (.int .i64 3)))])]
def F13_r11:List AIns:=[je 51 41 3,jm 50 51]
def F13_r12:List AIns:=[jm 52 0,ii 53 (.call (.f N26_) [(.t 52),(.c (.lit (.int .i64 0)))])]
def F13_r13:List AIns:=[jm 54 0,jh 55 54,ja 56 9 55,ja 57 3 56,jL 58 57,jA 59 58 1,jh 60 54,ja 61 9 60,ja 62 3 61,jnS 1 62 59]
def F13_r14:List AIns:=[ii 2 (.mv (.c (.lit (.bool true))))]
def F13_l1:AC:=.block 1 (.seq (.seq (R F13_r3 [0,21] []) (.cond (.t 21) (.seq (R F13_r4 [] []) (.exit 0)) (.skip))) (.seq (.reg F13_r5 [3] [0,3] [3]) (.seq (.seq (R F13_r6 [0,41] []) (.block 2 (.seq (R F13_r7 [0,41,42] []) (.cond (.t 42) (.seq (R F13_r8 [] []) (.exit 0)) (.seq (R F13_r9 [0,41,46] []) (.cond (.t 46) (.seq (R F13_r10 [] []) (.exit 0)) (.seq (R F13_r11 [0,50] []) (.cond (.t 50) (R F13_r12 [0] []) (.skip))))))))) (.seq (R F13_r13 [] []) (.seq (R F13_r14 [2] []) (.ret))))))
def F13_r15:List AIns:=[jf_ 2]
def F13_:AFun:=⟨1,.seq (R F13_r0 [0] []) (.seq (.seq (R F13_r1 [0,11] []) (.cond (.t 11) (.seq (R F13_r2 [2] []) (.ret)) (.skip))) (.seq (.skip) (.seq (.block 0 (.loop F13_l1)) (.seq (R F13_r15 [2] []) (.ret))))),[.t 2]⟩
def F14_r0:List AIns:=[ii 2 (.alloc true Z1),jf_ 3]
def F14_r1:List AIns:=[jm 5 0,ii 6 (.peq false (.t 5) (.c (.lit (.pointer none))))]
def F14_r2:List AIns:=[ii 7 (.build Z1 []),jns 4 2 7,jf_ 3]
def F14_r3:List AIns:=[jm 8 0,jh 9 8,ja 10 9 9,jK 11 4 10,ii 4 (.alloc true Z1),jns 4 4 11]
def F14_r4:List AIns:=[ja 12 2 4,jl 13 12,ii 14 (cl N28_ [13]),ja 15 2 4,jns 1 15 14]
def F14_r5:List AIns:=[jm 16 0,jh 17 16,ja 18 13 17,jL 19 18,ju 20 19]
def F14_r6:List AIns:=[ja 21 0 4,⟨none,none,.st false 1 (.t 21) (.c (.lit (.int .i64 1)))⟩]
def F14_r7:List AIns:=[jk 22 4 4,jm 23 0,jh 24 23,ja 25 13 24,ii 26 (.ldo false 0 none (.t 25)),jns 4 2 22,jm 3 26]
def F14_:AFun:=⟨1,.seq (R F14_r0 [0,2] [2]) (.seq (.seq (R F14_r1 [0,2,6] [2]) (.cond (.t 6) (.seq (R F14_r2 [2,3] [2]) (.retz 1 2)) (.skip))) (.seq (R F14_r3 [0,2,4] [2,4]) (.seq (R F14_r4 [0,2,4] [2,4]) (.seq (.seq (R F14_r5 [0,2,4,20] [2,4]) (.cond (.t 20) (R F14_r6 [0,2,4] [2,4]) (.skip))) (.seq (R F14_r7 [2,3] [2]) (.retz 1 2)))))),[.cell (some 4) 2,.t 3]⟩
def F15_r0:List AIns:=[ii 2 (.mv (.c (.slice .full 2 [])))]
def F15_r1:List AIns:=[jm 4 0,ii 5 (.peq false (.t 4) (.c (.lit (.pointer none))))]
def F15_r2:List AIns:=[ii 2 (.mv (.c (.slice .full 2 [])))]
def F15_r3:List AIns:=[jm 6 0,jh 7 6,ja 8 4 7,jL 9 8,jg 10 9,jm 3 10]
def F15_r4:List AIns:=[jm 11 3,ii 12 (.bin .gtr (.t 11) (.c (.lit (.int .i64 0)))),jm 13 12,jtm 14 13 0,jth 15 13 14,jta 16 13 4 15,jtL 17 13 16,jtm 18 13 3,it 19 13 (.bin .sub (.t 18) (.c (.lit (.int .i64 1)))),jtx 20 13 2 17 19,jtK 21 13 2 20,it 22 13 (.build Z4 []),it 23 13 (.aeq false [.b,.i] (.t 21) (.t 22)),jp 24 13 23]
def F15_r5:List AIns:=[jm 25 3,ii 26 (.bin .sub (.t 25) (.c (.lit (.int .i64 1)))),jm 3 26]
def F15_l1:AC:=.seq (.seq (R F15_r4 [0,3,24] []) (.cond (.t 24) (.skip) (.exit 0))) (.block 1 (R F15_r5 [0,3] []))
def F15_r6:List AIns:=[jm 27 0,jh 28 27,ja 29 4 28,jL 30 29,jm 31 3,ii 32 (.sl 2 (.t 30) none (some (.t 31)) none),ii 33 (cl N29_ [32]),jm 2 33]
def F15_:AFun:=⟨1,.seq (R F15_r0 [0] []) (.seq (.seq (R F15_r1 [0,5] []) (.cond (.t 5) (.seq (R F15_r2 [2] []) (.retz 1 2)) (.skip))) (.seq (R F15_r3 [0,3] []) (.seq (.block 0 (.loop F15_l1)) (.seq (R F15_r6 [2] []) (.retz 1 2))))),[.t 2]⟩
def F16_r0:List AIns:=[jf_ 8,jc 9 0]
def F16_r1:List AIns:=[jm 17 0,ii 18 (.peq false (.t 17) (.c (.lit (.pointer none)))),jm 19 18,jfm 20 19 2,iF 21 19 (.peq false (.t 20) (.c (.lit (.pointer none)))),jP 22 19 21]
def F16_r2:List AIns:=[jf_ 8,jc 9 3]
def F16_r3:List AIns:=[jm 23 0,jh 24 23,ja 25 1 24,jm 26 1,ii 27 (cl N30_ [25,26]),ju 28 27,jm 29 28,jfm 30 29 2,jfh 31 29 30,jfa 32 29 1 31,jfm 33 29 3,iF 34 29 (cl N30_ [32,33]),jfu 35 29 34,jP 36 29 35]
def F16_r4:List AIns:=[jf_ 8,jc 9 171]
def F16_r5:List AIns:=[ii 37 (.mkm (.int .i64)),ii 38 (.mkm (.int .i64)),ii 10 (.alloc false [.lit (.map none)]),ii 11 (.alloc false [.lit (.map none)]),jnS 1 10 37,jnS 1 11 38]
def F16_r6:List AIns:=[ii 12 (.alloc false [.slice .full 2 []])]
def F16_r7:List AIns:=[ii 39 (.mkf N31_ [] [(.t 10),(.t 11),(.t 12)]),jm 13 39]
def F16_r8:List AIns:=[jm 40 13,jm 41 1,jm 42 3,ii 43 (.call (.t 40) [(.t 41),(.t 42)]),ju 44 43]
def F16_r9:List AIns:=[jf_ 8,jc 9 0]
def F16_r10:List AIns:=[jc 14 0]
def F16_r11:List AIns:=[jm 45 14,jL 46 12,jg 47 46,jq 48 45 47]
def F16_r13:List AIns:=[jL 51 12,jm 52 14,jx 53 2 51 52,ii 54 (.iaa 2 1 (.t 53) (.c (.lit (.int .i64 0)))),jL 55 54,jL 56 12,jm 57 14,jx 58 2 56 57,ii 59 (.iaa 2 1 (.t 58) (.c (.lit (.int .i64 1)))),jL 60 59,jm 15 55,jm 16 60]
def F16_r14:List AIns:=[jm 61 0,jh 62 61,ja 63 1 62,jm 64 15,ii 65 (cl N32_ [63,64]),jm 66 2,jh 67 66,ja 68 1 67,jm 69 16,ii 70 (cl N32_ [68,69]),ii 71 (.bin .neq (.t 65) (.t 70)),jm 72 71,jfm 73 72 13,jfm 74 72 0,jfh 75 72 74,jfa 76 72 1 75,jfm 77 72 15,iF 78 72 (cl N33_ [76,77]),jfm 79 72 2,jfh 80 72 79,jfa 81 72 1 80,jfm 82 72 16,iF 83 72 (cl N33_ [81,82]),iF 84 72 (.call (.t 73) [(.t 78),(.t 83)]),jfu 85 72 84,jP 86 72 85]
def F16_r15:List AIns:=[jf_ 8,jc 9 0]
def F16_r12:List AIns:=[jm 49 14,jA 50 49 1,jm 14 50]
def F16_l1:AC:=.seq (.seq (R F16_r11 [0,2,12,13,14,48] []) (.cond (.t 48) (.skip) (.exit 0))) (.seq (.block 1 (.seq (R F16_r13 [0,2,12,13,14,15,16] []) (.seq (R F16_r14 [0,2,12,13,14,86] []) (.cond (.t 86) (.seq (R F16_r15 [8,9] []) (.ret)) (.skip))))) (R F16_r12 [0,2,12,13,14] []))
def F16_r16:List AIns:=[ii 8 (.mv (.c (.lit (.bool true)))),jc 9 0]
def F16_:AFun:=⟨4,.seq (R F16_r0 [0,1,2,3] []) (.seq (.seq (R F16_r1 [0,1,2,3,22] []) (.cond (.t 22) (.seq (R F16_r2 [8,9] []) (.ret)) (.skip))) (.seq (.seq (R F16_r3 [0,1,2,3,36] []) (.cond (.t 36) (.seq (R F16_r4 [8,9] []) (.ret)) (.skip))) (.seq (R F16_r5 [0,1,2,3,10,11] []) (.seq (R F16_r6 [0,1,2,3,10,11,12] []) (.seq (R F16_r7 [0,1,2,3,12,13] []) (.seq (.seq (R F16_r8 [0,2,12,13,44] []) (.cond (.t 44) (.seq (R F16_r9 [8,9] []) (.ret)) (.skip))) (.seq (.seq (R F16_r10 [0,2,12,13,14] []) (.block 0 (.loop F16_l1))) (.seq (R F16_r16 [8,9] []) (.ret))))))))),[.t 8,.t 9]⟩
def F17_r0:List AIns:=[ii 2 (.mv (.c (.lit (.pointer none))))]
def F17_r1:List AIns:=[jm 3 0,ii 4 (.peq false (.t 3) (.c (.lit (.pointer none))))]
def F17_r2:List AIns:=[ii 2 (.mv (.c (.lit (.pointer none))))]
def F17_r3:List AIns:=[jm 5 0,jh 6 5,ja 7 3 6,jL 8 7,ii 9 (cl N34_ [8]),jm 2 9]
def F17_:AFun:=⟨1,.seq (R F17_r0 [0] []) (.seq (.seq (R F17_r1 [0,4] []) (.cond (.t 4) (.seq (R F17_r2 [2] []) (.ret)) (.skip))) (.seq (R F17_r3 [2] []) (.ret))),[.t 2]⟩
def F18_r0:List AIns:=[jb 1 0,jf_ 2]
def F18_r1:List AIns:=[ja 6 1 1,jl 7 6,jg 8 7,jm 3 8]
def F18_r2:List AIns:=[ja 9 0 1,jl 10 9,ii 11 (.call (.f N35_) [(.t 10),(.c (.lit (.int .i64 6)))]),ju 12 11,jm 13 12,jfm 14 13 3,iF 15 13 (.bin .lss (.t 14) (.c (.lit (.int .i64 1)))),jP 16 13 15,jm 17 16,jfm 18 17 3,iF 19 17 (.bin .gtr (.t 18) (.c (.lit (.int .i64 100000)))),jP 20 17 19,jm 21 20,jfa 22 21 2 1,jfl 23 21 22,jfg 24 21 23,iF 25 21 (.bin .gtr (.t 24) (.c (.lit (.int .i64 100000)))),jP 26 21 25,jm 27 26,jfa 28 27 2 1,jfl 29 27 28,jfm 30 27 3,iF 31 27 (cl N36_ [29,30]),jfu 32 27 31,jP 33 27 32]
def F18_r3:List AIns:=[jf_ 2]
def F18_r4:List AIns:=[ja 34 1 1,jl 35 34,jg 36 35,jc 37 0]
def F18_r5:List AIns:=[jq 38 37 36]
def F18_r6:List AIns:=[jx 39 7 35 37,jk 40 7 39,ii 5 (.alloc true Z0),jns 7 5 40]
def F18_r7:List AIns:=[jk 41 7 5,jm 42 3,ii 43 (cl N37_ [41,42]),ju 44 43]
def F18_r8:List AIns:=[jf_ 2]
def F18_r9:List AIns:=[jA 45 37 1,jm 37 45]
def F18_l1:AC:=.seq (R F18_r5 [1,3,35,36,37,38] [1]) (.seq (.cond (.t 38) (.skip) (.exit 0)) (.seq (.block 1 (.seq (R F18_r6 [1,3,5,35,36,37] [1,5]) (.seq (R F18_r7 [1,3,35,36,37,44] [1]) (.cond (.t 44) (.seq (R F18_r8 [2] []) (.ret)) (.skip))))) (R F18_r9 [1,3,35,36,37] [1])))
def F18_r10:List AIns:=[ja 46 1 1,jl 47 46,jm 48 3,ii 49 (.bin .sub (.t 48) (.c (.lit (.int .i64 1)))),jx 50 7 47 49,ja 51 0 50,jl 52 51,ii 53 (cl N38_ [52]),jm 2 53]
def F18_:AFun:=⟨1,.seq (R F18_r0 [1] [1]) (.seq (R F18_r1 [1,3] [1]) (.seq (.seq (R F18_r2 [1,3,33] [1]) (.cond (.t 33) (.seq (R F18_r3 [2] []) (.ret)) (.skip))) (.seq (.seq (R F18_r4 [1,3,35,36,37] [1]) (.block 0 (.loop F18_l1))) (.seq (R F18_r10 [2] []) (.ret))))),[.t 2]⟩
def F19_r0:List AIns:=[ii 0 (.alloc true Z2)]
def F19_r1:List AIns:=[ii 1 (.build Z0 [(0,1,(.c (.lit (.int .i64 0)))),(1,1,(.c (.lit (.int .i64 1)))),(4,1,(.c (.lit (.int .i64 1))))]),ii 2 (.build Z0 [(0,1,(.c (.lit (.int .i64 2)))),(1,1,(.c (.lit (.int .i64 2)))),(3,1,(.c (.lit (.int .i64 1))))]),ii 3 (.build Z0 [(0,1,(.c (.lit (.int .i64 10)))),(1,1,(.c (.lit (.int .i64 2))))]),ii 4 (.bsl 7 [(.t 1),(.t 2),(.t 3)]),ii 5 (.build Z2 [(0,1,(.c (.lit (.int .i64 1)))),(1,1,(.t 4))]),jns 3 0 5]
def F19_:AFun:=⟨0,.seq (R F19_r0 [0] [0]) (.seq (R F19_r1 [0] [0]) (.ret)),[.cell (some 3) 0]⟩
def F20_r0:List AIns:=[ii 0 (.alloc true Z2)]
def F20_r1:List AIns:=[ii 1 (.build Z0 [(0,1,(.c (.lit (.int .i64 3))))]),ii 2 (.bsl 1 [(.c (.lit (.int .i64 0)))]),ii 3 (.build Z0 [(0,1,(.c (.lit (.int .i64 7)))),(5,1,(.t 2))]),ii 4 (.bsl 7 [(.t 1),(.t 3)]),ii 5 (.build Z2 [(1,1,(.t 4))]),jns 3 0 5]
def F20_:AFun:=⟨0,.seq (R F20_r0 [0] [0]) (.seq (R F20_r1 [0] [0]) (.ret)),[.cell (some 3) 0]⟩
def F21_r0:List AIns:=[jc 2 0]
def F21_r1:List AIns:=[jm 3 0,ii 4 (.peq false (.t 3) (.c (.lit (.pointer none))))]
def F21_r2:List AIns:=[jc 2 0]
def F21_r3:List AIns:=[jm 5 0,jh 6 5,ja 7 5 6,jL 8 7,jm 2 8]
def F21_:AFun:=⟨1,.seq (R F21_r0 [0] []) (.seq (.seq (R F21_r1 [0,4] []) (.cond (.t 4) (.seq (R F21_r2 [2] []) (.ret)) (.skip))) (.seq (R F21_r3 [2] []) (.ret))),[.t 2]⟩
def F22_r0:List AIns:=[jb 1 0,jc 2 0]
def F22_r1:List AIns:=[ja 8 1 1,jl 9 8,jg 10 9,jm 3 10]
def F22_r2:List AIns:=[ja 11 0 1,jl 12 11,ii 13 (.bin .lss (.t 12) (.c (.lit (.int .i64 0)))),jm 14 13,jfa 15 14 0 1,jfl 16 14 15,iF 17 14 (.bin .gtr (.t 16) (.c (.lit (.int .i64 6)))),jP 18 14 17,jm 19 18,jfm 20 19 3,iF 21 19 (.bin .lss (.t 20) (.c (.lit (.int .i64 1)))),jP 22 19 21,jm 23 22,jfm 24 23 3,iF 25 23 (.bin .gtr (.t 24) (.c (.lit (.int .i64 100000)))),jP 26 23 25,jm 27 26,jfa 28 27 2 1,jfl 29 27 28,jfg 30 27 29,iF 31 27 (.bin .gtr (.t 30) (.c (.lit (.int .i64 100000)))),jP 32 27 31,jm 33 32,jfa 34 33 1 1,jfl 35 33 34,jfm 36 33 3,iF 37 33 (.bin .sub (.t 36) (.c (.lit (.int .i64 1)))),jfx 38 33 7 35 37,jfa 39 33 0 38,jfl 40 33 39,iF 41 33 (cl N39_ [40]),jfu 42 33 41,jP 43 33 42]
def F22_r3:List AIns:=[jc 2 150]
def F22_r4:List AIns:=[ja 44 2 1,jl 45 44,jg 46 45,jc 47 0]
def F22_r5:List AIns:=[jq 48 47 46]
def F22_r6:List AIns:=[jx 49 1 45 47,jl 50 49,jm 5 50]
def F22_r7:List AIns:=[jm 51 5,ii 52 (.bin .lss (.t 51) (.c (.lit (.int .i64 0)))),jm 53 52,jfm 54 53 5,jfm 55 53 3,iF 56 53 (.bin .geq (.t 54) (.t 55)),jP 57 53 56]
def F22_r8:List AIns:=[jc 2 150]
def F22_r9:List AIns:=[jA 58 47 1,jm 47 58]
def F22_l1:AC:=.seq (R F22_r5 [1,3,45,46,47,48] [1]) (.seq (.cond (.t 48) (.skip) (.exit 0)) (.seq (.block 1 (.seq (R F22_r6 [1,3,5,45,46,47] [1]) (.seq (R F22_r7 [1,3,45,46,47,57] [1]) (.cond (.t 57) (.seq (R F22_r8 [2] []) (.ret)) (.skip))))) (R F22_r9 [1,3,45,46,47] [1])))
def F22_r10:List AIns:=[ja 59 1 1,jl 60 59,jg 61 60,jc 62 0]
def F22_r11:List AIns:=[jq 63 62 61]
def F22_r12:List AIns:=[jx 64 7 60 62,jk 65 7 64,ii 7 (.alloc true Z0),jns 7 7 65]
def F22_r13:List AIns:=[jk 66 7 7,jm 67 3,ii 68 (cl N40_ [66,67]),ju 69 68]
def F22_r14:List AIns:=[jc 2 150]
def F22_r15:List AIns:=[jA 70 62 1,jm 62 70]
def F22_l2:AC:=.seq (R F22_r11 [3,60,61,62,63] []) (.seq (.cond (.t 63) (.skip) (.exit 2)) (.seq (.block 3 (.seq (R F22_r12 [3,7,60,61,62] [7]) (.seq (R F22_r13 [3,60,61,62,69] []) (.cond (.t 69) (.seq (R F22_r14 [2] []) (.ret)) (.skip))))) (R F22_r15 [3,60,61,62] [])))
def F22_r16:List AIns:=[jc 2 0]
def F22_:AFun:=⟨1,.seq (R F22_r0 [1] [1]) (.seq (R F22_r1 [1,3] [1]) (.seq (.seq (R F22_r2 [1,3,43] [1]) (.cond (.t 43) (.seq (R F22_r3 [2] []) (.ret)) (.skip))) (.seq (.seq (R F22_r4 [1,3,45,46,47] [1]) (.block 0 (.loop F22_l1))) (.seq (.seq (R F22_r10 [3,60,61,62] []) (.block 2 (.loop F22_l2))) (.seq (R F22_r16 [2] []) (.ret)))))),[.t 2]⟩
def F23_r0:List AIns:=[ii 2 (.mv (.c (.lit (.pointer none)))),jc 3 0]
def F23_r1:List AIns:=[jm 4 0,ii 5 (.bin .lss (.t 4) (.c (.lit (.int .i64 0)))),jm 6 5,jfm 7 6 0,iF 8 6 (.bin .gtr (.t 7) (.c (.lit (.int .i64 1048576)))),jP 9 6 8]
def F23_r2:List AIns:=[ii 2 (.mv (.c (.lit (.pointer none)))),jc 3 1]
def F23_r3:List AIns:=[jm 10 0,ii 11 (.build [.lit (.int .i64 0),.slice .full 2 [],.slice .full 1 [],.slice .full 1 []] [(0,1,(.t 10))]),ii 12 (.box false (.t 11)),jm 2 12,jc 3 0]
def F23_:AFun:=⟨1,.seq (R F23_r0 [0] []) (.seq (.seq (R F23_r1 [0,9] []) (.cond (.t 9) (.seq (R F23_r2 [2,3] []) (.ret)) (.skip))) (.seq (R F23_r3 [2,3] []) (.ret))),[.t 2,.t 3]⟩
def F24_r0:List AIns:=[jb 1 0,ii 2 (.alloc true Z2)]
def F24_r1:List AIns:=[ja 6 0 1,jl 7 6,ja 8 2 1,jl 9 8,ii 10 (cl N28_ [9]),ii 11 (.build Z2 [(0,1,(.t 7)),(2,1,(.t 10))]),ii 3 (.alloc true Z2),jns 3 3 11]
def F24_r2:List AIns:=[ja 12 1 1,jl 13 12,jg 14 13,jc 15 0]
def F24_r3:List AIns:=[jq 16 15 14]
def F24_r4:List AIns:=[jx 17 7 13 15,jK 18 7 17,ii 5 (.alloc true Z0),jns 7 5 18]
def F24_r5:List AIns:=[ja 19 5 5,jl 20 19,ii 21 (cl N28_ [20]),ja 22 6 5,jl 23 22,ii 24 (cl N28_ [23]),ja 25 5 5,jns 1 25 21,ja 26 6 5,jns 1 26 24]
def F24_r6:List AIns:=[ja 27 1 3,jl 28 27,jk 29 7 5,jB 30 7 29,ii 31 (.app 7 88 (.t 28) (.t 30)),ja 32 1 3,jns 1 32 31]
def F24_r7:List AIns:=[jA 33 15 1,jm 15 33]
def F24_l1:AC:=.seq (R F24_r3 [2,3,13,14,15,16] [2,3]) (.seq (.cond (.t 16) (.skip) (.exit 0)) (.seq (.block 1 (.seq (R F24_r4 [2,3,5,13,14,15] [2,3,5]) (.seq (R F24_r5 [2,3,5,13,14,15] [2,3,5]) (R F24_r6 [2,3,13,14,15] [2,3])))) (R F24_r7 [2,3,13,14,15] [2,3])))
def F24_r8:List AIns:=[jk 34 3 3,jns 3 2 34]
def F24_:AFun:=⟨1,.seq (R F24_r0 [1,2] [1,2]) (.seq (.reg F24_r1 [3] [1,2,3] [1,2,3]) (.seq (.seq (R F24_r2 [2,3,13,14,15] [2,3]) (.block 0 (.loop F24_l1))) (.seq (R F24_r8 [2] [2]) (.ret)))),[.cell (some 3) 2]⟩
def F25_r0:List AIns:=[jm 5 0,jh 6 5,ja 7 3 6,jL 8 7,jm 9 0,jh 10 9,ja 11 4 10,jL 12 11,ii 13 (cl N41_ [8,12]),jm 4 13,jz 14 4 0,jz 15 4 1,jm 2 14,jm 3 15]
def F25_r1:List AIns:=[jm 16 3,je 17 16 0]
def F25_r2:List AIns:=[jm 18 0,jm 19 2,jh 20 18,ja 21 4 20,jnS 1 21 19]
def F25_:AFun:=⟨1,.seq (R F25_r0 [0,2,3] []) (.seq (R F25_r1 [0,2,17] []) (.cond (.t 17) (R F25_r2 [] []) (.skip))),[]⟩
def F26_r0:List AIns:=[jm 4 0,jm 5 0,jm 6 1,jh 7 4,ja 8 9 7,ja 9 0 8,jnS 1 9 6,jh 10 5,ja 11 13 10,⟨none,none,.st true 1 (.t 11) (.c (.lit (.bool true)))⟩]
def F26_:AFun:=⟨2,R F26_r0 [] [],[]⟩
def F27_r0:List AIns:=[ii 0 (.alloc true [.lit .nilFunc,.lit .nilFunc,.lit .nilFunc,.lit .nilFunc,.lit .nilFunc,.lit .nilFunc,.lit .nilFunc,.lit .nilFunc,.lit .nilFunc,.lit .nilFunc,.lit .nilFunc])]
def F27_r1:List AIns:=[ii 1 (.build [.lit .nilFunc,.lit .nilFunc,.lit .nilFunc,.lit .nilFunc,.lit .nilFunc,.lit .nilFunc,.lit .nilFunc,.lit .nilFunc,.lit .nilFunc,.lit .nilFunc,.lit .nilFunc] [(0,1,(.f N42_)),(1,1,(.f N43_)),(2,1,(.f N44_)),(3,1,(.f N45_)),(4,1,(.f N46_)),(5,1,(.f N47_)),(6,1,(.f N48_)),(7,1,(.f N49_)),(8,1,(.f N50_)),(9,1,(.f N51_)),(10,1,(.f N52_))]),jns 11 0 1]
def F27_:AFun:=⟨0,.seq (R F27_r0 [0] [0]) (.seq (R F27_r1 [0] [0]) (.ret)),[.cell (some 11) 0]⟩
def F30_r0:List AIns:=[ii 2 (.box false (.t 0)),jf_ 4]
def F30_r1:List AIns:=[jm 5 1,ii 6 (.mkf N54_ [] [(.t 2)]),ii 7 (cl N53_ [5,6]),ju 8 7,jm 4 8]
def F30_:AFun:=⟨2,.seq (R F30_r0 [1,2] []) (.seq (R F30_r1 [4] []) (.ret)),[.t 4]⟩
def F31_r0:List AIns:=[jf_ 7]
def F31_r1:List AIns:=[jm 15 0,jg 16 15,jm 17 1,jg 18 17,ii 19 (.bin .neq (.t 16) (.t 18))]
def F31_r2:List AIns:=[jf_ 7]
def F31_r3:List AIns:=[jm 20 0,jg 21 20,jc 22 0]
def F31_r4:List AIns:=[jq 23 22 21]
def F31_r5:List AIns:=[jm 24 22,jx 25 2 20 22,jK 26 2 25,ii 9 (.alloc true Z4),jm 8 24,jns 2 9 26]
def F31_r6:List AIns:=[jm 27 1,jm 28 8,jx 29 2 27 28,jK 30 2 29,ii 10 (.alloc true Z4),jns 2 10 30]
def F31_r7:List AIns:=[ja 31 0 9,jl 32 31,ja 33 0 10,jl 34 33,ii 35 (.beq true (.t 32) (.t 34)),jm 36 35,jfa 37 36 0 9,jfl 38 36 37,jfu 39 36 38,jfm 40 36 39,jta 41 40 1 9,jtl 42 40 41,jta 43 40 1 10,jtl 44 40 43,it 45 40 (.bin .neq (.t 42) (.t 44)),jfp 46 36 40 45,jP 47 36 46]
def F31_r8:List AIns:=[jf_ 7]
def F31_r9:List AIns:=[ja 48 0 9,jl 49 48,ju 50 49]
def F31_r10:List AIns:=[jL 52 2,ja 53 1 9,jl 54 53,ii 55 (.lk (.int .i64) (.lit (.int .i64 0)) true (.t 52) (.t 54)),jm 51 55,jz 56 51 0,jz 57 51 1,jm 11 56,jm 12 57]
def F31_r11:List AIns:=[jL 59 3,ja 60 1 10,jl 61 60,ii 62 (.lk (.int .i64) (.lit (.int .i64 0)) true (.t 59) (.t 61)),jm 58 62,jz 63 58 0,jz 64 58 1,jm 13 63,jm 14 64]
def F31_r12:List AIns:=[jm 65 12,jm 66 14,ii 67 (.beq true (.t 65) (.t 66)),jm 68 67,jfm 69 68 12,jfm 70 68 69,jtm 71 70 11,jta 72 70 1 10,jtl 73 70 72,it 74 70 (.bin .neq (.t 71) (.t 73)),jtm 75 70 74,jfm 76 75 13,jfa 77 75 1 9,jfl 78 75 77,iF 79 75 (.bin .neq (.t 76) (.t 78)),jtP 80 70 75 79,jfp 81 68 70 80,jP 82 68 81]
def F31_r13:List AIns:=[jf_ 7]
def F31_r14:List AIns:=[jm 83 12,ju 84 83]
def F31_r15:List AIns:=[jL 85 2,ja 86 1 9,jl 87 86,ii 88 (.ldo false 3 none (.t 3)),ja 89 1 10,jl 90 89,ja 91 1 10,jl 92 91,ja 93 1 9,jl 94 93,⟨none,none,.mu (.int .i64) (.t 85) (.t 87) (.t 92)⟩,⟨none,none,.mu (.int .i64) (.t 88) (.t 90) (.t 94)⟩]
def F31_r16:List AIns:=[jL 95 4,ja 96 1 9,jl 97 96,ja 98 1 10,jl 99 98,ii 100 (.build [.lit (.int .i64 0),.lit (.int .i64 0)] [(0,1,(.t 97)),(1,1,(.t 99))]),jB 101 2 100,ii 102 (.app 2 16 (.t 95) (.t 101)),jnS 1 4 102]
def F31_r17:List AIns:=[jA 103 22 1,jm 22 103]
def F31_l1:AC:=.seq (R F31_r4 [1,2,3,4,20,21,22,23] []) (.seq (.cond (.t 23) (.skip) (.exit 0)) (.seq (.block 1 (.seq (R F31_r5 [1,2,3,4,8,9,20,21,22] [9]) (.seq (R F31_r6 [1,2,3,4,9,10,20,21,22] [9,10]) (.seq (.seq (R F31_r7 [1,2,3,4,9,10,20,21,22,47] [9,10]) (.cond (.t 47) (.seq (R F31_r8 [7] []) (.ret)) (.skip))) (.seq (.seq (R F31_r9 [1,2,3,4,9,10,20,21,22,50] [9,10]) (.cond (.t 50) (.exit 1) (.skip))) (.seq (R F31_r10 [1,2,3,4,9,10,11,12,20,21,22] [9,10]) (.seq (R F31_r11 [1,2,3,4,9,10,11,12,13,14,20,21,22] [9,10]) (.seq (.seq (R F31_r12 [1,2,3,4,9,10,12,20,21,22,82] [9,10]) (.cond (.t 82) (.seq (R F31_r13 [7] []) (.ret)) (.skip))) (.seq (R F31_r14 [1,2,3,4,9,10,20,21,22,84] [9,10]) (.cond (.t 84) (.seq (R F31_r15 [1,2,3,4,9,10,20,21,22] [9,10]) (R F31_r16 [1,2,3,4,20,21,22] [])) (.skip))))))))))) (R F31_r17 [1,2,3,4,20,21,22] [])))
def F31_r18:List AIns:=[ii 7 (.mv (.c (.lit (.bool true))))]
def F31_:AFun:=⟨5,.seq (R F31_r0 [0,1,2,3,4] []) (.seq (.seq (R F31_r1 [0,1,2,3,4,19] []) (.cond (.t 19) (.seq (R F31_r2 [7] []) (.ret)) (.skip))) (.seq (.seq (R F31_r3 [1,2,3,4,20,21,22] []) (.block 0 (.loop F31_l1))) (.seq (R F31_r18 [7] []) (.ret)))),[.t 7]⟩
def F32_r0:List AIns:=[jc 4 0]
def F32_r1:List AIns:=[jm 5 0,jh 6 5,ja 7 0 6,jL 8 7,jm 9 1,jx 10 2 8 9,ja 11 1 10,jL 12 11,jm 4 12]
def F32_:AFun:=⟨2,.seq (R F32_r0 [0,1] []) (.seq (R F32_r1 [4] []) (.ret)),[.t 4]⟩
def F33_r0:List AIns:=[ii 4 (.mv (.c (.slice .full 2 [])))]
def F33_r1:List AIns:=[jm 6 1,jm 7 0,jh 8 7,ja 9 1 8,jL 10 9,jm 11 1,jx 12 1 10 11,jL 13 12,ii 14 (.bin .add (.t 6) (.t 13)),jm 5 14]
def F33_r2:List AIns:=[jm 15 0,jh 16 15,ja 17 0 16,jL 18 17,jm 19 1,jA 20 19 1,jm 21 5,jm 22 5,ii 23 (.sl 2 (.t 18) (some (.t 20)) (some (.t 21)) (some (.t 22))),jm 4 23]
def F33_:AFun:=⟨2,.seq (R F33_r0 [0,1] []) (.seq (R F33_r1 [0,1,5] []) (.seq (R F33_r2 [4] []) (.ret))),[.t 4]⟩
def F34_r0:List AIns:=[ii 2 (.mv (.c (.lit (.pointer none))))]
def F34_r1:List AIns:=[jm 3 0,ii 4 (.peq false (.t 3) (.c (.lit (.pointer none))))]
def F34_r2:List AIns:=[ii 2 (.mv (.c (.lit (.pointer none))))]
def F34_r3:List AIns:=[jm 5 0,jh 6 5,ja 7 0 6,ii 8 (.ldo false 0 none (.t 7)),jm 9 0,jh 10 9,ja 11 1 10,ja 12 0 11,jL 13 12,ii 14 (.callq [0] (.f N29_) [(.t 13)]),jm 15 0,jh 16 15,ja 17 1 16,ja 18 1 17,ii 19 (.ldo false 0 none (.t 18)),ii 20 (.callq [0] (.f N28_) [(.t 19)]),jm 21 0,jh 22 21,ja 23 1 22,ja 24 2 23,ii 25 (.ldo false 0 none (.t 24)),ii 26 (.callq [0] (.f N28_) [(.t 25)]),ii 27 (.build [.slice .full 2 [],.slice .full 1 [],.slice .full 1 []] [(0,1,(.t 14)),(1,1,(.t 20)),(2,1,(.t 26))]),ii 28 (.build [.lit (.int .i64 0),.slice .full 2 [],.slice .full 1 [],.slice .full 1 []] [(0,1,(.t 8)),(1,3,(.t 27))]),ii 29 (.box false (.t 28)),jm 2 29]
def F34_:AFun:=⟨1,.seq (R F34_r0 [0] []) (.seq (.seq (R F34_r1 [0,4] []) (.cond (.t 4) (.seq (R F34_r2 [2] []) (.ret)) (.skip))) (.seq (R F34_r3 [2] []) (.ret))),[.t 2]⟩
def F35_r0:List AIns:=[jf_ 4]
def F35_r1:List AIns:=[jm 5 0,ii 6 (.bin .geq (.t 5) (.c (.lit (.int .i64 0)))),jm 7 6,jtm 8 7 0,jtm 9 7 1,it 10 7 (.bin .leq (.t 8) (.t 9)),jp 11 7 10,jm 4 11]
def F35_:AFun:=⟨2,.seq (R F35_r0 [0,1] []) (.seq (R F35_r1 [4] []) (.ret)),[.t 4]⟩
def F36_r0:List AIns:=[jf_ 4]
def F36_r1:List AIns:=[jm 7 0,jg 8 7,jc 9 0]
def F36_r2:List AIns:=[jq 10 9 8]
def F36_r3:List AIns:=[jx 11 1 7 9,jl 12 11,jm 6 12]
def F36_r4:List AIns:=[jm 13 6,jm 14 1,ii 15 (.bin .sub (.t 14) (.c (.lit (.int .i64 1)))),ii 16 (cl N35_ [13,15]),ju 17 16]
def F36_r5:List AIns:=[jf_ 4]
def F36_r6:List AIns:=[jA 18 9 1,jm 9 18]
def F36_l1:AC:=.seq (R F36_r2 [1,7,8,9,10] []) (.seq (.cond (.t 10) (.skip) (.exit 0)) (.seq (.block 1 (.seq (R F36_r3 [1,6,7,8,9] []) (.seq (R F36_r4 [1,7,8,9,17] []) (.cond (.t 17) (.seq (R F36_r5 [4] []) (.ret)) (.skip))))) (R F36_r6 [1,7,8,9] [])))
def F36_r7:List AIns:=[ii 4 (.mv (.c (.lit (.bool true))))]
def F36_:AFun:=⟨2,.seq (R F36_r0 [0,1] []) (.seq (.seq (R F36_r1 [1,7,8,9] []) (.block 0 (.loop F36_l1))) (.seq (R F36_r7 [4] []) (.ret))),[.t 4]⟩
def F37_r0:List AIns:=[jb 2 0,jf_ 4]
def F37_r1:List AIns:=[ja 6 0 2,jl 7 6,ii 8 (.call (.f N35_) [(.t 7),(.c (.lit (.int .i64 10)))]),ju 9 8,jm 10 9,jfk 11 10 7 2,jfm 12 10 1,iF 13 10 (cl N56_ [11,12]),jfu 14 10 13,jP 15 10 14,jm 16 15,jfa 17 16 0 2,jfl 18 16 17,jfa 19 16 1 2,jfl 20 16 19,iF 21 16 (.call (.f N57_) [(.t 18),(.c (.lit (.string ⟨#[65]⟩))),(.t 20)]),jfu 22 16 21,jP 23 16 22,jm 24 23,jfa 25 24 0 2,jfl 26 24 25,jfa 27 24 2 2,jfl 28 24 27,iF 29 24 (.call (.f N57_) [(.t 26),(.c (.lit (.string ⟨#[66]⟩))),(.t 28)]),jfu 30 24 29,jP 31 24 30,jm 32 31,jfa 33 32 0 2,jfl 34 32 33,jfa 35 32 3 2,jfl 36 32 35,iF 37 32 (.call (.f N57_) [(.t 34),(.c (.lit (.string ⟨#[67]⟩))),(.t 36)]),jfu 38 32 37,jP 39 32 38]
def F37_r2:List AIns:=[jf_ 4]
def F37_r3:List AIns:=[jc 5 1024]
def F37_r4:List AIns:=[ja 40 0 2,jl 41 40,je 42 41 3]
def F37_r5:List AIns:=[jc 5 1024]
def F37_r6:List AIns:=[ja 43 0 2,jl 44 43,je 45 44 8]
def F37_r7:List AIns:=[jc 5 1023]
def F37_r8:List AIns:=[ja 46 0 2,jl 47 46,ii 48 (.call (.f N58_) [(.t 47),(.c (.lit (.string ⟨#[82]⟩)))]),ju 49 48,jm 50 49,jta 51 50 5 2,jtl 52 50 51,jtg 53 50 52,it 54 50 (.bin .gtr (.t 53) (.c (.lit (.int .i64 0)))),jp 55 50 54,jm 56 55,jfa 57 56 5 2,jfl 58 56 57,jfm 59 56 5,iF 60 56 (cl N59_ [58,59]),jfu 61 56 60,jP 62 56 61]
def F37_r9:List AIns:=[jf_ 4]
def F37_r10:List AIns:=[ja 63 0 2,jl 64 63,ii 65 (.bin .neq (.t 64) (.c (.lit (.int .i64 6))))]
def F37_r11:List AIns:=[ja 66 6 2,jl 67 66,jg 68 67,je 69 68 0,jm 4 69]
def F37_r12:List AIns:=[ja 70 6 2,jl 71 70,jg 72 71,ii 73 (.bin .geq (.t 72) (.c (.lit (.int .i64 1)))),jm 74 73,jta 75 74 6 2,jtl 76 74 75,jtg 77 74 76,it 78 74 (.bin .leq (.t 77) (.c (.lit (.int .i64 6)))),jp 79 74 78,jm 80 79,jta 81 80 6 2,jtl 82 80 81,jtm 83 80 1,it 84 80 (cl N36_ [82,83]),jp 85 80 84,jm 4 85]
def F37_:AFun:=⟨2,.seq (R F37_r0 [1,2] [2]) (.seq (.seq (R F37_r1 [1,2,39] [2]) (.cond (.t 39) (.seq (R F37_r2 [4] []) (.ret)) (.skip))) (.seq (R F37_r3 [1,2,5] [2]) (.seq (.seq (R F37_r4 [1,2,5,42] [2]) (.cond (.t 42) (R F37_r5 [1,2,5] [2]) (.skip))) (.seq (.seq (R F37_r6 [1,2,5,45] [2]) (.cond (.t 45) (R F37_r7 [1,2,5] [2]) (.skip))) (.seq (.seq (R F37_r8 [1,2,62] [2]) (.cond (.t 62) (.seq (R F37_r9 [4] []) (.ret)) (.skip))) (.seq (.seq (R F37_r10 [1,2,65] [2]) (.cond (.t 65) (.seq (R F37_r11 [4] []) (.ret)) (.skip))) (.seq (R F37_r12 [4] []) (.ret)))))))),[.t 4]⟩
def F38_r0:List AIns:=[jf_ 2]
def F38_r1:List AIns:=[jm 3 0,je 4 3 7,jm 5 4,jfm 6 5 0,jfe 7 5 6 8,jP 8 5 7,jm 9 8,jfm 10 9 0,jfe 11 9 10 6,jP 12 9 11,jm 13 12,jfm 14 13 0,jfe 15 13 14 10,jP 16 13 15,jm 2 16]
def F38_:AFun:=⟨1,.seq (R F38_r0 [0] []) (.seq (R F38_r1 [2] []) (.ret)),[.t 2]⟩
def F39_r0:List AIns:=[jf_ 2]
def F39_r1:List AIns:=[jm 3 0,je 4 3 7,jm 5 4,jfm 6 5 0,jfe 7 5 6 8,jP 8 5 7,jm 9 8,jfm 10 9 0,jfe 11 9 10 6,jP 12 9 11,jm 13 12,jfm 14 13 0,jfe 15 13 14 10,jP 16 13 15,jm 2 16]
def F39_:AFun:=⟨1,.seq (R F39_r0 [0] []) (.seq (R F39_r1 [2] []) (.ret)),[.t 2]⟩
def F40_r0:List AIns:=[jb 2 0,ii 3 (.box false (.t 1)),jf_ 4]
def F40_r1:List AIns:=[ja 9 0 2,jl 10 9,ii 11 (.bin .lss (.t 10) (.c (.lit (.int .i64 0)))),jm 12 11,jfa 13 12 0 2,jfl 14 12 13,iF 15 12 (.bin .gtr (.t 14) (.c (.lit (.int .i64 10)))),jP 16 12 15]
def F40_r2:List AIns:=[jf_ 4]
def F40_r3:List AIns:=[ii 17 (cl N60_ []),ja 18 0 2,jl 19 18,ii 20 (.wop (.ixv 11 2 (some 2)) [(.t 17),(.t 19)]),ii 5 (.alloc true Z3),jns 2 5 20]
def F40_r4:List AIns:=[ja 21 1 2,jl 22 21,ja 23 2 2,jl 24 23,ja 25 3 2,jl 26 25,ii 27 (.bsl 1 [(.t 22),(.t 24),(.t 26)]),jg 28 27,jc 29 0]
def F40_r5:List AIns:=[jq 30 29 28]
def F40_r6:List AIns:=[jm 31 29,jx 32 1 27 29,jl 33 32,jm 6 31,jm 7 33]
def F40_r7:List AIns:=[jk 34 2 5,jm 35 6,ii 36 (.bin .add (.c (.lit (.int .i64 97))) (.t 35)),ii 37 (.cvt .i32 (.t 36)),ii 38 (cl N61_ [34,37]),jm 39 38,jtm 40 39 7,it 41 39 (cl N62_ [40]),jtu 42 39 41,jp 43 39 42,jm 44 43,jfk 45 44 2 5,jfm 46 44 6,iF 47 44 (.bin .add (.c (.lit (.int .i64 97))) (.t 46)),iF 48 44 (.cvt .i32 (.t 47)),iF 49 44 (cl N61_ [45,48]),jfu 50 44 49,jfm 51 44 50,jtm 52 51 7,it 53 51 (.bin .neq (.t 52) (.c (.lit (.int .i64 0)))),jfp 54 44 51 53,jP 55 44 54]
def F40_r8:List AIns:=[jf_ 4]
def F40_r9:List AIns:=[jA 56 29 1,jm 29 56]
def F40_l1:AC:=.seq (R F40_r5 [2,3,5,27,28,29,30] [2,5]) (.seq (.cond (.t 30) (.skip) (.exit 0)) (.seq (.block 1 (.seq (R F40_r6 [2,3,5,6,7,27,28,29] [2,5]) (.seq (R F40_r7 [2,3,5,27,28,29,55] [2,5]) (.cond (.t 55) (.seq (R F40_r8 [4] []) (.ret)) (.skip))))) (R F40_r9 [2,3,5,27,28,29] [2,5])))
def F40_r10:List AIns:=[jc 8 0]
def F40_r11:List AIns:=[ja 57 0 2,jl 58 57]
def F40_r12:List AIns:=[je 60 58 3,jm 59 60]
def F40_r13:List AIns:=[jc 8 1024]
def F40_r14:List AIns:=[je 62 58 7,jm 61 62]
def F40_r15:List AIns:=[jc 8 1024]
def F40_r16:List AIns:=[je 64 58 8,jm 63 64]
def F40_r17:List AIns:=[jc 8 1023]
def F40_r18:List AIns:=[ja 65 5 2,jl 66 65,jg 67 66,jm 68 8,ii 69 (.bin .gtr (.t 67) (.t 68)),jm 70 69,jfa 71 70 5 2,jfl 72 70 71,iF 73 70 (.call (.f N63_) [(.t 72),(.f N64_)]),jP 74 70 73]
def F40_r19:List AIns:=[jf_ 4]
def F40_r20:List AIns:=[ja 75 0 2,jl 76 75,je 77 76 6,ja 78 6 2,jl 79 78,jg 80 79,ii 81 (.bin .gtr (.t 80) (.c (.lit (.int .i64 0)))),ii 82 (.beq true (.t 77) (.t 81)),jm 83 82,jfa 84 83 6 2,jfl 85 83 84,jfg 86 83 85,iF 87 83 (.bin .gtr (.t 86) (.c (.lit (.int .i64 6)))),jP 88 83 87,jm 89 88,jfa 90 89 6 2,jfl 91 89 90,iF 92 89 (.mkf N65_ [] [(.t 3)]),iF 93 89 (cl N63_ [91,92]),jP 94 89 93]
def F40_r21:List AIns:=[jf_ 4]
def F40_r22:List AIns:=[jk 95 2 5,ja 96 4 2,jl 97 96,jL 98 3,ii 99 (cl N66_ [95,97,98]),jm 4 99]
def F40_:AFun:=⟨2,.seq (R F40_r0 [2,3] [2]) (.seq (.seq (R F40_r1 [2,3,16] [2]) (.cond (.t 16) (.seq (R F40_r2 [4] []) (.ret)) (.skip))) (.seq (.reg F40_r3 [5] [2,3,5] [2,5]) (.seq (.seq (R F40_r4 [2,3,5,27,28,29] [2,5]) (.block 0 (.loop F40_l1))) (.seq (R F40_r10 [2,3,5,8] [2,5]) (.seq (.seq (R F40_r11 [2,3,5,8,58] [2,5]) (.block 2 (.seq (R F40_r12 [2,3,5,8,58,59] [2,5]) (.cond (.t 59) (R F40_r13 [2,3,5,8] [2,5]) (.seq (R F40_r14 [2,3,5,8,58,61] [2,5]) (.cond (.t 61) (R F40_r15 [2,3,5,8] [2,5]) (.seq (R F40_r16 [2,3,5,8,63] [2,5]) (.cond (.t 63) (R F40_r17 [2,3,5,8] [2,5]) (.skip))))))))) (.seq (.seq (R F40_r18 [2,3,5,74] [2,5]) (.cond (.t 74) (.seq (R F40_r19 [4] []) (.ret)) (.skip))) (.seq (.seq (R F40_r20 [2,3,5,94] [2,5]) (.cond (.t 94) (.seq (R F40_r21 [4] []) (.ret)) (.skip))) (.seq (R F40_r22 [4] []) (.ret))))))))),[.t 4]⟩
def F41_r0:List AIns:=[ii 2 (.box false (.t 0)),ii 4 (.mv (.c (.slice .full 2 []))),jc 5 0]
def F41_r1:List AIns:=[jL 12 2,ii 13 (.peq false (.t 12) (.c (.lit (.pointer none))))]
def F41_r2:List AIns:=[ii 4 (.mv (.c (.slice .full 2 []))),jc 5 3]
def F41_r3:List AIns:=[jL 14 2,jh 15 14,ja 16 1 15,jm 17 1,ii 18 (cl N30_ [16,17]),ju 19 18]
def F41_r4:List AIns:=[ii 4 (.mv (.c (.slice .full 2 []))),jc 5 171]
def F41_r5:List AIns:=[ii 6 (.alloc false [.slice .full 2 [],.slice .full 1 [],.slice .full 1 []])]
def F41_r6:List AIns:=[jL 20 2,jh 21 20,ja 22 1 21,ja 23 0 22,jL 24 23,jg 25 24,ii 26 (.wop (.mks 1 8 [.lit (.int .i64 0)]) [(.t 25),(.t 25)]),ii 7 (.alloc false [.slice .full 1 []]),jnS 1 7 26]
def F41_r7:List AIns:=[ii 27 (.mkf N67_ [] [(.t 7),(.t 6),(.t 2)]),jm 8 27]
def F41_r8:List AIns:=[jm 28 1,jg 29 28,ii 30 (.wop (.mks 2 16 Z4) [(.t 29),(.t 29)]),jm 9 30]
def F41_r9:List AIns:=[jm 31 9,jm 32 1,ii 33 (.wop (.cpy 2) [(.t 31),(.t 32)])]
def F41_r10:List AIns:=[jm 34 8,jm 35 9,ii 36 (.call (.t 34) [(.t 35)])]
def F41_r11:List AIns:=[jc 10 0]
def F41_r12:List AIns:=[jm 37 10,ja 38 2 6,jL 39 38,jg 40 39,jq 41 37 40]
def F41_r14:List AIns:=[ja 44 2 6,jL 45 44,jm 46 10,jx 47 1 45 46,jL 48 47,ii 49 (cl N33_ [6,48]),ii 50 (cl N29_ [49]),jm 11 50]
def F41_r15:List AIns:=[jm 51 8,jm 52 11,ii 53 (.call (.t 51) [(.t 52)])]
def F41_r16:List AIns:=[ja 54 2 6,jL 55 54,jm 56 10,jx 57 1 55 56,jL 58 57,ii 59 (cl N33_ [6,58]),jm 60 11,ii 61 (.wop (.cpy 2) [(.t 59),(.t 60)])]
def F41_r13:List AIns:=[jm 42 10,jA 43 42 1,jm 10 43]
def F41_l1:AC:=.seq (.seq (R F41_r12 [2,6,8,9,10,41] []) (.cond (.t 41) (.skip) (.exit 0))) (.seq (.block 1 (.seq (R F41_r14 [2,6,8,9,10,11] []) (.seq (R F41_r15 [2,6,8,9,10,11] []) (R F41_r16 [2,6,8,9,10] [])))) (R F41_r13 [2,6,8,9,10] []))
def F41_r17:List AIns:=[jL 62 2,jK 63 3 6,jh 64 62,ja 65 1 64,jnS 3 65 63]
def F41_r18:List AIns:=[jm 66 9,jm 4 66,jc 5 0]
def F41_:AFun:=⟨2,.seq (R F41_r0 [1,2] []) (.seq (.seq (R F41_r1 [1,2,13] []) (.cond (.t 13) (.seq (R F41_r2 [4,5] []) (.ret)) (.skip))) (.seq (.seq (R F41_r3 [1,2,19] []) (.cond (.t 19) (.seq (R F41_r4 [4,5] []) (.ret)) (.skip))) (.seq (R F41_r5 [1,2,6] []) (.seq (R F41_r6 [1,2,6,7] []) (.seq (R F41_r7 [1,2,6,8] []) (.seq (R F41_r8 [1,2,6,8,9] []) (.seq (R F41_r9 [2,6,8,9] []) (.seq (R F41_r10 [2,6,8,9] []) (.seq (.seq (R F41_r11 [2,6,8,9,10] []) (.block 0 (.loop F41_l1))) (.seq (R F41_r17 [9] []) (.seq (R F41_r18 [4,5] []) (.ret)))))))))))),[.t 4,.t 5]⟩
def F42_r0:List AIns:=[jb 3 1,jc 4 0]
def F42_r1:List AIns:=[jm 5 0,ja 6 1 3,jl 7 6,ja 8 4 3,jl 9 8,ii 10 (.build Z4 [(1,1,(.t 9))]),ii 11 (cl N69_ [5,7,10])]
def F42_r2:List AIns:=[jm 12 0,jh 13 12,ja 14 5 13,jL 15 14,jA 16 15 1,jh 17 12,ja 18 5 17,jnS 1 18 16]
def F42_r3:List AIns:=[jc 4 0]
def F42_:AFun:=⟨2,.seq (R F42_r0 [0,3] [3]) (.seq (R F42_r1 [0] []) (.seq (R F42_r2 [] []) (.seq (R F42_r3 [4] []) (.ret)))),[.t 4]⟩
def F43_r0:List AIns:=[jb 3 1,jc 4 0]
def F43_r1:List AIns:=[jm 5 0,ja 6 1 3,jl 7 6,jm 8 0,ja 9 2 3,jl 10 9,ii 11 (cl N70_ [8,10]),ii 12 (cl N69_ [5,7,11])]
def F43_r2:List AIns:=[jm 13 0,jh 14 13,ja 15 5 14,jL 16 15,jA 17 16 1,jh 18 13,ja 19 5 18,jnS 1 19 17]
def F43_r3:List AIns:=[jc 4 0]
def F43_:AFun:=⟨2,.seq (R F43_r0 [0,3] [3]) (.seq (R F43_r1 [0] []) (.seq (R F43_r2 [] []) (.seq (R F43_r3 [4] []) (.ret)))),[.t 4]⟩
def F44_r0:List AIns:=[jb 3 1,jc 4 0]
def F44_r1:List AIns:=[jm 7 0,ja 8 2 3,jl 9 8,ii 10 (cl N70_ [7,9]),jm 11 0,ja 12 3 3,jl 13 12,ii 14 (cl N70_ [11,13]),ii 5 (.alloc true Z4),ii 6 (.alloc true Z4),jns 2 5 10,jns 2 6 14]
def F44_r2:List AIns:=[ja 15 0 5,jl 16 15,jm 17 16,jfa 18 17 0 6,jfl 19 17 18,jP 20 17 19]
def F44_r3:List AIns:=[jc 4 1]
def F44_r4:List AIns:=[jm 21 0,ja 22 1 3,jl 23 22,ja 24 4 3,jl 25 24,ja 26 1 5,jl 27 26,ja 28 1 6,jl 29 28,ii 30 (cl N71_ [25,27,29]),ii 31 (.build Z4 [(1,1,(.t 30))]),ii 32 (cl N69_ [21,23,31])]
def F44_r5:List AIns:=[jm 33 0,jh 34 33,ja 35 5 34,jL 36 35,jA 37 36 1,jh 38 33,ja 39 5 38,jnS 1 39 37]
def F44_r6:List AIns:=[jc 4 0]
def F44_:AFun:=⟨2,.seq (R F44_r0 [0,3] [3]) (.seq (.reg F44_r1 [5,6] [0,3,5,6] [3,5,6]) (.seq (.seq (R F44_r2 [0,3,5,6,20] [3,5,6]) (.cond (.t 20) (.seq (R F44_r3 [4] []) (.ret)) (.skip))) (.seq (R F44_r4 [0] []) (.seq (R F44_r5 [] []) (.seq (R F44_r6 [4] []) (.ret)))))),[.t 4]⟩
def F45_r0:List AIns:=[jb 3 1,jc 4 0]
def F45_r1:List AIns:=[jm 7 0,jh 8 7,ja 9 6 8,jL 10 9,ii 11 (.bin .gtr (.t 10) (.c (.lit (.int .i64 0)))),jm 12 11,jtm 13 12 0,jth 14 12 13,jta 15 12 7 14,jtL 16 12 15,jtm 17 12 0,jth 18 12 17,jta 19 12 6 18,jtL 20 12 19,it 21 12 (.bin .rem (.t 16) (.t 20)),jte 22 12 21 0,jp 23 12 22]
def F45_r2:List AIns:=[jm 24 0,ii 25 (cl N25_ [24])]
def F45_r3:List AIns:=[jm 27 0,jh 28 27,ja 29 3 28,ii 30 (.ldo false 0 none (.t 29)),ja 31 4 3,jl 32 31,jm 33 0,ja 34 5 3,jl 35 34,ii 36 (.callq [0] (.f N73_) [(.t 33),(.t 35)]),ii 37 (cl N72_ [30,32,36]),jm 26 37,jz 38 26 0,jz 39 26 1,jm 5 38,jm 6 39]
def F45_r4:List AIns:=[jm 40 6,je 41 40 170]
def F45_r5:List AIns:=[jm 42 0,ii 43 (cl N25_ [42])]
def F45_r6:List AIns:=[jm 45 0,jh 46 45,ja 47 3 46,ii 48 (.ldo false 0 none (.t 47)),ja 49 4 3,jl 50 49,jm 51 0,ja 52 5 3,jl 53 52,ii 54 (.callq [0] (.f N73_) [(.t 51),(.t 53)]),ii 55 (cl N72_ [48,50,54]),jm 44 55,jz 56 44 0,jz 57 44 1,jm 5 56,jm 6 57]
def F45_r7:List AIns:=[jm 58 6,ii 59 (.bin .neq (.t 58) (.c (.lit (.int .i64 0))))]
def F45_r8:List AIns:=[jc 4 2]
def F45_r9:List AIns:=[jm 60 0,jh 61 60,ja 62 7 61,jL 63 62,jA 64 63 1,jh 65 60,ja 66 7 65,jnS 1 66 64]
def F45_r10:List AIns:=[jm 67 0,ja 68 1 3,jl 69 68,jm 70 5,ii 71 (.build Z4 [(0,1,(.c (.lit (.bool true)))),(1,1,(.t 70))]),ii 72 (cl N69_ [67,69,71])]
def F45_r11:List AIns:=[jm 73 0,jh 74 73,ja 75 5 74,jL 76 75,jA 77 76 1,jh 78 73,ja 79 5 78,jnS 1 79 77]
def F45_r12:List AIns:=[jc 4 0]
def F45_:AFun:=⟨2,.seq (R F45_r0 [0,3] [3]) (.seq (.seq (R F45_r1 [0,3,23] [3]) (.cond (.t 23) (R F45_r2 [0,3] [3]) (.skip))) (.seq (R F45_r3 [0,3,5,6] [3]) (.seq (.seq (R F45_r4 [0,3,5,6,41] [3]) (.cond (.t 41) (.seq (R F45_r5 [0,3] [3]) (R F45_r6 [0,3,5,6] [3])) (.skip))) (.seq (.seq (R F45_r7 [0,3,5,59] [3]) (.cond (.t 59) (.seq (R F45_r8 [4] []) (.ret)) (.skip))) (.seq (R F45_r9 [0,3,5] [3]) (.seq (R F45_r10 [0] []) (.seq (R F45_r11 [] []) (.seq (R F45_r12 [4] []) (.ret))))))))),[.t 4]⟩
def F46_r0:List AIns:=[jb 3 1,jc 4 0]
def F46_r1:List AIns:=[jm 8 0,ja 9 2 3,jl 10 9,ii 11 (cl N70_ [8,10]),ii 5 (.alloc true Z4),jns 2 5 11]
def F46_r2:List AIns:=[ja 12 0 5,jl 13 12,ju 14 13]
def F46_r3:List AIns:=[jc 4 1]
def F46_r4:List AIns:=[jm 16 0,jh 17 16,ja 18 3 17,jL 19 18,ja 20 1 5,jl 21 20,ja 22 4 3,jl 23 22,ii 24 (cl N74_ [19,21,23]),jm 15 24,jz 25 15 0,jz 26 15 1,ii 6 (.alloc true Z4),jns 2 6 25,jm 7 26]
def F46_r5:List AIns:=[jm 27 7,ii 28 (.bin .neq (.t 27) (.c (.lit (.int .i64 0))))]
def F46_r6:List AIns:=[jc 4 1]
def F46_r7:List AIns:=[jm 29 0,ja 30 1 3,jl 31 30,jk 32 2 6,ii 33 (cl N69_ [29,31,32])]
def F46_r8:List AIns:=[jm 34 0,jh 35 34,ja 36 5 35,jL 37 36,jA 38 37 1,jh 39 34,ja 40 5 39,jnS 1 40 38]
def F46_r9:List AIns:=[jc 4 0]
def F46_:AFun:=⟨2,.seq (R F46_r0 [0,3] [3]) (.seq (R F46_r1 [0,3,5] [3,5]) (.seq (.seq (R F46_r2 [0,3,5,14] [3,5]) (.cond (.t 14) (.seq (R F46_r3 [4] []) (.ret)) (.skip))) (.seq (.reg F46_r4 [6] [0,3,6,7] [3,6]) (.seq (.seq (R F46_r5 [0,3,6,28] [3,6]) (.cond (.t 28) (.seq (R F46_r6 [4] []) (.ret)) (.skip))) (.seq (R F46_r7 [0] []) (.seq (R F46_r8 [] []) (.seq (R F46_r9 [4] []) (.ret)))))))),[.t 4]⟩
def F47_r0:List AIns:=[jb 3 1,jc 4 0]
def F47_r1:List AIns:=[jm 6 0,ja 7 1 3,jl 8 7,ii 9 (cl N70_ [6,8]),ii 5 (.alloc true Z4),jns 2 5 9]
def F47_r3:List AIns:=[ja 18 0 5,jl 19 18,jm 17 19]
def F47_r4:List AIns:=[jc 4 1]
def F47_r5:List AIns:=[ja 21 1 5,jl 22 21,je 23 22 0,jm 20 23]
def F47_r6:List AIns:=[jm 24 0,ja 25 4 3,jl 26 25,jh 27 24,ja 28 5 27,jnS 1 28 26]
def F47_r2:List AIns:=[jm 10 0,jh 11 10,ja 12 5 11,jL 13 12,jA 14 13 1,jh 15 10,ja 16 5 15,jnS 1 16 14]
def F47_r7:List AIns:=[jc 4 0]
def F47_:AFun:=⟨2,.seq (R F47_r0 [0,3] [3]) (.seq (R F47_r1 [0,3,5] [3,5]) (.seq (.block 0 (.seq (R F47_r3 [0,3,5,17] [3,5]) (.cond (.t 17) (.seq (R F47_r4 [4] []) (.ret)) (.seq (R F47_r5 [0,3,20] [3]) (.cond (.t 20) (R F47_r6 [] []) (R F47_r2 [] [])))))) (.seq (R F47_r7 [4] []) (.ret)))),[.t 4]⟩
def F48_r0:List AIns:=[jb 3 1,jc 4 0]
def F48_r1:List AIns:=[jm 6 0,ja 7 1 3,jl 8 7,ii 9 (cl N75_ [6,8]),jm 5 9]
def F48_r2:List AIns:=[jm 10 5,ii 11 (.bin .lss (.t 10) (.c (.lit (.int .i64 0)))),jm 12 11,jfm 13 12 5,jfa 14 12 6 3,jfl 15 12 14,jfg 16 12 15,iF 17 12 (.bin .geq (.t 13) (.t 16)),jP 18 12 17]
def F48_r3:List AIns:=[jc 4 1]
def F48_r4:List AIns:=[jm 19 0,ja 20 6 3,jl 21 20,jm 22 5,jx 23 1 21 22,jL 24 23,jh 25 19,ja 26 5 25,jnS 1 26 24]
def F48_r5:List AIns:=[jc 4 0]
def F48_:AFun:=⟨2,.seq (R F48_r0 [0,3] [3]) (.seq (R F48_r1 [0,3,5] [3]) (.seq (.seq (R F48_r2 [0,3,5,18] [3]) (.cond (.t 18) (.seq (R F48_r3 [4] []) (.ret)) (.skip))) (.seq (R F48_r4 [] []) (.seq (R F48_r5 [4] []) (.ret))))),[.t 4]⟩
def F49_r0:List AIns:=[jb 3 1,jc 4 0]
def F49_r1:List AIns:=[jm 5 0,jm 6 0,ja 7 5 3,jl 8 7,ii 9 (cl N73_ [6,8]),jh 10 5,ja 11 4 10,jnS 1 11 9]
def F49_r2:List AIns:=[jm 12 0,ja 13 4 3,jl 14 13,jh 15 12,ja 16 5 15,jnS 1 16 14]
def F49_r3:List AIns:=[jc 4 0]
def F49_:AFun:=⟨2,.seq (R F49_r0 [0,3] [3]) (.seq (R F49_r1 [0,3] [3]) (.seq (R F49_r2 [] []) (.seq (R F49_r3 [4] []) (.ret)))),[.t 4]⟩
def F50_r0:List AIns:=[jb 3 1,jc 4 0]
def F50_r1:List AIns:=[jm 6 0,ja 7 1 3,jl 8 7,ii 9 (cl N75_ [6,8]),jm 5 9]
def F50_r2:List AIns:=[jm 10 5,ii 11 (.bin .lss (.t 10) (.c (.lit (.int .i64 0)))),jm 12 11,jfm 13 12 5,jfm 14 12 0,jfh 15 12 14,jfa 16 12 0 15,jfa 17 12 2 16,jfL 18 12 17,jfg 19 12 18,iF 20 12 (.bin .geq (.t 13) (.t 19)),jP 21 12 20]
def F50_r3:List AIns:=[jc 4 1]
def F50_r4:List AIns:=[jm 22 0,jm 23 0,ja 24 5 3,jl 25 24,ii 26 (cl N73_ [23,25]),jm 27 0,ja 28 1 3,jl 29 28,ii 30 (cl N70_ [27,29]),jB 31 2 30,ii 32 (.call (.f N76_) [(.t 26),(.c (.lit (.int .i64 0))),(.t 31)]),jh 33 22,ja 34 4 33,jnS 1 34 32]
def F50_r5:List AIns:=[jm 35 0,jm 36 0,jh 37 36,ja 38 0 37,ja 39 2 38,jL 40 39,jm 41 5,jx 42 1 40 41,jL 43 42,jh 44 35,ja 45 5 44,jnS 1 45 43]
def F50_r6:List AIns:=[jc 4 0]
def F50_:AFun:=⟨2,.seq (R F50_r0 [0,3] [3]) (.seq (R F50_r1 [0,3,5] [3]) (.seq (.seq (R F50_r2 [0,3,5,21] [3]) (.cond (.t 21) (.seq (R F50_r3 [4] []) (.ret)) (.skip))) (.seq (R F50_r4 [0,5] []) (.seq (R F50_r5 [] []) (.seq (R F50_r6 [4] []) (.ret)))))),[.t 4]⟩
def F51_r0:List AIns:=[jb 3 1,jc 4 0]
def F51_r1:List AIns:=[jm 6 0,ja 7 1 3,jl 8 7,ii 9 (cl N70_ [6,8]),ii 5 (.alloc true Z4),jns 2 5 9]
def F51_r2:List AIns:=[ja 10 0 5,jl 11 10]
def F51_r3:List AIns:=[jc 4 1]
def F51_r4:List AIns:=[jm 12 0,jm 13 0,jh 14 13,ja 15 9 14,ja 16 2 15,jL 17 16,ja 18 1 5,jl 19 18,jB 20 1 19,ii 21 (.wop (.appm 1 8) [(.t 17),(.t 20)]),jh 22 12,ja 23 9 22,ja 24 2 23,jnS 1 24 21]
def F51_r5:List AIns:=[jm 25 0,jh 26 25,ja 27 5 26,jL 28 27,jA 29 28 1,jh 30 25,ja 31 5 30,jnS 1 31 29]
def F51_r6:List AIns:=[jc 4 0]
def F51_:AFun:=⟨2,.seq (R F51_r0 [0,3] [3]) (.seq (R F51_r1 [0,5] [5]) (.seq (.seq (R F51_r2 [0,5,11] [5]) (.cond (.t 11) (.seq (R F51_r3 [4] []) (.ret)) (.skip))) (.seq (R F51_r4 [0] []) (.seq (R F51_r5 [] []) (.seq (R F51_r6 [4] []) (.ret)))))),[.t 4]⟩
def F52_r0:List AIns:=[jb 3 1,jc 4 0]
def F52_r1:List AIns:=[jm 6 0,ja 7 1 3,jl 8 7,ii 9 (cl N70_ [6,8]),ii 5 (.alloc true Z4),jns 2 5 9]
def F52_r2:List AIns:=[ja 10 0 5,jl 11 10]
def F52_r3:List AIns:=[jc 4 1]
def F52_r4:List AIns:=[jm 12 0,ja 13 1 5,jl 14 13,jh 15 12,ja 16 9 15,ja 17 1 16,jnS 1 17 14]
def F52_r5:List AIns:=[jc 4 3]
def F52_:AFun:=⟨2,.seq (R F52_r0 [0,3] [3]) (.seq (R F52_r1 [0,5] [5]) (.seq (.seq (R F52_r2 [0,5,11] [5]) (.cond (.t 11) (.seq (R F52_r3 [4] []) (.ret)) (.skip))) (.seq (R F52_r4 [] []) (.seq (R F52_r5 [4] []) (.ret))))),[.t 4]⟩
def F53_r0:List AIns:=[jf_ 4]
def F53_r1:List AIns:=[jm 5 0,jm 6 1,ii 7 (cl N77_ [5,6]),ii 8 (.bin .geq (.t 7) (.c (.lit (.int .i64 0)))),jm 4 8]
def F53_:AFun:=⟨2,.seq (R F53_r0 [0,1] []) (.seq (R F53_r1 [4] []) (.ret)),[.t 4]⟩
def F54_r0:List AIns:=[jb 2 0,jf_ 3]
def F54_r1:List AIns:=[ja 4 0 2,jl 5 4,jm 6 5,jtL 7 6 1,jta 8 6 1 2,jtl 9 6 8,it 10 6 (cl N55_ [7,9]),jtu 11 6 10,jp 12 6 11,jm 3 12]
def F54_:AFun:=⟨2,.seq (R F54_r0 [1,2] [2]) (.seq (R F54_r1 [3] []) (.ret)),[.t 3]⟩
def F55_r0:List AIns:=[jf_ 4]
def F55_r1:List AIns:=[jm 5 1,ii 6 (.bin .geq (.t 5) (.c (.lit (.int .i64 0)))),jm 7 6,jtm 8 7 1,jtm 9 7 0,jth 10 7 9,jta 11 7 1 10,jtL 12 7 11,jtg 13 7 12,jtq 14 7 8 13,jp 15 7 14,jm 16 15,jtm 17 16 0,jth 18 16 17,jta 19 16 1 18,jtL 20 16 19,jtm 21 16 1,jtx 22 16 1 20 21,jtL 23 16 22,it 24 16 (.bin .gtr (.t 23) (.c (.lit (.int .i64 0)))),jp 25 16 24,jm 4 25]
def F55_:AFun:=⟨2,.seq (R F55_r0 [0,1] []) (.seq (R F55_r1 [4] []) (.ret)),[.t 4]⟩
def F56_r0:List AIns:=[jb 2 0,jf_ 4]
def F56_r1:List AIns:=[ja 5 0 2,jl 6 5]
def F56_r2:List AIns:=[je 8 6 0,jm 7 8]
def F56_r3:List AIns:=[ii 4 (.mv (.c (.lit (.bool true))))]
def F56_r4:List AIns:=[je 10 6 2,jm 9 10]
def F56_r5:List AIns:=[ja 11 4 2,jl 12 11,ii 13 (.call (.f N35_) [(.t 12),(.c (.lit (.int .i64 6)))]),jm 4 13]
def F56_r6:List AIns:=[je 15 6 3,jm 14 15]
def F56_r7:List AIns:=[ja 16 4 2,jl 17 16,ii 18 (.call (.f N35_) [(.t 17),(.c (.lit (.int .i64 100000)))]),jm 4 18]
def F56_r8:List AIns:=[je 20 6 4,jm 19 20]
def F56_r9:List AIns:=[ja 21 4 2,jl 22 21,ii 23 (.call (.f N35_) [(.t 22),(.c (.lit (.int .i64 1023)))]),jm 4 23]
def F56_r10:List AIns:=[je 25 6 5,jm 24 25]
def F56_r11:List AIns:=[je 26 6 7,jm 24 26]
def F56_r12:List AIns:=[ja 27 4 2,jl 28 27,jm 29 1,ii 30 (.bin .sub (.t 29) (.c (.lit (.int .i64 1)))),ii 31 (cl N35_ [28,30]),jm 4 31]
def F56_r13:List AIns:=[ja 32 4 2,jl 33 32,je 34 33 0,jm 4 34]
def F56_:AFun:=⟨2,.seq (R F56_r0 [1,2] [2]) (.seq (.seq (R F56_r1 [1,2,6] [2]) (.block 0 (.seq (R F56_r2 [1,2,6,7] [2]) (.cond (.t 7) (.seq (R F56_r3 [4] []) (.ret)) (.seq (R F56_r4 [1,2,6,9] [2]) (.cond (.t 9) (.seq (R F56_r5 [4] []) (.ret)) (.seq (R F56_r6 [1,2,6,14] [2]) (.cond (.t 14) (.seq (R F56_r7 [4] []) (.ret)) (.seq (R F56_r8 [1,2,6,19] [2]) (.cond (.t 19) (.seq (R F56_r9 [4] []) (.ret)) (.seq (.seq (R F56_r10 [1,2,6,24] [2]) (.cond (.t 24) (.skip) (R F56_r11 [1,2,24] [2]))) (.cond (.t 24) (.seq (R F56_r12 [4] []) (.ret)) (.skip))))))))))))) (.seq (R F56_r13 [4] []) (.ret))),[.t 4]⟩
def F57_r0:List AIns:=[jf_ 6]
def F57_r1:List AIns:=[jm 7 2,je 8 7 0,jm 9 8,jfm 10 9 0,jfm 11 9 1,iF 12 9 (cl N58_ [10,11]),jfm 13 9 12,jtm 14 13 2,it 15 13 (.call (.f N35_) [(.t 14),(.c (.lit (.int .i64 1023)))]),jfp 16 9 13 15,jP 17 9 16,jm 6 17]
def F57_:AFun:=⟨3,.seq (R F57_r0 [0,1,2] []) (.seq (R F57_r1 [6] []) (.ret)),[.t 6]⟩
def F58_r0:List AIns:=[jf_ 4]
def F58_r1:List AIns:=[jm 5 0,ii 6 (cl N79_ [5]),jm 7 1,ii 8 (cl N78_ [6,7]),jm 4 8]
def F58_:AFun:=⟨2,.seq (R F58_r0 [0,1] []) (.seq (R F58_r1 [4] []) (.ret)),[.t 4]⟩
def F59_r0:List AIns:=[jf_ 4]
def F59_r1:List AIns:=[jm 7 0,jg 8 7,jc 9 0]
def F59_r2:List AIns:=[jq 10 9 8]
def F59_r3:List AIns:=[jx 11 1 7 9,jl 12 11,jm 6 12]
def F59_r4:List AIns:=[jm 13 6,ii 14 (.call (.f N35_) [(.t 13),(.c (.lit (.int .i64 1023)))]),ju 15 14]
def F59_r5:List AIns:=[jf_ 4]
def F59_r6:List AIns:=[jA 16 9 1,jm 9 16]
def F59_l1:AC:=.seq (R F59_r2 [0,1,7,8,9,10] []) (.seq (.cond (.t 10) (.skip) (.exit 0)) (.seq (.block 1 (.seq (R F59_r3 [0,1,6,7,8,9] []) (.seq (R F59_r4 [0,1,7,8,9,15] []) (.cond (.t 15) (.seq (R F59_r5 [4] []) (.ret)) (.skip))))) (R F59_r6 [0,1,7,8,9] [])))
def F59_r7:List AIns:=[jm 17 0,jg 18 17,jm 19 1,ii 20 (.bin .leq (.t 18) (.t 19)),jm 4 20]
def F59_:AFun:=⟨2,.seq (R F59_r0 [0,1] []) (.seq (.seq (R F59_r1 [0,1,7,8,9] []) (.block 0 (.loop F59_l1))) (.seq (R F59_r7 [4] []) (.ret))),[.t 4]⟩
def F60_r0:List AIns:=[ii 0 (.alloc true [.lit (.string ⟨#[]⟩),.lit (.string ⟨#[]⟩),.lit (.string ⟨#[]⟩),.lit (.string ⟨#[]⟩),.lit (.string ⟨#[]⟩),.lit (.string ⟨#[]⟩),.lit (.string ⟨#[]⟩),.lit (.string ⟨#[]⟩),.lit (.string ⟨#[]⟩),.lit (.string ⟨#[]⟩),.lit (.string ⟨#[]⟩),.lit (.string ⟨#[]⟩),.lit (.string ⟨#[]⟩),.lit (.string ⟨#[]⟩),.lit (.string ⟨#[]⟩),.lit (.string ⟨#[]⟩),.lit (.string ⟨#[]⟩),.lit (.string ⟨#[]⟩),.lit (.string ⟨#[]⟩),.lit (.string ⟨#[]⟩),.lit (.string ⟨#[]⟩),.lit (.string ⟨#[]⟩)])]
def F60_r1:List AIns:=[ii 1 (.build Z3 [(0,1,(.c (.lit (.string ⟨#[108,105,116]⟩)))),(1,1,(.c (.lit (.string ⟨#[97,110]⟩))))]),ii 2 (.build Z3 [(0,1,(.c (.lit (.string ⟨#[109,111,118,101]⟩)))),(1,1,(.c (.lit (.string ⟨#[97,98]⟩))))]),ii 3 (.build Z3 [(0,1,(.c (.lit (.string ⟨#[112,114,105,109]⟩)))),(1,1,(.c (.lit (.string ⟨#[111,97,98,99]⟩))))]),ii 4 (.build Z3 [(0,1,(.c (.lit (.string ⟨#[110,101,119]⟩)))),(1,1,(.c (.lit (.string ⟨#[97,116,114]⟩))))]),ii 5 (.build Z3 [(0,1,(.c (.lit (.string ⟨#[108,111,97,100]⟩)))),(1,1,(.c (.lit (.string ⟨#[97,98,102]⟩))))]),ii 6 (.build Z3 [(0,1,(.c (.lit (.string ⟨#[122,101,114,111]⟩)))),(1,1,(.c (.lit (.string ⟨#[97,112]⟩))))]),ii 7 (.build Z3 [(0,1,(.c (.lit (.string ⟨#[115,119,105,116,99,104]⟩)))),(1,1,(.c (.lit (.string ⟨#[97,115]⟩))))]),ii 8 (.build Z3 [(0,1,(.c (.lit (.string ⟨#[106,117,109,112]⟩)))),(1,1,(.c (.lit (.string ⟨#[112,114]⟩))))]),ii 9 (.build Z3 [(0,1,(.c (.lit (.string ⟨#[101,110,116,101,114]⟩)))),(1,1,(.c (.lit (.string ⟨#[97,114]⟩))))]),ii 10 (.build Z3 [(0,1,(.c (.lit (.string ⟨#[101,109,105,116]⟩)))),(1,1,(.c (.lit (.string ⟨#[97]⟩))))]),ii 11 (.build Z3 [(0,1,(.c (.lit (.string ⟨#[100,111,110,101]⟩)))),(1,1,(.c (.lit (.string ⟨#[97]⟩))))]),ii 12 (.build [.lit (.string ⟨#[]⟩),.lit (.string ⟨#[]⟩),.lit (.string ⟨#[]⟩),.lit (.string ⟨#[]⟩),.lit (.string ⟨#[]⟩),.lit (.string ⟨#[]⟩),.lit (.string ⟨#[]⟩),.lit (.string ⟨#[]⟩),.lit (.string ⟨#[]⟩),.lit (.string ⟨#[]⟩),.lit (.string ⟨#[]⟩),.lit (.string ⟨#[]⟩),.lit (.string ⟨#[]⟩),.lit (.string ⟨#[]⟩),.lit (.string ⟨#[]⟩),.lit (.string ⟨#[]⟩),.lit (.string ⟨#[]⟩),.lit (.string ⟨#[]⟩),.lit (.string ⟨#[]⟩),.lit (.string ⟨#[]⟩),.lit (.string ⟨#[]⟩),.lit (.string ⟨#[]⟩)] [(0,2,(.t 1)),(2,2,(.t 2)),(4,2,(.t 3)),(6,2,(.t 4)),(8,2,(.t 5)),(10,2,(.t 6)),(12,2,(.t 7)),(14,2,(.t 8)),(16,2,(.t 9)),(18,2,(.t 10)),(20,2,(.t 11))]),jns 22 0 12]
def F60_:AFun:=⟨0,.seq (R F60_r0 [0] [0]) (.seq (R F60_r1 [0] [0]) (.ret)),[.cell (some 22) 0]⟩
def F62_r0:List AIns:=[jf_ 2]
def F62_r1:List AIns:=[jm 3 0,ii 4 (.bin .geq (.t 3) (.c (.lit (.int .i64 0)))),jm 5 4,jtm 6 5 0,it 7 5 (.bin .lss (.t 6) (.c (.lit (.int .i64 1024)))),jp 8 5 7,jm 2 8]
def F62_:AFun:=⟨1,.seq (R F62_r0 [0] []) (.seq (R F62_r1 [2] []) (.ret)),[.t 2]⟩
def F63_r0:List AIns:=[jf_ 4]
def F63_r1:List AIns:=[jm 5 0,jm 6 1,ii 7 (cl N80_ [5,6]),ii 8 (.bin .geq (.t 7) (.c (.lit (.int .i64 0)))),jm 4 8]
def F63_:AFun:=⟨2,.seq (R F63_r0 [0,1] []) (.seq (R F63_r1 [4] []) (.ret)),[.t 4]⟩
def F64_r0:List AIns:=[jf_ 2]
def F64_r1:List AIns:=[jm 3 0,ii 4 (cl N62_ [3]),ju 5 4,jm 2 5]
def F64_:AFun:=⟨1,.seq (R F64_r0 [0] []) (.seq (R F64_r1 [2] []) (.ret)),[.t 2]⟩
def F65_r0:List AIns:=[jf_ 3]
def F65_r1:List AIns:=[jm 4 0,ii 5 (.bin .lss (.t 4) (.c (.lit (.int .i64 0)))),jm 6 5,jfm 7 6 0,jfL 8 6 1,iF 9 6 (.bin .geq (.t 7) (.t 8)),jP 10 6 9,jm 3 10]
def F65_:AFun:=⟨2,.seq (R F65_r0 [0,1] []) (.seq (R F65_r1 [3] []) (.ret)),[.t 3]⟩
def F66_r0:List AIns:=[jb 3 0,jf_ 6]
def F66_r1:List AIns:=[jk 8 2 3,ii 9 (.call (.f N61_) [(.t 8),(.c (.lit (.int .i32 110)))]),jm 7 9]
def F66_r2:List AIns:=[ii 6 (.mv (.c (.lit (.bool true))))]
def F66_r3:List AIns:=[jk 11 2 3,ii 12 (.call (.f N61_) [(.t 11),(.c (.lit (.int .i32 111)))]),jm 10 12]
def F66_r4:List AIns:=[jm 13 1,ii 14 (.bin .geq (.t 13) (.c (.lit (.int .i64 0)))),jm 15 14,jtm 16 15 1,it 17 15 (.bin .leq (.t 16) (.c (.lit (.int .i64 6)))),jp 18 15 17,jm 6 18]
def F66_r5:List AIns:=[jk 20 2 3,ii 21 (.call (.f N61_) [(.t 20),(.c (.lit (.int .i32 116)))]),jm 19 21]
def F66_r6:List AIns:=[jm 22 1,ii 23 (.bin .geq (.t 22) (.c (.lit (.int .i64 0)))),jm 24 23,jtm 25 24 1,it 26 24 (.bin .leq (.t 25) (.c (.lit (.int .i64 100000)))),jp 27 24 26,jm 6 27]
def F66_r7:List AIns:=[jk 29 2 3,ii 30 (.call (.f N61_) [(.t 29),(.c (.lit (.int .i32 102)))]),jm 28 30]
def F66_r8:List AIns:=[jm 31 1,ii 32 (.bin .geq (.t 31) (.c (.lit (.int .i64 0)))),jm 33 32,jtm 34 33 1,it 35 33 (.bin .lss (.t 34) (.c (.lit (.int .i64 1024)))),jp 36 33 35,jm 6 36]
def F66_r9:List AIns:=[jk 38 2 3,ii 39 (.call (.f N61_) [(.t 38),(.c (.lit (.int .i32 112)))]),jm 37 39]
def F66_r10:List AIns:=[jm 40 1,ii 41 (.bin .geq (.t 40) (.c (.lit (.int .i64 0)))),jm 42 41,jtm 43 42 1,jtm 44 42 2,jtq 45 42 43 44,jp 46 42 45,jm 6 46]
def F66_r11:List AIns:=[jm 47 1,je 48 47 0,jm 6 48]
def F66_:AFun:=⟨3,.seq (R F66_r0 [1,2,3] [3]) (.seq (.block 0 (.seq (R F66_r1 [1,2,3,7] [3]) (.cond (.t 7) (.seq (R F66_r2 [6] []) (.ret)) (.seq (R F66_r3 [1,2,3,10] [3]) (.cond (.t 10) (.seq (R F66_r4 [6] []) (.ret)) (.seq (R F66_r5 [1,2,3,19] [3]) (.cond (.t 19) (.seq (R F66_r6 [6] []) (.ret)) (.seq (R F66_r7 [1,2,3,28] [3]) (.cond (.t 28) (.seq (R F66_r8 [6] []) (.ret)) (.seq (R F66_r9 [1,2,37] []) (.cond (.t 37) (.seq (R F66_r10 [6] []) (.ret)) (.skip)))))))))))) (.seq (R F66_r11 [6] []) (.ret))),[.t 6]⟩
def F67_r0:List AIns:=[jm 7 0,jg 8 7,jc 9 0]
def F67_r1:List AIns:=[jq 10 9 8]
def F67_r2:List AIns:=[jm 11 9,jx 12 2 7 9,jK 13 2 12,ii 6 (.alloc true Z4),jm 5 11,jns 2 6 13]
def F67_r3:List AIns:=[ja 14 0 6,jl 15 14,ju 16 15]
def F67_r4:List AIns:=[jL 17 1,ja 18 1 6,jl 19 18,jx 20 1 17 19,jL 21 20,je 22 21 0]
def F67_r5:List AIns:=[ii 23 (.ldo false 1 none (.t 1)),ja 24 1 6,jl 25 24,jL 26 3,jh 27 26,ja 28 1 27,ja 29 1 6,jl 30 29,ii 31 (.callq [1,3] (.f N32_) [(.t 28),(.t 30)]),ii 32 (.ldo false 3 none (.t 3)),jh 33 32,ja 34 1 33,ja 35 1 6,jl 36 35,ii 37 (.callq [1] (.f N33_) [(.t 34),(.t 36)]),ii 38 (.callq [1] (.f N68_) [(.t 2),(.t 31),(.t 37)]),jA 39 38 1,jx 40 1 23 25,jnS 1 40 39]
def F67_r6:List AIns:=[jm 41 0,jm 42 5,jL 43 1,ja 44 1 6,jl 45 44,jx 46 1 43 45,jL 47 46,ii 48 (.bin .sub (.t 47) (.c (.lit (.int .i64 1)))),jx 49 2 41 42,ja 50 1 49,jnS 1 50 48]
def F67_r7:List AIns:=[jA 51 9 1,jm 9 51]
def F67_l1:AC:=.seq (R F67_r1 [0,1,2,3,7,8,9,10] []) (.seq (.cond (.t 10) (.skip) (.exit 0)) (.seq (.block 1 (.seq (R F67_r2 [0,1,2,3,5,6,7,8,9] [6]) (.seq (.seq (R F67_r3 [0,1,2,3,5,6,7,8,9,16] [6]) (.cond (.t 16) (.exit 1) (.skip))) (.seq (.seq (R F67_r4 [0,1,2,3,5,6,7,8,9,22] [6]) (.cond (.t 22) (R F67_r5 [0,1,2,3,5,6,7,8,9] [6]) (.skip))) (R F67_r6 [0,1,2,3,7,8,9] []))))) (R F67_r7 [0,1,2,3,7,8,9] [])))
def F67_:AFun:=⟨4,.seq (R F67_r0 [0,1,2,3,7,8,9] []) (.block 0 (.loop F67_l1)),[]⟩
def F68_r0:List AIns:=[jc 6 0]
def F68_r1:List AIns:=[jm 8 0,jh 9 8,ja 10 0 9,jL 11 10,jg 12 11,jm 7 12]
def F68_r2:List AIns:=[jm 13 0,jm 14 0,jh 15 14,ja 16 2 15,jL 17 16,jm 18 7,jB 19 1 18,ii 20 (.wop (.appm 1 8) [(.t 17),(.t 19)]),jh 21 13,ja 22 2 21,jnS 1 22 20]
def F68_r3:List AIns:=[jm 23 0,jm 24 0,jh 25 24,ja 26 0 25,jL 27 26,jm 28 1,ii 29 (.build Z4 [(1,1,(.t 28))]),jB 30 2 29,ii 31 (.wop (.appm 2 16) [(.t 27),(.t 30)]),jm 32 2,ii 33 (.wop (.appm 2 16) [(.t 31),(.t 32)]),jh 34 23,ja 35 0 34,jnS 1 35 33]
def F68_r4:List AIns:=[jm 36 0,jm 37 0,jh 38 37,ja 39 1 38,jL 40 39,jm 41 2,jg 42 41,jA 43 42 1,jB 44 1 43,ii 45 (.wop (.appm 1 8) [(.t 40),(.t 44)]),jh 46 36,ja 47 1 46,jnS 1 47 45]
def F68_r5:List AIns:=[jm 48 2,jg 49 48,jc 50 0]
def F68_r6:List AIns:=[jq 51 50 49]
def F68_r7:List AIns:=[jm 52 0,jm 53 0,jh 54 53,ja 55 1 54,jL 56 55,ii 57 (.bsl 1 [(.c (.lit (.int .i64 0)))]),ii 58 (.wop (.appm 1 8) [(.t 56),(.t 57)]),jh 59 52,ja 60 1 59,jnS 1 60 58]
def F68_r8:List AIns:=[jA 61 50 1,jm 50 61]
def F68_l1:AC:=.seq (R F68_r6 [0,7,49,50,51] []) (.seq (.cond (.t 51) (.skip) (.exit 0)) (.seq (.block 1 (R F68_r7 [0,7,49,50] [])) (R F68_r8 [0,7,49,50] [])))
def F68_r9:List AIns:=[jm 62 7,jm 6 62]
def F68_:AFun:=⟨3,.seq (R F68_r0 [0,1,2] []) (.seq (R F68_r1 [0,1,2,7] []) (.seq (R F68_r2 [0,1,2,7] []) (.seq (R F68_r3 [0,2,7] []) (.seq (R F68_r4 [0,2,7] []) (.seq (.seq (R F68_r5 [0,7,49,50] []) (.block 0 (.loop F68_l1))) (.seq (R F68_r9 [6] []) (.ret))))))),[.t 6]⟩
def F69_r0:List AIns:=[jb 5 2]
def F69_r1:List AIns:=[jm 6 1,jm 7 0,jh 8 7,ja 9 4 8,jL 10 9,jg 11 10,ii 12 (.bin .geq (.t 6) (.t 11))]
def F69_r2:List AIns:=[jm 13 0,jm 14 0,jh 15 14,ja 16 4 15,jL 17 16,ii 18 (.build Z4 []),jB 19 2 18,ii 20 (.wop (.appm 2 16) [(.t 17),(.t 19)]),jh 21 13,ja 22 4 21,jnS 1 22 20]
def F69_l1:AC:=.seq (.seq (R F69_r1 [0,1,5,12] [5]) (.cond (.t 12) (.skip) (.exit 0))) (.block 1 (R F69_r2 [0,1,5] [5]))
def F69_r3:List AIns:=[jm 23 0,jh 24 23,ja 25 4 24,jL 26 25,jm 27 1,jk 28 2 5,jx 29 2 26 27,jnS 2 29 28]
def F69_:AFun:=⟨3,.seq (R F69_r0 [0,1,5] [5]) (.seq (.block 0 (.loop F69_l1)) (R F69_r3 [] [])),[]⟩
def F70_r0:List AIns:=[ii 4 (.alloc true Z4)]
def F70_r1:List AIns:=[jm 5 1,jm 6 0,jh 7 6,ja 8 4 7,jL 9 8,jg 10 9,jq 11 5 10]
def F70_r2:List AIns:=[jm 12 0,jh 13 12,ja 14 4 13,jL 15 14,jm 16 1,jx 17 2 15 16,jK 18 2 17,jns 2 4 18]
def F70_r3:List AIns:=[ii 19 (.build Z4 []),jns 2 4 19]
def F70_:AFun:=⟨2,.seq (R F70_r0 [0,1,4] [4]) (.seq (.seq (R F70_r1 [0,1,4,11] [4]) (.cond (.t 11) (.seq (R F70_r2 [4] [4]) (.ret)) (.skip))) (.seq (R F70_r3 [4] [4]) (.ret))),[.cell (some 2) 4]⟩
def F71_r0:List AIns:=[jc 6 0]
def F71_r1:List AIns:=[jc 7 0]
def F71_r2:List AIns:=[jm 9 2,ii 10 (.bin .neq (.t 9) (.c (.lit (.int .i64 0))))]
def F71_r3:List AIns:=[jm 11 1,jm 12 2,ii 13 (.bin .quo (.t 11) (.t 12)),jm 7 13]
def F71_r4:List AIns:=[jf_ 8]
def F71_r5:List AIns:=[jm 14 0]
def F71_r7:List AIns:=[je 19 14 0,jm 18 19]
def F71_r8:List AIns:=[jm 20 1,jm 21 2,ii 22 (.bin .add (.t 20) (.t 21)),jm 6 22]
def F71_r9:List AIns:=[je 24 14 1,jm 23 24]
def F71_r10:List AIns:=[jm 25 1,jm 26 2,ii 27 (.bin .sub (.t 25) (.t 26)),jm 6 27]
def F71_r11:List AIns:=[je 29 14 2,jm 28 29]
def F71_r12:List AIns:=[jm 30 1,jm 31 2,ii 32 (.bin .mul (.t 30) (.t 31)),jm 6 32]
def F71_r13:List AIns:=[je 34 14 3,jm 33 34]
def F71_r14:List AIns:=[jm 35 7,jm 6 35]
def F71_r15:List AIns:=[je 37 14 4,jm 36 37]
def F71_r16:List AIns:=[jm 38 1,jm 39 2,jm 40 7,ii 41 (.bin .mul (.t 39) (.t 40)),ii 42 (.bin .sub (.t 38) (.t 41)),jm 6 42]
def F71_r17:List AIns:=[je 44 14 5,jm 43 44]
def F71_r18:List AIns:=[jm 45 1,jm 46 2,ii 47 (.bin .eql (.t 45) (.t 46)),jm 8 47]
def F71_r6:List AIns:=[jm 15 1,jm 16 2,jq 17 15 16,jm 8 17]
def F71_r19:List AIns:=[jm 48 8]
def F71_r20:List AIns:=[jc 6 1]
def F71_r21:List AIns:=[jc 6 0]
def F71_:AFun:=⟨3,.seq (R F71_r0 [0,1,2] []) (.seq (R F71_r1 [0,1,2,7] []) (.seq (.seq (R F71_r2 [0,1,2,7,10] []) (.cond (.t 10) (R F71_r3 [0,1,2,7] []) (.skip))) (.seq (R F71_r4 [0,1,2,7] []) (.seq (.seq (R F71_r5 [1,2,7,14] []) (.block 0 (.seq (R F71_r7 [1,2,7,14,18] []) (.cond (.t 18) (.seq (R F71_r8 [6] []) (.ret)) (.seq (R F71_r9 [1,2,7,14,23] []) (.cond (.t 23) (.seq (R F71_r10 [6] []) (.ret)) (.seq (R F71_r11 [1,2,7,14,28] []) (.cond (.t 28) (.seq (R F71_r12 [6] []) (.ret)) (.seq (R F71_r13 [1,2,7,14,33] []) (.cond (.t 33) (.seq (R F71_r14 [6] []) (.ret)) (.seq (R F71_r15 [1,2,7,14,36] []) (.cond (.t 36) (.seq (R F71_r16 [6] []) (.ret)) (.seq (R F71_r17 [1,2,43] []) (.cond (.t 43) (R F71_r18 [8] []) (R F71_r6 [8] []))))))))))))))) (.seq (.seq (R F71_r19 [48] []) (.cond (.t 48) (.seq (R F71_r20 [6] []) (.ret)) (.skip))) (.seq (R F71_r21 [6] []) (.ret))))))),[.t 6]⟩
def F72_r0:List AIns:=[jc 6 0,jc 7 0]
def F72_r1:List AIns:=[jm 9 0,ii 10 (.peq false (.t 9) (.c (.lit (.pointer none)))),jm 8 10]
def F72_r2:List AIns:=[jc 6 0,jc 7 3]
def F72_r3:List AIns:=[jm 12 1,ii 13 (.bin .lss (.t 12) (.c (.lit (.int .i64 0)))),jm 14 13,jfm 15 14 1,iF 16 14 (.bin .gtr (.t 15) (.c (.lit (.int .i64 100000)))),jP 17 14 16,jm 18 17,jfm 19 18 2,jfg 20 18 19,iF 21 18 (.bin .gtr (.t 20) (.c (.lit (.int .i64 1024)))),jP 22 18 21,jm 11 22]
def F72_r4:List AIns:=[jc 6 0,jc 7 1]
def F72_r5:List AIns:=[jm 24 0,jh 25 24,ja 26 1 25,jm 27 2,ii 28 (cl N30_ [26,27]),ju 29 28,jm 23 29]
def F72_r6:List AIns:=[jc 6 0,jc 7 171]
def F72_r7:List AIns:=[jm 31 0,jh 32 31,ja 33 1 32,ja 34 0 33,jL 35 34,jg 36 35,jA 37 36 1,jm 38 2,jg 39 38,ii 40 (.bin .add (.t 37) (.t 39)),jm 41 0,jh 42 41,ja 43 0 42,jL 44 43,ii 45 (.bin .gtr (.t 40) (.t 44)),jm 30 45]
def F72_r8:List AIns:=[jc 6 0,jc 7 170]
def F72_r9:List AIns:=[jm 46 0,jh 47 46,ja 48 1 47,jm 49 1,jm 50 2,ii 51 (cl N68_ [48,49,50]),jm 6 51,jc 7 0]
def F72_:AFun:=⟨3,.seq (R F72_r0 [0,1,2] []) (.seq (.block 0 (.seq (R F72_r1 [0,1,2,8] []) (.cond (.t 8) (.seq (R F72_r2 [6,7] []) (.ret)) (.seq (R F72_r3 [0,1,2,11] []) (.cond (.t 11) (.seq (R F72_r4 [6,7] []) (.ret)) (.seq (R F72_r5 [0,1,2,23] []) (.cond (.t 23) (.seq (R F72_r6 [6,7] []) (.ret)) (.seq (R F72_r7 [0,1,2,30] []) (.cond (.t 30) (.seq (R F72_r8 [6,7] []) (.ret)) (.skip)))))))))) (.seq (R F72_r9 [6,7] []) (.ret))),[.t 6,.t 7]⟩
def F73_r0:List AIns:=[ii 4 (.mv (.c (.slice .full 2 [])))]
def F73_r1:List AIns:=[jm 8 1,jg 9 8,jA 10 9 1,ii 11 (.wop (.mks 2 16 Z4) [(.c (.lit (.int .i64 0))),(.t 10)]),jm 5 11]
def F73_r2:List AIns:=[jm 12 1,jg 13 12,jc 14 0]
def F73_r3:List AIns:=[jq 15 14 13]
def F73_r4:List AIns:=[jx 16 1 12 14,jL 17 16,jm 7 17]
def F73_r5:List AIns:=[jm 18 5,jm 19 0,jm 20 7,ii 21 (cl N70_ [19,20]),jB 22 2 21,ii 23 (.wop (.appm 2 16) [(.t 18),(.t 22)]),jm 5 23]
def F73_r6:List AIns:=[jA 24 14 1,jm 14 24]
def F73_l1:AC:=.seq (R F73_r3 [0,5,12,13,14,15] []) (.seq (.cond (.t 15) (.skip) (.exit 0)) (.seq (.block 1 (.seq (R F73_r4 [0,5,7,12,13,14] []) (R F73_r5 [0,5,12,13,14] []))) (R F73_r6 [0,5,12,13,14] [])))
def F73_r7:List AIns:=[jm 25 5,jm 4 25]
def F73_:AFun:=⟨2,.seq (R F73_r0 [0,1] []) (.seq (R F73_r1 [0,1,5] []) (.seq (.seq (R F73_r2 [0,5,12,13,14] []) (.block 0 (.loop F73_l1))) (.seq (R F73_r7 [4] []) (.ret)))),[.t 4]⟩
def F74_r0:List AIns:=[ii 6 (.alloc true Z4),jc 7 0]
def F74_r1:List AIns:=[jm 10 0,jm 11 1,ii 12 (cl N81_ [10,11]),jm 8 12]
def F74_r2:List AIns:=[jm 13 8,ii 14 (.bin .neq (.t 13) (.c (.lit (.int .i64 0))))]
def F74_r3:List AIns:=[ii 15 (.build Z4 []),jm 16 8,jns 2 6 15,jm 7 16]
def F74_r4:List AIns:=[jm 17 0,jh 18 17,ja 19 1 18,jm 20 1,ii 21 (cl N33_ [19,20]),jm 9 21]
def F74_r5:List AIns:=[jm 22 2,ii 23 (.bin .geq (.t 22) (.c (.lit (.int .i64 0)))),jm 24 23,jtm 25 24 2,jtm 26 24 9,jtg 27 24 26,jtq 28 24 25 27,jp 29 24 28]
def F74_r6:List AIns:=[jm 30 9,jm 31 2,jx 32 2 30 31,jK 33 2 32,jns 2 6 33,jc 7 0]
def F74_r7:List AIns:=[ii 34 (.build Z4 []),jns 2 6 34,jc 7 1]
def F74_:AFun:=⟨3,.seq (R F74_r0 [0,1,2,6] [6]) (.seq (.seq (R F74_r1 [0,1,2,6,8] [6]) (.seq (R F74_r2 [0,1,2,6,8,14] [6]) (.cond (.t 14) (.seq (R F74_r3 [6,7] [6]) (.ret)) (.skip)))) (.seq (.seq (R F74_r4 [2,6,9] [6]) (.seq (R F74_r5 [2,6,9,29] [6]) (.cond (.t 29) (.seq (R F74_r6 [6,7] [6]) (.ret)) (.skip)))) (.seq (R F74_r7 [6,7] [6]) (.ret)))),[.cell (some 2) 6,.t 7]⟩
def F75_r0:List AIns:=[jc 4 0]
def F75_r1:List AIns:=[jm 8 0,jm 9 1,ii 10 (cl N70_ [8,9]),ii 5 (.alloc true Z4),jns 2 5 10]
def F75_r2:List AIns:=[ja 11 0 5,jl 12 11,ju 13 12]
def F75_r3:List AIns:=[ii 4 (.mv (.c (.lit (.int .i64 (-1)))))]
def F75_r4:List AIns:=[jm 15 0,jh 16 15,ja 17 3 16,jL 18 17,ja 19 1 5,jl 20 19,ii 21 (cl N82_ [18,20]),jm 14 21,jz 22 14 0,jz 23 14 1,jm 6 22,jm 7 23]
def F75_r5:List AIns:=[jm 24 6,jm 4 24]
def F75_:AFun:=⟨2,.seq (R F75_r0 [0,1] []) (.seq (R F75_r1 [0,5] [5]) (.seq (.seq (R F75_r2 [0,5,13] [5]) (.cond (.t 13) (.seq (R F75_r3 [4] []) (.ret)) (.skip))) (.seq (R F75_r4 [6] []) (.seq (R F75_r5 [4] []) (.ret))))),[.t 4]⟩
def F77_r0:List AIns:=[jc 4 0]
def F77_r1:List AIns:=[jm 6 0,jg 7 6,jc 8 0]
def F77_r2:List AIns:=[jq 9 8 7]
def F77_r3:List AIns:=[jm 10 8,jm 5 10]
def F77_r4:List AIns:=[jm 11 1,jm 12 0,jm 13 5,jx 14 2 12 13,jK 15 2 14,ii 16 (.call (.t 11) [(.t 15)])]
def F77_r5:List AIns:=[jm 17 5,jm 4 17]
def F77_r6:List AIns:=[jA 18 8 1,jm 8 18]
def F77_l1:AC:=.seq (R F77_r2 [0,1,7,8,9] []) (.seq (.cond (.t 9) (.skip) (.exit 0)) (.seq (.block 1 (.seq (R F77_r3 [0,1,5,7,8] []) (.seq (R F77_r4 [0,1,5,7,8,16] []) (.cond (.t 16) (.seq (R F77_r5 [4] []) (.ret)) (.skip))))) (R F77_r6 [0,1,7,8] [])))
def F77_r7:List AIns:=[ii 4 (.mv (.c (.lit (.int .i64 (-1)))))]
def F77_:AFun:=⟨2,.seq (R F77_r0 [0,1] []) (.seq (.seq (R F77_r1 [0,1,7,8] []) (.block 0 (.loop F77_l1))) (.seq (R F77_r7 [4] []) (.ret))),[.t 4]⟩
def F79_r0:List AIns:=[ii 2 (.mv (.c (.lit (.string ⟨#[]⟩))))]
def F79_r1:List AIns:=[jm 3 0]
def F79_r2:List AIns:=[je 5 3 0,jm 4 5]
def F79_r3:List AIns:=[je 6 3 5,jm 4 6]
def F79_r4:List AIns:=[ii 2 (.mv (.c (.lit (.string ⟨#[65,78]⟩))))]
def F79_r5:List AIns:=[je 8 3 1,jm 7 8]
def F79_r6:List AIns:=[ii 2 (.mv (.c (.lit (.string ⟨#[65,66]⟩))))]
def F79_r7:List AIns:=[je 10 3 2,jm 9 10]
def F79_r8:List AIns:=[ii 2 (.mv (.c (.lit (.string ⟨#[80,65,66,67]⟩))))]
def F79_r9:List AIns:=[je 12 3 3,jm 11 12]
def F79_r10:List AIns:=[ii 2 (.mv (.c (.lit (.string ⟨#[65,78,82]⟩))))]
def F79_r11:List AIns:=[je 14 3 4,jm 13 14]
def F79_r12:List AIns:=[ii 2 (.mv (.c (.lit (.string ⟨#[65,66,78]⟩))))]
def F79_r13:List AIns:=[je 16 3 6,jm 15 16]
def F79_r14:List AIns:=[ii 2 (.mv (.c (.lit (.string ⟨#[65,84]⟩))))]
def F79_r15:List AIns:=[je 18 3 7,jm 17 18]
def F79_r16:List AIns:=[ii 2 (.mv (.c (.lit (.string ⟨#[78,82]⟩))))]
def F79_r17:List AIns:=[je 20 3 8,jm 19 20]
def F79_r18:List AIns:=[ii 2 (.mv (.c (.lit (.string ⟨#[65,82]⟩))))]
def F79_r19:List AIns:=[ii 2 (.mv (.c (.lit (.string ⟨#[65]⟩))))]
def F79_:AFun:=⟨1,.seq (R F79_r0 [0] []) (.seq (.seq (R F79_r1 [3] []) (.block 0 (.seq (.seq (R F79_r2 [3,4] []) (.cond (.t 4) (.skip) (R F79_r3 [3,4] []))) (.cond (.t 4) (.seq (R F79_r4 [2] []) (.ret)) (.seq (R F79_r5 [3,7] []) (.cond (.t 7) (.seq (R F79_r6 [2] []) (.ret)) (.seq (R F79_r7 [3,9] []) (.cond (.t 9) (.seq (R F79_r8 [2] []) (.ret)) (.seq (R F79_r9 [3,11] []) (.cond (.t 11) (.seq (R F79_r10 [2] []) (.ret)) (.seq (R F79_r11 [3,13] []) (.cond (.t 13) (.seq (R F79_r12 [2] []) (.ret)) (.seq (R F79_r13 [3,15] []) (.cond (.t 15) (.seq (R F79_r14 [2] []) (.ret)) (.seq (R F79_r15 [3,17] []) (.cond (.t 17) (.seq (R F79_r16 [2] []) (.ret)) (.seq (R F79_r17 [19] []) (.cond (.t 19) (.seq (R F79_r18 [2] []) (.ret)) (.skip))))))))))))))))))) (.seq (R F79_r19 [2] []) (.ret))),[.t 2]⟩
def F80_r0:List AIns:=[jc 4 0]
def F80_r1:List AIns:=[jm 6 0,jg 7 6,jc 8 0]
def F80_r2:List AIns:=[jq 9 8 7]
def F80_r3:List AIns:=[jm 10 8,jm 5 10]
def F80_r4:List AIns:=[jm 11 1,jm 12 0,jm 13 5,jx 14 1 12 13,jL 15 14,ii 16 (.call (.t 11) [(.t 15)])]
def F80_r5:List AIns:=[jm 17 5,jm 4 17]
def F80_r6:List AIns:=[jA 18 8 1,jm 8 18]
def F80_l1:AC:=.seq (R F80_r2 [0,1,7,8,9] []) (.seq (.cond (.t 9) (.skip) (.exit 0)) (.seq (.block 1 (.seq (R F80_r3 [0,1,5,7,8] []) (.seq (R F80_r4 [0,1,5,7,8,16] []) (.cond (.t 16) (.seq (R F80_r5 [4] []) (.ret)) (.skip))))) (R F80_r6 [0,1,7,8] [])))
def F80_r7:List AIns:=[ii 4 (.mv (.c (.lit (.int .i64 (-1)))))]
def F80_:AFun:=⟨2,.seq (R F80_r0 [0,1] []) (.seq (.seq (R F80_r1 [0,1,7,8] []) (.block 0 (.loop F80_l1))) (.seq (R F80_r7 [4] []) (.ret))),[.t 4]⟩
def F81_r0:List AIns:=[jc 4 0]
def F81_r1:List AIns:=[jm 6 0,ii 7 (.peq false (.t 6) (.c (.lit (.pointer none)))),jm 5 7]
def F81_r2:List AIns:=[jc 4 3]
def F81_r3:List AIns:=[jm 9 0,jh 10 9,ja 11 1 10,jm 12 1,ii 13 (cl N55_ [11,12]),ju 14 13,jm 8 14]
def F81_r4:List AIns:=[jc 4 171]
def F81_r5:List AIns:=[jc 4 0]
def F81_:AFun:=⟨2,.seq (R F81_r0 [0,1] []) (.seq (.block 0 (.seq (R F81_r1 [0,1,5] []) (.cond (.t 5) (.seq (R F81_r2 [4] []) (.ret)) (.seq (R F81_r3 [8] []) (.cond (.t 8) (.seq (R F81_r4 [4] []) (.ret)) (.skip)))))) (.seq (R F81_r5 [4] []) (.ret))),[.t 4]⟩
def F82_r0:List AIns:=[jc 4 0,jc 5 0]
def F82_r1:List AIns:=[jm 7 0,jm 8 1,ii 9 (cl N81_ [7,8]),jm 6 9]
def F82_r2:List AIns:=[jm 10 6,ii 11 (.bin .neq (.t 10) (.c (.lit (.int .i64 0))))]
def F82_r3:List AIns:=[jm 12 6,jc 4 0,jm 5 12]
def F82_r4:List AIns:=[jm 13 0,jh 14 13,ja 15 1 14,jm 16 1,ii 17 (cl N32_ [15,16]),jm 4 17,jc 5 0]
def F82_:AFun:=⟨2,.seq (R F82_r0 [0,1] []) (.seq (.seq (R F82_r1 [0,1,6] []) (.seq (R F82_r2 [0,1,6,11] []) (.cond (.t 11) (.seq (R F82_r3 [4,5] []) (.ret)) (.skip)))) (.seq (R F82_r4 [4,5] []) (.ret))),[.t 4,.t 5]⟩
def tab:List (Nat × AFun):=[(N4_,F4_),(N5_,F5_),(N6_,F6_),(N7_,F7_),(N8_,F8_),(N9_,F9_),(N10_,F10_),(N11_,F11_),(N12_,F12_),(N13_,F13_),(N14_,F14_),(N15_,F15_),(N16_,F16_),(N17_,F17_),(N18_,F18_),(N19_,F19_),(N20_,F20_),(N21_,F21_),(N22_,F22_),(N23_,F23_),(N24_,F24_),(N25_,F25_),(N26_,F26_),(N27_,F27_),(N30_,F30_),(N31_,F31_),(N32_,F32_),(N33_,F33_),(N34_,F34_),(N35_,F35_),(N36_,F36_),(N37_,F37_),(N38_,F38_),(N39_,F39_),(N40_,F40_),(N41_,F41_),(N42_,F42_),(N43_,F43_),(N44_,F44_),(N45_,F45_),(N46_,F46_),(N47_,F47_),(N48_,F48_),(N49_,F49_),(N50_,F50_),(N51_,F51_),(N52_,F52_),(N53_,F53_),(N54_,F54_),(N55_,F55_),(N56_,F56_),(N57_,F57_),(N58_,F58_),(N59_,F59_),(N60_,F60_),(N62_,F62_),(N63_,F63_),(N64_,F64_),(N65_,F65_),(N66_,F66_),(N67_,F67_),(N68_,F68_),(N69_,F69_),(N70_,F70_),(N71_,F71_),(N72_,F72_),(N73_,F73_),(N74_,F74_),(N75_,F75_),(N77_,F77_),(N79_,F79_),(N80_,F80_),(N81_,F81_),(N82_,F82_)]
def fnOf (n:Nat):Option AFun:=(tab.find? fun x=>x.1 == n).map (·.2)
end Go.Sim.W
namespace Go.Sim.W
open Go Go.Sim
abbrev SL (sz:Nat) (xs:List AV):AV:=.slice .none sz xs
abbrev ints (l:List Int):AV:=SL 1 (l.map I)
structure Word where
 ref:Bool
 n:Int
deriving DecidableEq
def Word.cs (w:Word):List AV:=[B w.ref,I w.n]
def Word.enc (w:Word):AV:=.agg w.cs
def w0:Word:=⟨false,0⟩
structure Instr where
 op:Int
 a:Int
 b:Int
 c:Int
 n:Int
 regs:List Int
 to:List Int
def Instr.cs (x:Instr):List AV:=[I x.op,I x.a,I x.b,I x.c,I x.n,ints x.regs,ints x.to]
def Instr.enc (x:Instr):AV:=.agg x.cs
structure Code where
 params:Int
 ins:List Instr
 entries:List Int
def Code.cs (c:Code):List AV:=[I c.params,SL 7 (c.ins.map Instr.enc),ints c.entries]
structure Run where
 fin:Int
 val:Int
 outs:List Int
 steps:Int
theorem ereg_1 {c:Caller} {l:List AIns} {a:Nat} {k kl:List Nat} {E E1:Nat → Option TV} {L:Nat → Option (List AV)} {n:Nat} {v:Nat → Bool} {D:List (Nat × List AV)} {S:Sg} {Q:Ex → Fr → Prop}
 (h1:dropL a E=E1) (h:HL c l ⟨E1,upd L a none,n,v,D,S⟩ (KQ k kl Q)):EX c (.reg l [a] k kl) ⟨E,L,n,v,D,S⟩ Q:=by
 refine eregf ?_
 rw [← h1] at h
 exact h
def WL (sz:Nat) (v:AV) (n:Nat) (cs:List AV) (S:Sg):Prop :=
 cs.length=n * sz ∧ ((n=0 ∧ v=.slice .full sz []) ∨ ∃ g,v=.ms g 0 n sz ∧ S.mu g=some cs ∧ g < S.mn)
def tk:AV → List Nat
 | .ms g _ _ _=>[g]
 | _=>[]
def tks (l:List AV):List Nat:=l.flatMap tk
theorem WL.c1 {sz n:Nat} {v:AV} {cs:List AV} {S:Sg} (h:WL sz v n cs S):v.cells=[v]:=by
 rcases h.2 with ⟨_,rfl⟩ | ⟨g,rfl,_⟩ <;> rfl
theorem WL.erT {sz n:Nat} {v:AV} {cs:List AV} {S:Sg} (h:WL sz v n cs S):v.erT=v:=by
 rcases h.2 with ⟨_,rfl⟩ | ⟨g,rfl,_⟩ <;> rfl
theorem WL.tip {sz n:Nat} {v:AV} {cs:List AV} {S:Sg} (h:WL sz v n cs S) (t s:Nat) (xs:List AV):v ≠ .slice (.tip t) s xs:=by
 rcases h.2 with ⟨_,rfl⟩ | ⟨g,rfl,_⟩ <;> (intro e;cases e)
theorem WL.lt {sz n:Nat} {v:AV} {cs:List AV} {S:Sg} (h:WL sz v n cs S):∀ g ∈ tk v,g < S.mn:=by
 rcases h.2 with ⟨_,rfl⟩ | ⟨g,rfl,_,h⟩
 ·intro g hg;cases hg
 intro g' hg
 rw [List.mem_singleton.1 hg]
 exact h
theorem WL.mono {sz n:Nat} {v:AV} {cs:List AV} {S S':Sg} (h:WL sz v n cs S) (hm:∀ g ∈ tk v,S'.mu g=S.mu g) (hn:S.mn ≤ S'.mn):WL sz v n cs S':=by
 refine ⟨h.1,?_⟩
 rcases h.2 with h | ⟨g,rfl,h1,h2⟩
 ·exact .inl h
 exact .inr ⟨g,rfl,(hm g (by simp [tk])).trans h1,Nat.lt_of_lt_of_le h2 hn⟩
def own (X:List Nat) (S:Sg) (g:Nat):Prop:=∃ i ∈ X,∃ row,S.ob i=some (.row row) ∧ g ∈ tks row
structure KX (X:List Nat) (S S':Sg):Prop where
 nx:S.nx ≤ S'.nx
 mn:S.mn ≤ S'.mn
 gn:S.gn ≤ S'.gn
 gl:∀ g,g < S.gn → S'.gl g=S.gl g
 Q:S'.Q=S.Q
 ob:∀ i,i < S.nx → i ∉ X → S'.ob i=S.ob i
 mu:∀ g,g < S.mn → ¬ own X S g → S'.mu g=S.mu g
 own:∀ g,own X S' g → own X S g ∨ S.mn ≤ g
theorem KX.refl (X:List Nat) (S:Sg):KX X S S:=⟨Nat.le_refl _,Nat.le_refl _,Nat.le_refl _,fun _ _=>rfl,rfl,fun _ _ _=>rfl,fun _ _ _=>rfl,fun _ h=>.inl h⟩
theorem KX.trans {X:List Nat} {A B C:Sg} (h:KX X A B) (k:KX X B C):KX X A C:=by
 refine ⟨Nat.le_trans h.nx k.nx,Nat.le_trans h.mn k.mn,Nat.le_trans h.gn k.gn,fun g hg=>(k.gl g (Nat.lt_of_lt_of_le hg h.gn)).trans (h.gl g hg),k.Q.trans h.Q,
  fun i hi hx=>(k.ob i (Nat.lt_of_lt_of_le hi h.nx) hx).trans (h.ob i hi hx),fun g hg ho=>?_,fun g hg=>?_⟩
 ·refine (k.mu g (Nat.lt_of_lt_of_le hg h.mn) fun hb=>?_).trans (h.mu g hg ho)
  rcases h.own g hb with hb | hb
  ·exact ho hb
  omega
 rcases k.own g hg with hg | hg
 ·exact h.own g hg
 exact .inr (Nat.le_trans h.mn hg)
theorem KX.up {X Y:List Nat} {S S':Sg} (h:KX X S S') (hY:∀ i ∈ Y,i < S.nx) (hs:∀ i ∈ X,i ∈ Y):KX Y S S':=by
 refine ⟨h.nx,h.mn,h.gn,h.gl,h.Q,fun i hi hx=>h.ob i hi fun hx2=>hx (hs i hx2),fun g hg ho=>h.mu g hg fun ⟨i,hi,r⟩=>ho ⟨i,hs i hi,r⟩,fun g hg=>?_⟩
 obtain ⟨i,hi,row,h1,h2⟩:=hg
 by_cases hx:i ∈ X
 ·rcases h.own g ⟨i,hx,row,h1,h2⟩ with ⟨j,hj,r⟩ | h
  ·exact .inl ⟨j,hs j hj,r⟩
  exact .inr h
 rw [h.ob i (hY i hi) hx] at h1
 exact .inl ⟨i,hi,row,h1,h2⟩
end Go.Sim.W
namespace Go.Sim.W
open Go Go.Sim
def hasInt (q:Option AV):Bool :=
 match q with
 | some (.lit (.int .i64 _))=>true
 | _=>false
def containsOv (args:List AV) (s:Sg):Option (List AV × Sg) :=
 match args with
 | [.lit (.string a),.lit (.string b)]=>if a.size < 4294967281 ∧ hasInt (s.Q 0 0)=true then some ([.lit (.bool (Lib.contains a.data.toList b.data.toList))],s) else none
 | _=>none
def asciiB (f:ByteArray):Bool:=f.data.toList.all fun b=>decide (b.toNat < 128)
def hasB (f:ByteArray) (r:Int):Bool:=f.data.toList.any fun b=>decide ((b.toNat:Int)=r)
def hasOv (args:List AV) (s:Sg):Option (List AV × Sg) :=
 match args with
 | [.agg [.lit (.string nm),.lit (.string f)],.lit (.int .i32 r)]=>if asciiB f=true then some ([.lit (.bool (hasB f r))],s) else none
 | _=>none
def insertOv (args:List AV) (s:Sg):Option (List AV × Sg) :=
 match args with
 | [.ms g 0 len 2,.lit (.int .i64 0),.slice o 2 [w]]=>(s.mu g).bind fun cs=>if cs.length=len * 2 ∧ w.cells.length=2 ∧ (len + 1) * 16 ≤ 2 ^ 47 then
    some ([.ms s.mn 0 (len + 1) 2],{ s with mu:=upd (upd s.mu g none) s.mn (some (w.cells ++ cs)),mn:=s.mn + 1 }) else none
 | _=>none
def ov (n:Nat):Option (List AV → Sg → Option (List AV × Sg)) :=
 if n=N78_ then some containsOv else if n=N61_ then some hasOv else if n=N28_ then some (cloneOv 1 8) else if n=N29_ then some (cloneOv 2 16)
 else if n=N76_ then some insertOv else none
def p:Pg:=⟨fnOf,ov⟩
theorem f4_:p.fn N4_=some F4_:=rfl
theorem f5_:p.fn N5_=some F5_:=rfl
theorem f6_:p.fn N6_=some F6_:=rfl
theorem f7_:p.fn N7_=some F7_:=rfl
theorem f8_:p.fn N8_=some F8_:=rfl
theorem f9_:p.fn N9_=some F9_:=rfl
theorem f10_:p.fn N10_=some F10_:=rfl
theorem f11_:p.fn N11_=some F11_:=rfl
theorem f12_:p.fn N12_=some F12_:=rfl
theorem f13_:p.fn N13_=some F13_:=rfl
theorem f14_:p.fn N14_=some F14_:=rfl
theorem f15_:p.fn N15_=some F15_:=rfl
theorem f16_:p.fn N16_=some F16_:=rfl
theorem f17_:p.fn N17_=some F17_:=rfl
theorem f18_:p.fn N18_=some F18_:=rfl
theorem f19_:p.fn N19_=some F19_:=rfl
theorem f20_:p.fn N20_=some F20_:=rfl
theorem f21_:p.fn N21_=some F21_:=rfl
theorem f22_:p.fn N22_=some F22_:=rfl
theorem f23_:p.fn N23_=some F23_:=rfl
theorem f24_:p.fn N24_=some F24_:=rfl
theorem f25_:p.fn N25_=some F25_:=rfl
theorem f26_:p.fn N26_=some F26_:=rfl
theorem f27_:p.fn N27_=some F27_:=rfl
theorem f30_:p.fn N30_=some F30_:=rfl
theorem f31_:p.fn N31_=some F31_:=rfl
theorem f32_:p.fn N32_=some F32_:=rfl
theorem f33_:p.fn N33_=some F33_:=rfl
theorem f34_:p.fn N34_=some F34_:=rfl
theorem f35_:p.fn N35_=some F35_:=rfl
theorem f36_:p.fn N36_=some F36_:=rfl
theorem f37_:p.fn N37_=some F37_:=rfl
theorem f38_:p.fn N38_=some F38_:=rfl
theorem f39_:p.fn N39_=some F39_:=rfl
theorem f40_:p.fn N40_=some F40_:=rfl
theorem f41_:p.fn N41_=some F41_:=rfl
theorem f42_:p.fn N42_=some F42_:=rfl
theorem f43_:p.fn N43_=some F43_:=rfl
theorem f44_:p.fn N44_=some F44_:=rfl
theorem f45_:p.fn N45_=some F45_:=rfl
theorem f46_:p.fn N46_=some F46_:=rfl
theorem f47_:p.fn N47_=some F47_:=rfl
theorem f48_:p.fn N48_=some F48_:=rfl
theorem f49_:p.fn N49_=some F49_:=rfl
theorem f50_:p.fn N50_=some F50_:=rfl
theorem f51_:p.fn N51_=some F51_:=rfl
theorem f52_:p.fn N52_=some F52_:=rfl
theorem f53_:p.fn N53_=some F53_:=rfl
theorem f54_:p.fn N54_=some F54_:=rfl
theorem f55_:p.fn N55_=some F55_:=rfl
theorem f56_:p.fn N56_=some F56_:=rfl
theorem f57_:p.fn N57_=some F57_:=rfl
theorem f58_:p.fn N58_=some F58_:=rfl
theorem f59_:p.fn N59_=some F59_:=rfl
theorem f60_:p.fn N60_=some F60_:=rfl
theorem f62_:p.fn N62_=some F62_:=rfl
theorem f63_:p.fn N63_=some F63_:=rfl
theorem f64_:p.fn N64_=some F64_:=rfl
theorem f65_:p.fn N65_=some F65_:=rfl
theorem f66_:p.fn N66_=some F66_:=rfl
theorem f67_:p.fn N67_=some F67_:=rfl
theorem f68_:p.fn N68_=some F68_:=rfl
theorem f69_:p.fn N69_=some F69_:=rfl
theorem f70_:p.fn N70_=some F70_:=rfl
theorem f71_:p.fn N71_=some F71_:=rfl
theorem f72_:p.fn N72_=some F72_:=rfl
theorem f73_:p.fn N73_=some F73_:=rfl
theorem f74_:p.fn N74_=some F74_:=rfl
theorem f75_:p.fn N75_=some F75_:=rfl
theorem f77_:p.fn N77_=some F77_:=rfl
theorem f79_:p.fn N79_=some F79_:=rfl
theorem f80_:p.fn N80_=some F80_:=rfl
theorem f81_:p.fn N81_=some F81_:=rfl
theorem f82_:p.fn N82_=some F82_:=rfl
end Go.Sim.W
