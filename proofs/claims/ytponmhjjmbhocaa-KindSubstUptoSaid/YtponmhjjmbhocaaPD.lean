/-
  A part of a proof: see the last text of this claim.
-/
import Derived.Test.YtponmhjjmbhocaaPC
import Derived.Lib.IndexMore
set_option linter.unusedVariables false
set_option linter.unusedSimpArgs false
namespace Go.Sim.Kd
open Go Go.Sim
def R (l:List AIns) (k kl:List Nat):AC:=.reg l [] k kl
abbrev Z0:List AV:=[.lit (.string ⟨#[]⟩),.slice .full 2 [],.slice .full 1 [],.lit (.int .i64 0),.lit (.int .i64 0),.lit (.int .i64 0),.slice .full 5 [],.slice .full 7 []]
abbrev Z1:List AV:=[.slice .full 1 [],.slice .full 1 [],.lit (.int .i64 0),.lit (.int .i64 0),.lit (.int .i64 0),.slice .full 5 [],.slice .full 7 []]
abbrev Z2:List AV:=[.lit (.int .i64 0),.lit (.int .i64 0),.lit (.int .i64 0),.slice .full 5 [],.slice .full 7 []]
abbrev Z3:List AV:=[.lit (.string ⟨#[]⟩),.slice .full 2 []]
abbrev Z4:List AV:=[.lit (.int .i64 0),.lit (.bool false)]
abbrev Z5:List AV:=[.lit (.int .i64 0),.lit (.int .i64 0)]
abbrev Z6:List AV:=[.slice .full 3 [],.slice .full 8 []]
abbrev Z7:List AV:=[.lit (.map none),.lit (.map none)]
def ii (n:Nat) (o:AOp):AIns:=⟨some n,none,o⟩
def it (n g:Nat) (o:AOp):AIns:=⟨some n,some (g,true),o⟩
def iF (n g:Nat) (o:AOp):AIns:=⟨some n,some (g,false),o⟩
def cl (f:Nat) (l:List Nat):AOp:=.call (.f f) (l.map .t)
def jm (d:Nat) (a:Nat):AIns:=⟨some d,none,.mv (.t a)⟩
def jtm (d:Nat) (g:Nat) (a:Nat):AIns:=⟨some d,some (g,true),.mv (.t a)⟩
def jfm (d:Nat) (g:Nat) (a:Nat):AIns:=⟨some d,some (g,false),.mv (.t a)⟩
def ja (d:Nat) (k:Nat) (a:Nat):AIns:=⟨some d,none,.fa k (.t a)⟩
def jta (d:Nat) (g:Nat) (k:Nat) (a:Nat):AIns:=⟨some d,some (g,true),.fa k (.t a)⟩
def jfa (d:Nat) (g:Nat) (k:Nat) (a:Nat):AIns:=⟨some d,some (g,false),.fa k (.t a)⟩
def jl (d:Nat) (a:Nat):AIns:=⟨some d,none,.ld false none (.t a)⟩
def jtl (d:Nat) (g:Nat) (a:Nat):AIns:=⟨some d,some (g,true),.ld false none (.t a)⟩
def jfl (d:Nat) (g:Nat) (a:Nat):AIns:=⟨some d,some (g,false),.ld false none (.t a)⟩
def jL (d:Nat) (a:Nat):AIns:=⟨some d,none,.ld true none (.t a)⟩
def jtL (d:Nat) (g:Nat) (a:Nat):AIns:=⟨some d,some (g,true),.ld true none (.t a)⟩
def jfL (d:Nat) (g:Nat) (a:Nat):AIns:=⟨some d,some (g,false),.ld true none (.t a)⟩
def jk (d:Nat) (k:Nat) (a:Nat):AIns:=⟨some d,none,.ld false (some k) (.t a)⟩
def jtk (d:Nat) (g:Nat) (k:Nat) (a:Nat):AIns:=⟨some d,some (g,true),.ld false (some k) (.t a)⟩
def jfk (d:Nat) (g:Nat) (k:Nat) (a:Nat):AIns:=⟨some d,some (g,false),.ld false (some k) (.t a)⟩
def jK (d:Nat) (k:Nat) (a:Nat):AIns:=⟨some d,none,.ld true (some k) (.t a)⟩
def jc (d:Nat) (k:Int):AIns:=⟨some d,none,.mv (.c (.lit (.int .i64 k)))⟩
def jf_ (d:Nat):AIns:=⟨some d,none,.mv (.c (.lit (.bool false)))⟩
def jp (d:Nat) (a:Nat) (b:Nat):AIns:=⟨some d,none,.pick (.t a) (.t b) (.c (.lit (.bool false)))⟩
def jfp (d:Nat) (g:Nat) (a:Nat) (b:Nat):AIns:=⟨some d,some (g,false),.pick (.t a) (.t b) (.c (.lit (.bool false)))⟩
def jP (d:Nat) (a:Nat) (b:Nat):AIns:=⟨some d,none,.pick (.t a) (.c (.lit (.bool true))) (.t b)⟩
def jtP (d:Nat) (g:Nat) (a:Nat) (b:Nat):AIns:=⟨some d,some (g,true),.pick (.t a) (.c (.lit (.bool true))) (.t b)⟩
def jA (d:Nat) (a:Nat) (k:Int):AIns:=⟨some d,none,.bin .add (.t a) (.c (.lit (.int .i64 k)))⟩
def jtA (d:Nat) (g:Nat) (a:Nat) (k:Int):AIns:=⟨some d,some (g,true),.bin .add (.t a) (.c (.lit (.int .i64 k)))⟩
def jfA (d:Nat) (g:Nat) (a:Nat) (k:Int):AIns:=⟨some d,some (g,false),.bin .add (.t a) (.c (.lit (.int .i64 k)))⟩
def je (d:Nat) (a:Nat) (k:Int):AIns:=⟨some d,none,.bin .eql (.t a) (.c (.lit (.int .i64 k)))⟩
def jte (d:Nat) (g:Nat) (a:Nat) (k:Int):AIns:=⟨some d,some (g,true),.bin .eql (.t a) (.c (.lit (.int .i64 k)))⟩
def jfe (d:Nat) (g:Nat) (a:Nat) (k:Int):AIns:=⟨some d,some (g,false),.bin .eql (.t a) (.c (.lit (.int .i64 k)))⟩
def jq (d:Nat) (a:Nat) (b:Nat):AIns:=⟨some d,none,.bin .lss (.t a) (.t b)⟩
def jtq (d:Nat) (g:Nat) (a:Nat) (b:Nat):AIns:=⟨some d,some (g,true),.bin .lss (.t a) (.t b)⟩
def jx (d:Nat) (k:Nat) (a:Nat) (b:Nat):AIns:=⟨some d,none,.ia k (.t a) (.t b)⟩
def jtx (d:Nat) (g:Nat) (k:Nat) (a:Nat) (b:Nat):AIns:=⟨some d,some (g,true),.ia k (.t a) (.t b)⟩
def jfx (d:Nat) (g:Nat) (k:Nat) (a:Nat) (b:Nat):AIns:=⟨some d,some (g,false),.ia k (.t a) (.t b)⟩
def jg (d:Nat) (a:Nat):AIns:=⟨some d,none,.len false (.t a)⟩
def jtg (d:Nat) (g:Nat) (a:Nat):AIns:=⟨some d,some (g,true),.len false (.t a)⟩
def jfg (d:Nat) (g:Nat) (a:Nat):AIns:=⟨some d,some (g,false),.len false (.t a)⟩
def jh (d:Nat) (a:Nat):AIns:=⟨some d,none,.nck (.t a)⟩
def jth (d:Nat) (g:Nat) (a:Nat):AIns:=⟨some d,some (g,true),.nck (.t a)⟩
def jfh (d:Nat) (g:Nat) (a:Nat):AIns:=⟨some d,some (g,false),.nck (.t a)⟩
def ju (d:Nat) (a:Nat):AIns:=⟨some d,none,.unot (.t a)⟩
def jtu (d:Nat) (g:Nat) (a:Nat):AIns:=⟨some d,some (g,true),.unot (.t a)⟩
def jfu (d:Nat) (g:Nat) (a:Nat):AIns:=⟨some d,some (g,false),.unot (.t a)⟩
def jb (d:Nat) (a:Nat):AIns:=⟨some d,none,.box true (.t a)⟩
def jz (d:Nat) (a:Nat) (k:Nat):AIns:=⟨some d,none,.ext (.t a) k⟩
def jns (k:Nat) (a:Nat) (b:Nat):AIns:=⟨none,none,.st false k (.t a) (.t b)⟩
def jnS (k:Nat) (a:Nat) (b:Nat):AIns:=⟨none,none,.st true k (.t a) (.t b)⟩
def jB (d:Nat) (k:Nat) (a:Nat):AIns:=⟨some d,none,.bsl k [.t a]⟩
def N3_:Nat:=3
def N4_:Nat:=4
def N5_:Nat:=5
def N6_:Nat:=6
def N7_:Nat:=7
def N8_:Nat:=8
def N9_:Nat:=9
def N10_:Nat:=10
def N11_:Nat:=11
def N12_:Nat:=12
def N13_:Nat:=13
def N14_:Nat:=14
def N15_:Nat:=15
def N16_:Nat:=16
def N17_:Nat:=17
def N18_:Nat:=18
def N19_:Nat:=19
def N20_:Nat:=20
def N21_:Nat:=21
def N22_:Nat:=22
def N23_:Nat:=23
def N24_:Nat:=24
def N25_:Nat:=25
def N26_:Nat:=26
def N27_:Nat:=27
def N28_:Nat:=28
def N29_:Nat:=29
def N30_:Nat:=30
def N31_:Nat:=31
def N32_:Nat:=32
def N33_:Nat:=33
def N34_:Nat:=34
def N35_:Nat:=35
def N36_:Nat:=36
def N37_:Nat:=37
def N38_:Nat:=38
def N39_:Nat:=39
def N40_:Nat:=40
def N41_:Nat:=41
def N42_:Nat:=42
def N43_:Nat:=43
def N44_:Nat:=44
def N45_:Nat:=45
def N46_:Nat:=46
def N47_:Nat:=47
def N48_:Nat:=48
def N49_:Nat:=49
def N50_:Nat:=50
def N51_:Nat:=51
def N52_:Nat:=52
def N53_:Nat:=53
def N54_:Nat:=54
def N55_:Nat:=55
def N56_:Nat:=56
def N57_:Nat:=57
def N58_:Nat:=58
def N59_:Nat:=59
def N60_:Nat:=60
def N61_:Nat:=61
def N62_:Nat:=62
def N63_:Nat:=63
def N64_:Nat:=64
def N65_:Nat:=65
def N66_:Nat:=66
def N67_:Nat:=67
def N69_:Nat:=69
def N70_:Nat:=70
def N71_:Nat:=71
def N72_:Nat:=72
def N73_:Nat:=73
def N74_:Nat:=74
def N75_:Nat:=75
def N76_:Nat:=76
def F3_r0:List AIns:=[jb 7 0,jb 10 3,jb 11 4,jb 13 6,jf_ 14]
def F3_r1:List AIns:=[jk 32 2 7,ii 33 (.call (.f N4_) [(.t 32),(.c (.lit (.int .i64 3000)))]),ju 34 33,jm 35 34,jfk 36 35 5 11,iF 37 35 (.call (.f N5_) [(.t 36),(.c (.lit (.int .i64 1000)))]),jfu 38 35 37,jP 39 35 38,jm 40 39,jfk 41 40 5 13,iF 42 40 (.call (.f N5_) [(.t 41),(.c (.lit (.int .i64 1000)))]),jfu 43 40 42,jP 44 40 43]
def F3_r2:List AIns:=[ii 45 (cl N6_ []),jm 14 45]
def F3_r3:List AIns:=[jk 47 2 7,jm 48 1,jm 49 2,jk 50 2 10,jk 51 5 11,ii 52 (cl N7_ [47,48,49,50,51]),jm 46 52,jz 53 46 0,jz 54 46 1,jm 15 53,jm 16 54]
def F3_r4:List AIns:=[jk 56 2 7,jm 57 1,jm 58 2,jk 59 2 10,jk 60 5 13,ii 61 (cl N7_ [56,57,58,59,60]),jm 55 61,jz 62 55 0,jz 63 55 1,jm 17 62,jm 18 63]
def F3_r5:List AIns:=[jm 64 16,ii 65 (.bin .neq (.t 64) (.c (.lit (.int .i64 0)))),jm 66 65,jfm 67 66 18,iF 68 66 (.bin .neq (.t 67) (.c (.lit (.int .i64 0)))),jP 69 66 68]
def F3_r6:List AIns:=[ii 70 (cl N6_ []),jm 14 70]
def F3_r7:List AIns:=[jm 71 1,ii 72 (.iaa 2 1 (.t 10) (.c (.lit (.int .i64 0)))),jl 73 72,jm 74 5,jB 75 1 74,jk 76 5 13,jB 77 5 76,jm 19 71,jm 20 73,jm 21 75,jm 22 77,ii 23 (.mv (.c (.slice .full 1 []))),ii 24 (.mv (.c (.slice .full 5 [])))]
def F3_r8:List AIns:=[ja 78 0 13,jl 79 78,ii 80 (cl N8_ [79])]
def F3_r9:List AIns:=[je 82 80 3,jm 81 82]
def F3_r10:List AIns:=[ii 83 (cl N6_ []),jm 14 83]
def F3_r11:List AIns:=[je 85 80 2,jm 84 85]
def F3_r12:List AIns:=[jm 86 2,ii 87 (.iaa 2 1 (.t 10) (.c (.lit (.int .i64 1)))),jl 88 87,jm 89 5,jB 90 1 89,jk 91 5 13,jB 92 5 91,jm 19 86,jm 20 88,ii 21 (.mv (.c (.slice .full 1 []))),ii 22 (.mv (.c (.slice .full 5 []))),jm 23 90,jm 24 92]
def F3_r13:List AIns:=[ii 25 (.mv (.c (.lit (.int .i64 (-1)))))]
def F3_r14:List AIns:=[jm 93 19,jg 94 93,jc 95 0]
def F3_r15:List AIns:=[jq 96 95 94]
def F3_r16:List AIns:=[jm 97 95,jx 98 1 93 95,jl 99 98,jm 26 97,jm 27 99]
def F3_r17:List AIns:=[jm 100 27,jm 101 5,ii 102 (.bin .eql (.t 100) (.t 101))]
def F3_r18:List AIns:=[jm 103 20,jm 104 26,jx 105 1 103 104,jl 106 105,jm 25 106]
def F3_r19:List AIns:=[jA 107 95 1,jm 95 107]
def F3_l1:AC:=.seq (R F3_r15 [1,2,5,7,10,11,15,17,20,21,22,23,24,25,93,94,95,96] [7,10,11]) (.seq (.cond (.t 96) (.skip) (.exit 1)) (.seq (.block 2 (.seq (R F3_r16 [1,2,5,7,10,11,15,17,20,21,22,23,24,25,26,27,93,94,95] [7,10,11]) (.seq (R F3_r17 [1,2,5,7,10,11,15,17,20,21,22,23,24,25,26,93,94,95,102] [7,10,11]) (.cond (.t 102) (R F3_r18 [1,2,5,7,10,11,15,17,20,21,22,23,24,25,93,94,95] [7,10,11]) (.skip))))) (R F3_r19 [1,2,5,7,10,11,15,17,20,21,22,23,24,25,93,94,95] [7,10,11])))
def F3_r20:List AIns:=[jk 109 5 11,jm 110 21,jm 111 22,jm 112 23,jm 113 24,ii 114 (cl N9_ [109,110,111,112,113]),jm 108 114,jz 115 108 0,jz 116 108 1,ii 28 (.alloc true Z2),jns 5 28 115,jm 16 116]
def F3_r21:List AIns:=[jm 117 16,ii 118 (.bin .neq (.t 117) (.c (.lit (.int .i64 0)))),jm 119 118,jfm 120 119 25,jfm 121 119 17,iF 122 119 (.bin .neq (.t 120) (.t 121)),jP 123 119 122]
def F3_r22:List AIns:=[ii 124 (cl N6_ []),jm 14 124]
def F3_r23:List AIns:=[jk 126 5 28,ii 127 (cl N10_ [126]),jm 125 127,jz 128 125 0,jz 129 125 1,jm 29 128,jm 30 129]
def F3_r24:List AIns:=[jm 130 29,ii 131 (.bin .gtr (.t 130) (.c (.lit (.int .i64 30000)))),jm 132 131,jfm 133 132 30,iF 134 132 (.bin .gtr (.t 133) (.c (.lit (.int .i64 4000)))),jP 135 132 134]
def F3_r25:List AIns:=[ii 136 (cl N6_ []),jm 14 136]
def F3_r26:List AIns:=[jk 138 2 7,jm 139 1,jm 140 2,jk 141 2 10,jk 142 5 28,ii 143 (cl N7_ [138,139,140,141,142]),jm 137 143,jz 144 137 0,jz 145 137 1,jm 31 144,jm 16 145]
def F3_r27:List AIns:=[jm 146 16,je 147 146 0,jm 148 147,jtm 149 148 31,jtm 150 148 15,it 151 148 (.bin .eql (.t 149) (.t 150)),jp 152 148 151,jm 153 152,it 154 153 (cl N6_ []),jp 155 153 154,jm 14 155]
def F3_:AFun:=⟨7,.seq (R F3_r0 [1,2,5,7,10,11,13] [7,10,11,13]) (.seq (.seq (R F3_r1 [1,2,5,7,10,11,13,44] [7,10,11,13]) (.cond (.t 44) (.seq (R F3_r2 [14] []) (.ret)) (.skip))) (.seq (R F3_r3 [1,2,5,7,10,11,13,15,16] [7,10,11,13]) (.seq (R F3_r4 [1,2,5,7,10,11,13,15,16,17,18] [7,10,11,13]) (.seq (.seq (R F3_r5 [1,2,5,7,10,11,13,15,17,69] [7,10,11,13]) (.cond (.t 69) (.seq (R F3_r6 [14] []) (.ret)) (.skip))) (.seq (R F3_r7 [1,2,5,7,10,11,13,15,17,19,20,21,22,23,24] [7,10,11,13]) (.seq (.seq (R F3_r8 [1,2,5,7,10,11,13,15,17,19,20,21,22,23,24,80] [7,10,11,13]) (.block 0 (.seq (R F3_r9 [1,2,5,7,10,11,13,15,17,19,20,21,22,23,24,80,81] [7,10,11,13]) (.cond (.t 81) (.seq (R F3_r10 [14] []) (.ret)) (.seq (R F3_r11 [1,2,5,7,10,11,13,15,17,19,20,21,22,23,24,84] [7,10,11,13]) (.cond (.t 84) (R F3_r12 [1,2,5,7,10,11,15,17,19,20,21,22,23,24] [7,10,11]) (.skip))))))) (.seq (R F3_r13 [1,2,5,7,10,11,15,17,19,20,21,22,23,24,25] [7,10,11]) (.seq (.seq (R F3_r14 [1,2,5,7,10,11,15,17,20,21,22,23,24,25,93,94,95] [7,10,11]) (.block 1 (.loop F3_l1))) (.seq (R F3_r20 [1,2,7,10,15,16,17,25,28] [7,10,28]) (.seq (.seq (R F3_r21 [1,2,7,10,15,28,123] [7,10,28]) (.cond (.t 123) (.seq (R F3_r22 [14] []) (.ret)) (.skip))) (.seq (.seq (R F3_r23 [1,2,7,10,15,28,29,30] [7,10,28]) (.seq (R F3_r24 [1,2,7,10,15,28,135] [7,10,28]) (.cond (.t 135) (.seq (R F3_r25 [14] []) (.ret)) (.skip)))) (.seq (R F3_r26 [15,16,31] []) (.seq (R F3_r27 [14] []) (.ret)))))))))))))),[.t 14]⟩
def F4_r0:List AIns:=[jb 2 0,jf_ 4]
def F4_r1:List AIns:=[ja 7 0 2,jl 8 7,jg 9 8,ii 10 (.bin .gtr (.t 9) (.c (.lit (.int .i64 40)))),jm 11 10,jfa 12 11 1 2,jfl 13 11 12,jfg 14 11 13,iF 15 11 (.bin .gtr (.t 14) (.c (.lit (.int .i64 40)))),jP 16 11 15]
def F4_r2:List AIns:=[jf_ 4]
def F4_r3:List AIns:=[ja 17 1 2,jl 18 17,jg 19 18,jc 20 0]
def F4_r4:List AIns:=[jq 21 20 19]
def F4_r5:List AIns:=[jx 22 8 18 20,jk 23 8 22,ii 6 (.alloc true Z0),jns 8 6 23]
def F4_r6:List AIns:=[ja 24 3 6,jk 25 5 24,jm 26 1,ii 27 (cl N5_ [25,26]),ju 28 27]
def F4_r7:List AIns:=[jf_ 4]
def F4_r8:List AIns:=[jA 29 20 1,jm 20 29]
def F4_l1:AC:=.seq (R F4_r4 [1,18,19,20,21] []) (.seq (.cond (.t 21) (.skip) (.exit 0)) (.seq (.block 1 (.seq (R F4_r5 [1,6,18,19,20] [6]) (.seq (R F4_r6 [1,18,19,20,28] []) (.cond (.t 28) (.seq (R F4_r7 [4] []) (.ret)) (.skip))))) (R F4_r8 [1,18,19,20] [])))
def F4_r9:List AIns:=[ii 4 (.mv (.c (.lit (.bool true))))]
def F4_:AFun:=⟨2,.seq (R F4_r0 [1,2] [2]) (.seq (.seq (R F4_r1 [1,2,16] [2]) (.cond (.t 16) (.seq (R F4_r2 [4] []) (.ret)) (.skip))) (.seq (.seq (R F4_r3 [1,18,19,20] []) (.block 0 (.loop F4_l1))) (.seq (R F4_r9 [4] []) (.ret)))),[.t 4]⟩
def F5_r0:List AIns:=[jb 2 0,jf_ 4]
def F5_r1:List AIns:=[jk 5 5 2,jm 6 1,jA 7 6 1,ii 8 (cl N11_ [5,7]),ii 9 (.bin .gtr (.t 8) (.c (.lit (.int .i64 0)))),jm 4 9]
def F5_:AFun:=⟨2,.seq (R F5_r0 [1,2] [2]) (.seq (R F5_r1 [4] []) (.ret)),[.t 4]⟩
def F6_r0:List AIns:=[jf_ 0]
def F6_r1:List AIns:=[ii 7 (.build Z3 [(0,1,(.c (.lit (.string ⟨#[78,105,108]⟩))))]),jB 8 2 7,ii 9 (.build [.lit (.string ⟨#[]⟩),.lit (.bool false),.slice .full 2 []] [(0,1,(.c (.lit (.string ⟨#[108,105,115,116]⟩)))),(2,1,(.t 8))]),jB 10 3 9,ii 1 (.alloc false [.slice .full 3 []]),jnS 1 1 10]
def F6_r2:List AIns:=[ii 11 (.build Z2 [(0,1,(.c (.lit (.int .i64 0))))]),jB 12 5 11,ii 13 (.build Z2 [(0,1,(.c (.lit (.int .i64 14)))),(3,1,(.t 12))]),jB 14 5 13,ii 15 (.build Z2 [(0,1,(.c (.lit (.int .i64 7)))),(3,1,(.t 14))]),ii 2 (.alloc false Z2),jnS 5 2 15]
def F6_r3:List AIns:=[ii 16 (.mkf N12_ [] [(.t 1),(.t 2)]),jm 3 16]
def F6_r4:List AIns:=[jm 17 3,ii 18 (.build Z2 [(0,1,(.c (.lit (.int .i64 1)))),(1,1,(.c (.lit (.int .i64 3))))]),ii 19 (.call (.t 17) [(.t 18)]),ii 4 (.alloc true Z6),jns 2 4 19]
def F6_r5:List AIns:=[jk 21 2 4,ii 22 (.bsl 1 [(.c (.lit (.int .i64 4))),(.c (.lit (.int .i64 4)))]),ii 23 (.bsl 1 [(.c (.lit (.int .i64 0))),(.c (.lit (.int .i64 1)))]),ii 24 (.build [.slice .full 1 [],.slice .full 1 []] [(0,1,(.t 23)),(1,1,(.c (.slice .full 1 [])))]),ii 25 (.build Z2 [(0,1,(.c (.lit (.int .i64 0)))),(1,1,(.c (.lit (.int .i64 4))))]),ii 26 (.call (.f N7_) [(.t 21),(.t 22),(.c (.slice .full 1 [])),(.t 24),(.t 25)]),jm 20 26,jz 27 20 0,jz 28 20 1,jm 5 27,jm 6 28]
def F6_r6:List AIns:=[jk 29 2 4,ii 30 (cl N13_ [29]),je 31 30 0,jm 32 31,jtm 33 32 3,it 34 32 (.build Z2 [(0,1,(.c (.lit (.int .i64 2)))),(2,1,(.c (.lit (.int .i64 1))))]),it 35 32 (.call (.t 33) [(.t 34)]),it 36 32 (cl N13_ [35]),jte 37 32 36 70,jp 38 32 37,jm 39 38,jtm 40 39 5,jte 41 39 40 1,jp 42 39 41,jm 43 42,jtm 44 43 6,jte 45 43 44 0,jp 46 43 45,jm 0 46]
def F6_:AFun:=⟨0,.seq (R F6_r0 [] []) (.seq (R F6_r1 [1] []) (.seq (R F6_r2 [1,2] []) (.seq (R F6_r3 [3] []) (.seq (R F6_r4 [3,4] [4]) (.seq (R F6_r5 [3,4,5,6] [4]) (.seq (R F6_r6 [0] []) (.ret))))))),[.t 0]⟩
def F7_r0:List AIns:=[jb 5 0,jb 8 3,jb 9 4,jc 10 0,jc 11 0]
def F7_r1:List AIns:=[jk 19 2 5,ii 20 (cl N14_ [19]),ju 21 20]
def F7_r2:List AIns:=[jc 10 0,jc 11 60]
def F7_r3:List AIns:=[jk 22 2 5,ii 23 (cl N15_ [22]),jm 12 23]
def F7_r4:List AIns:=[jm 24 1,jm 25 2,ii 26 (.bsl 1 [(.t 24),(.t 25)]),jg 27 26,jc 28 0]
def F7_r5:List AIns:=[jq 29 28 27]
def F7_r6:List AIns:=[jm 30 28,jx 31 1 26 28,jl 32 31,jm 13 30,jm 14 32]
def F7_r7:List AIns:=[jm 33 14,jg 34 33,jm 35 13,ii 36 (.iaa 2 1 (.t 8) (.t 35)),jl 37 36,jg 38 37,ii 39 (.bin .neq (.t 34) (.t 38))]
def F7_r8:List AIns:=[jc 10 0,jc 11 1]
def F7_r9:List AIns:=[jm 40 14,jg 41 40,jc 42 0]
def F7_r10:List AIns:=[jq 43 42 41]
def F7_r11:List AIns:=[jm 44 42,jx 45 1 40 42,jl 46 45,jm 15 44,jm 16 46]
def F7_r12:List AIns:=[jm 47 13,ii 48 (.iaa 2 1 (.t 8) (.t 47)),jl 49 48,jm 50 15,jx 51 1 49 50,jl 52 51,ii 53 (.bin .lss (.t 52) (.c (.lit (.int .i64 0)))),jm 54 53,jfm 55 54 13,iF 56 54 (.iaa 2 1 (.t 8) (.t 55)),jfl 57 54 56,jfm 58 54 15,jfx 59 54 1 57 58,jfl 60 54 59,jfa 61 54 0 5,jfl 62 54 61,jfg 63 54 62,iF 64 54 (.bin .gtr (.t 60) (.t 63)),jP 65 54 64]
def F7_r13:List AIns:=[jc 10 0,jc 11 1]
def F7_r14:List AIns:=[jm 66 12,jm 67 13,jh 68 66,ja 69 2 68,ii 70 (.iaa 2 1 (.t 69) (.t 67)),jL 71 70,jm 72 16,jm 73 13,ii 74 (.iaa 2 1 (.t 8) (.t 73)),jl 75 74,jm 76 15,jx 77 1 75 76,jl 78 77,⟨none,none,.mu (.int .i64) (.t 71) (.t 72) (.t 78)⟩]
def F7_r15:List AIns:=[jA 79 42 1,jm 42 79]
def F7_l2:AC:=.seq (R F7_r10 [1,2,5,8,9,12,13,26,27,28,40,41,42,43] [5,8,9]) (.seq (.cond (.t 43) (.skip) (.exit 2)) (.seq (.block 3 (.seq (R F7_r11 [1,2,5,8,9,12,13,15,16,26,27,28,40,41,42] [5,8,9]) (.seq (.seq (R F7_r12 [1,2,5,8,9,12,13,15,16,26,27,28,40,41,42,65] [5,8,9]) (.cond (.t 65) (.seq (R F7_r13 [10,11] []) (.ret)) (.skip))) (R F7_r14 [1,2,5,8,9,12,13,26,27,28,40,41,42] [5,8,9])))) (R F7_r15 [1,2,5,8,9,12,13,26,27,28,40,41,42] [5,8,9])))
def F7_r16:List AIns:=[jA 80 28 1,jm 28 80]
def F7_l1:AC:=.seq (R F7_r5 [1,2,5,8,9,12,26,27,28,29] [5,8,9]) (.seq (.cond (.t 29) (.skip) (.exit 0)) (.seq (.block 1 (.seq (R F7_r6 [1,2,5,8,9,12,13,14,26,27,28] [5,8,9]) (.seq (.seq (R F7_r7 [1,2,5,8,9,12,13,14,26,27,28,39] [5,8,9]) (.cond (.t 39) (.seq (R F7_r8 [10,11] []) (.ret)) (.skip))) (.seq (R F7_r9 [1,2,5,8,9,12,13,26,27,28,40,41,42] [5,8,9]) (.block 2 (.loop F7_l2)))))) (R F7_r16 [1,2,5,8,9,12,26,27,28] [5,8,9])))
def F7_r17:List AIns:=[ja 81 0 9,jl 82 81,ii 83 (cl N16_ [82]),ii 84 (.bin .lss (.t 83) (.c (.lit (.int .i64 0)))),jm 85 84,jfk 86 85 2 5,jfm 87 85 1,jfm 88 85 2,jfk 89 85 5 9,iF 90 85 (cl N17_ [86,87,88,89]),jfu 91 85 90,jP 92 85 91]
def F7_r18:List AIns:=[jc 10 0,jc 11 1]
def F7_r19:List AIns:=[jm 94 12,jk 95 5 9,ii 96 (cl N18_ [94,95]),jm 93 96,jz 97 93 0,jz 98 93 1,jm 17 97,jm 18 98]
def F7_r20:List AIns:=[jm 99 18,ju 100 99]
def F7_r21:List AIns:=[jc 10 0,jc 11 70]
def F7_r22:List AIns:=[jm 101 17,jm 10 101,jc 11 0]
def F7_:AFun:=⟨5,.seq (R F7_r0 [1,2,5,8,9] [5,8,9]) (.seq (.seq (R F7_r1 [1,2,5,8,9,21] [5,8,9]) (.cond (.t 21) (.seq (R F7_r2 [10,11] []) (.ret)) (.skip))) (.seq (R F7_r3 [1,2,5,8,9,12] [5,8,9]) (.seq (.seq (R F7_r4 [1,2,5,8,9,12,26,27,28] [5,8,9]) (.block 0 (.loop F7_l1))) (.seq (.seq (R F7_r17 [9,12,92] [9]) (.cond (.t 92) (.seq (R F7_r18 [10,11] []) (.ret)) (.skip))) (.seq (R F7_r19 [17,18] []) (.seq (.seq (R F7_r20 [17,100] []) (.cond (.t 100) (.seq (R F7_r21 [10,11] []) (.ret)) (.skip))) (.seq (R F7_r22 [10,11] []) (.ret)))))))),[.t 10,.t 11]⟩
def F8_r0:List AIns:=[jc 2 0]
def F8_r1:List AIns:=[jm 4 0,ii 5 (.bin .geq (.t 4) (.c (.lit (.int .i64 0)))),jm 6 5,jtm 7 6 0,it 8 6 (.bin .leq (.t 7) (.c (.lit (.int .i64 4)))),jp 9 6 8,jm 3 9]
def F8_r2:List AIns:=[jc 2 1]
def F8_r3:List AIns:=[jm 11 0,ii 12 (.bin .geq (.t 11) (.c (.lit (.int .i64 5)))),jm 13 12,jtm 14 13 0,it 15 13 (.bin .leq (.t 14) (.c (.lit (.int .i64 8)))),jp 16 13 15,jm 10 16]
def F8_r4:List AIns:=[jc 2 2]
def F8_r5:List AIns:=[jm 18 0,ii 19 (.bin .geq (.t 18) (.c (.lit (.int .i64 9)))),jm 20 19,jtm 21 20 0,it 22 20 (.bin .leq (.t 21) (.c (.lit (.int .i64 14)))),jp 23 20 22,jm 17 23]
def F8_r6:List AIns:=[jc 2 3]
def F8_r7:List AIns:=[jc 2 0]
def F8_:AFun:=⟨1,.seq (R F8_r0 [0] []) (.seq (.block 0 (.seq (R F8_r1 [0,3] []) (.cond (.t 3) (.seq (R F8_r2 [2] []) (.ret)) (.seq (R F8_r3 [0,10] []) (.cond (.t 10) (.seq (R F8_r4 [2] []) (.ret)) (.seq (R F8_r5 [17] []) (.cond (.t 17) (.seq (R F8_r6 [2] []) (.ret)) (.skip)))))))) (.seq (R F8_r7 [2] []) (.ret))),[.t 2]⟩
def F9_r0:List AIns:=[jb 5 0,ii 10 (.alloc true Z2),jc 11 0]
def F9_r1:List AIns:=[jm 19 1,jg 20 19,jm 21 2,jg 22 21,ii 23 (.bin .neq (.t 20) (.t 22)),jm 24 23,jfm 25 24 3,jfg 26 24 25,jfm 27 24 4,jfg 28 24 27,iF 29 24 (.bin .neq (.t 26) (.t 28)),jP 30 24 29,jm 31 30,jfm 32 31 1,iF 33 31 (cl N19_ [32]),jfu 34 31 33,jP 35 31 34,jm 36 35,jfm 37 36 3,iF 38 36 (cl N19_ [37]),jfu 39 36 38,jP 40 36 39]
def F9_r2:List AIns:=[ii 41 (.build Z2 []),jns 5 10 41,jc 11 1]
def F9_r3:List AIns:=[ii 42 (cl N20_ []),ii 12 (.alloc true Z7),jns 2 12 42]
def F9_r4:List AIns:=[jm 43 1,jg 44 43,jc 45 0]
def F9_r5:List AIns:=[jq 46 45 44]
def F9_r6:List AIns:=[jm 47 45,jx 48 1 43 45,jl 49 48,jm 13 47,jm 14 49]
def F9_r7:List AIns:=[ii 50 (.iaa 2 1 (.t 12) (.c (.lit (.int .i64 0)))),jl 51 50,jm 52 14,jm 53 2,jm 54 13,jx 55 5 53 54,jk 56 5 55,⟨none,none,.mu (.int .i64) (.t 51) (.t 52) (.t 56)⟩]
def F9_r8:List AIns:=[jA 57 45 1,jm 45 57]
def F9_l1:AC:=.seq (R F9_r5 [2,3,4,5,10,12,43,44,45,46] [5,10,12]) (.seq (.cond (.t 46) (.skip) (.exit 0)) (.seq (.block 1 (.seq (R F9_r6 [2,3,4,5,10,12,13,14,43,44,45] [5,10,12]) (R F9_r7 [2,3,4,5,10,12,43,44,45] [5,10,12]))) (R F9_r8 [2,3,4,5,10,12,43,44,45] [5,10,12])))
def F9_r9:List AIns:=[jm 58 3,jg 59 58,jc 60 0]
def F9_r10:List AIns:=[jq 61 60 59]
def F9_r11:List AIns:=[jm 62 60,jx 63 1 58 60,jl 64 63,jm 15 62,jm 16 64]
def F9_r12:List AIns:=[ii 65 (.iaa 2 1 (.t 12) (.c (.lit (.int .i64 1)))),jl 66 65,jm 67 16,jm 68 4,jm 69 15,jx 70 5 68 69,jk 71 5 70,⟨none,none,.mu (.int .i64) (.t 66) (.t 67) (.t 71)⟩]
def F9_r13:List AIns:=[jA 72 60 1,jm 60 72]
def F9_l2:AC:=.seq (R F9_r10 [4,5,10,12,58,59,60,61] [5,10,12]) (.seq (.cond (.t 61) (.skip) (.exit 2)) (.seq (.block 3 (.seq (R F9_r11 [4,5,10,12,15,16,58,59,60] [5,10,12]) (R F9_r12 [4,5,10,12,58,59,60] [5,10,12]))) (R F9_r13 [4,5,10,12,58,59,60] [5,10,12])))
def F9_r14:List AIns:=[jk 74 5 5,jk 75 2 12,ii 76 (.call (.f N21_) [(.t 74),(.t 75),(.c (.lit (.int .i64 30000)))]),jm 73 76,jz 77 73 0,jz 78 73 1,ii 17 (.alloc true Z2),jns 5 17 77,jm 18 78]
def F9_r15:List AIns:=[jm 79 18,ju 80 79]
def F9_r16:List AIns:=[ii 81 (.build Z2 []),jns 5 10 81,jc 11 2]
def F9_r17:List AIns:=[jk 82 5 17,jns 5 10 82,jc 11 0]
def F9_:AFun:=⟨5,.seq (R F9_r0 [1,2,3,4,5,10] [5,10]) (.seq (.seq (R F9_r1 [1,2,3,4,5,10,40] [5,10]) (.cond (.t 40) (.seq (R F9_r2 [10,11] [10]) (.ret)) (.skip))) (.seq (R F9_r3 [1,2,3,4,5,10,12] [5,10,12]) (.seq (.seq (R F9_r4 [2,3,4,5,10,12,43,44,45] [5,10,12]) (.block 0 (.loop F9_l1))) (.seq (.seq (R F9_r9 [4,5,10,12,58,59,60] [5,10,12]) (.block 2 (.loop F9_l2))) (.seq (R F9_r14 [10,17,18] [10,17]) (.seq (.seq (R F9_r15 [10,17,80] [10,17]) (.cond (.t 80) (.seq (R F9_r16 [10,11] [10]) (.ret)) (.skip))) (.seq (R F9_r17 [10,11] [10]) (.ret)))))))),[.cell (some 5) 10,.t 11]⟩
def F10_r0:List AIns:=[jb 1 0,jc 2 0,jc 3 0]
def F10_r1:List AIns:=[jc 2 1]
def F10_r2:List AIns:=[ja 12 0 1,jl 13 12,ii 14 (cl N22_ [13])]
def F10_r3:List AIns:=[jc 2 1,jc 3 1]
def F10_r4:List AIns:=[ja 15 3 1,jl 16 15,jg 17 16,jc 18 0]
def F10_r5:List AIns:=[jq 19 18 17]
def F10_r6:List AIns:=[jx 20 5 16 18,jk 21 5 20,ii 5 (.alloc true Z2),jns 5 5 21]
def F10_r7:List AIns:=[jk 23 5 5,ii 24 (cl N10_ [23]),jm 22 24,jz 25 22 0,jz 26 22 1,jm 6 25,jm 7 26]
def F10_r8:List AIns:=[jm 27 2,jm 28 6,ii 29 (.bin .add (.t 27) (.t 28)),jm 30 3,jm 31 7,ii 32 (.mmx true (.t 30) (.t 31)),jm 2 29,jm 3 32]
def F10_r9:List AIns:=[jA 33 18 1,jm 18 33]
def F10_l1:AC:=.seq (R F10_r5 [1,2,3,16,17,18,19] [1]) (.seq (.cond (.t 19) (.skip) (.exit 0)) (.seq (.block 1 (.seq (R F10_r6 [1,2,3,5,16,17,18] [1,5]) (.seq (R F10_r7 [1,2,3,6,7,16,17,18] [1]) (R F10_r8 [1,2,3,16,17,18] [1])))) (R F10_r9 [1,2,3,16,17,18] [1])))
def F10_r10:List AIns:=[ja 34 4 1,jl 35 34,jg 36 35,jc 37 0]
def F10_r11:List AIns:=[jq 38 37 36]
def F10_r12:List AIns:=[jx 39 7 35 37,jk 40 7 39,ii 9 (.alloc true Z1),jns 7 9 40]
def F10_r13:List AIns:=[ja 42 2 9,jk 43 5 42,ii 44 (cl N10_ [43]),jm 41 44,jz 45 41 0,jz 46 41 1,jm 10 45,jm 11 46]
def F10_r14:List AIns:=[jm 47 2,jm 48 10,ii 49 (.bin .add (.t 47) (.t 48)),jm 50 3,jm 51 11,ii 52 (.mmx true (.t 50) (.t 51)),jm 2 49,jm 3 52]
def F10_r15:List AIns:=[jA 53 37 1,jm 37 53]
def F10_l2:AC:=.seq (R F10_r11 [2,3,35,36,37,38] []) (.seq (.cond (.t 38) (.skip) (.exit 2)) (.seq (.block 3 (.seq (R F10_r12 [2,3,9,35,36,37] [9]) (.seq (R F10_r13 [2,3,10,11,35,36,37] []) (R F10_r14 [2,3,35,36,37] [])))) (R F10_r15 [2,3,35,36,37] [])))
def F10_r16:List AIns:=[jm 54 2,jm 55 3,jA 56 55 1,jm 2 54,jm 3 56]
def F10_:AFun:=⟨1,.seq (R F10_r0 [1,3] [1]) (.seq (R F10_r1 [1,2,3] [1]) (.seq (.seq (R F10_r2 [1,2,3,14] [1]) (.cond (.t 14) (.seq (R F10_r3 [2,3] []) (.ret)) (.skip))) (.seq (.seq (R F10_r4 [1,2,3,16,17,18] [1]) (.block 0 (.loop F10_l1))) (.seq (.seq (R F10_r10 [2,3,35,36,37] []) (.block 2 (.loop F10_l2))) (.seq (R F10_r16 [2,3] []) (.ret)))))),[.t 2,.t 3]⟩
def F11_r0:List AIns:=[jb 2 0,jc 4 0]
def F11_r1:List AIns:=[jm 7 1,ii 8 (.bin .sub (.t 7) (.c (.lit (.int .i64 1)))),jm 1 8]
def F11_r2:List AIns:=[jc 5 0]
def F11_r3:List AIns:=[jm 9 5,ja 10 3 2,jl 11 10,jg 12 11,jq 13 9 12,jm 14 13,jtm 15 14 1,it 16 14 (.bin .gtr (.t 15) (.c (.lit (.int .i64 0)))),jp 17 14 16]
def F11_r5:List AIns:=[ja 20 3 2,jl 21 20,jm 22 5,jx 23 5 21 22,jk 24 5 23,jm 25 1,ii 26 (cl N11_ [24,25]),jm 1 26]
def F11_r4:List AIns:=[jm 18 5,jA 19 18 1,jm 5 19]
def F11_l1:AC:=.seq (.seq (R F11_r3 [1,2,5,17] [2]) (.cond (.t 17) (.skip) (.exit 0))) (.seq (.block 1 (R F11_r5 [1,2,5] [2])) (R F11_r4 [1,2,5] [2]))
def F11_r6:List AIns:=[jc 6 0]
def F11_r7:List AIns:=[jm 27 6,ja 28 4 2,jl 29 28,jg 30 29,jq 31 27 30,jm 32 31,jtm 33 32 1,it 34 32 (.bin .gtr (.t 33) (.c (.lit (.int .i64 0)))),jp 35 32 34]
def F11_r9:List AIns:=[ja 38 4 2,jl 39 38,jm 40 6,jx 41 7 39 40,ja 42 2 41,jk 43 5 42,jm 44 1,ii 45 (cl N11_ [43,44]),jm 1 45]
def F11_r8:List AIns:=[jm 36 6,jA 37 36 1,jm 6 37]
def F11_l2:AC:=.seq (.seq (R F11_r7 [1,2,6,35] [2]) (.cond (.t 35) (.skip) (.exit 2))) (.seq (.block 3 (R F11_r9 [1,2,6] [2])) (R F11_r8 [1,2,6] [2]))
def F11_r10:List AIns:=[jm 46 1,ii 47 (.mmx true (.t 46) (.c (.lit (.int .i64 0)))),jm 4 47]
def F11_:AFun:=⟨2,.seq (R F11_r0 [1,2] [2]) (.seq (R F11_r1 [1,2] [2]) (.seq (.seq (R F11_r2 [1,2,5] [2]) (.block 0 (.loop F11_l1))) (.seq (.seq (R F11_r6 [1,2,6] [2]) (.block 2 (.loop F11_l2))) (.seq (R F11_r10 [4] []) (.ret))))),[.t 4]⟩
def F12_r0:List AIns:=[jb 3 0,ii 4 (.alloc true Z6)]
def F12_r1:List AIns:=[jL 5 1,jk 6 5 3,jK 7 5 2,ii 8 (.bsl 5 [(.t 6),(.t 7)]),ii 9 (.build Z2 [(0,1,(.c (.lit (.int .i64 9)))),(3,1,(.t 8))]),ii 10 (.build Z0 [(0,1,(.c (.lit (.string ⟨#[109,97,105,110]⟩)))),(3,5,(.t 9))]),jB 11 8 10,ii 12 (.build Z6 [(0,1,(.t 5)),(1,1,(.t 11))]),jns 2 4 12]
def F12_:AFun:=⟨3,.seq (R F12_r0 [1,2,3,4] [3,4]) (.seq (R F12_r1 [4] [4]) (.ret)),[.cell (some 2) 4]⟩
def F13_r0:List AIns:=[jb 1 0,jc 2 0]
def F13_r1:List AIns:=[jk 3 2 1,ii 4 (cl N14_ [3]),ju 5 4]
def F13_r2:List AIns:=[jc 2 60]
def F13_r3:List AIns:=[jk 6 2 1,ii 7 (cl N23_ [6]),ju 8 7]
def F13_r4:List AIns:=[jc 2 70]
def F13_r5:List AIns:=[jc 2 0]
def F13_:AFun:=⟨1,.seq (R F13_r0 [1] [1]) (.seq (.seq (R F13_r1 [1,5] [1]) (.cond (.t 5) (.seq (R F13_r2 [2] []) (.ret)) (.skip))) (.seq (.seq (R F13_r3 [8] []) (.cond (.t 8) (.seq (R F13_r4 [2] []) (.ret)) (.skip))) (.seq (R F13_r5 [2] []) (.ret)))),[.t 2]⟩
def F14_r0:List AIns:=[jb 1 0,jf_ 2]
def F14_r1:List AIns:=[ja 13 0 1,jl 14 13,ii 15 (cl N24_ [14]),ju 16 15,jm 17 16,jfa 18 17 1 1,jfl 19 17 18,jfg 20 17 19,iF 21 17 (.bin .lss (.t 20) (.c (.lit (.int .i64 1)))),jP 22 17 21,jm 23 22,jfa 24 23 1 1,jfl 25 23 24,jfg 26 23 25,iF 27 23 (.bin .gtr (.t 26) (.c (.lit (.int .i64 12)))),jP 28 23 27]
def F14_r2:List AIns:=[jf_ 2]
def F14_r3:List AIns:=[ii 29 (.mkm .str),jm 3 29]
def F14_r4:List AIns:=[ja 30 0 1,jl 31 30,ja 32 1 1,jl 33 32,ii 34 (.build [.slice .full 3 [],.slice .full 8 [],.lit (.int .i64 0)] [(0,1,(.t 31)),(1,1,(.t 33)),(2,1,(.c (.lit (.int .i64 30000))))]),ii 35 (.box false (.t 34)),jm 4 35]
def F14_r5:List AIns:=[ja 36 1 1,jl 37 36,jg 38 37,jc 39 0]
def F14_r6:List AIns:=[jq 40 39 38]
def F14_r7:List AIns:=[jm 41 39,jx 42 8 37 39,jk 43 8 42,ii 6 (.alloc true Z0),jm 5 41,jns 8 6 43]
def F14_r8:List AIns:=[ja 44 0 6,jl 45 44,ii 46 (cl N25_ [45]),ju 47 46,jm 48 47,jfm 49 48 3,jfa 50 48 0 6,jfl 51 48 50,iF 52 48 (.lk .str (.lit (.bool false)) false (.t 49) (.t 51)),jP 53 48 52,jm 54 53,jfa 55 54 1 6,jfl 56 54 55,jfg 57 54 56,iF 58 54 (.bin .gtr (.t 57) (.c (.lit (.int .i64 6)))),jP 59 54 58,jm 60 59,jfa 61 60 2 6,jfl 62 60 61,jfg 63 60 62,jfa 64 60 1 6,jfl 65 60 64,jfg 66 60 65,iF 67 60 (.bin .neq (.t 63) (.t 66)),jP 68 60 67]
def F14_r9:List AIns:=[jf_ 2]
def F14_r10:List AIns:=[jm 69 3,ja 70 0 6,jl 71 70,⟨none,none,.mu .str (.t 69) (.t 71) (.c (.lit (.bool true)))⟩]
def F14_r11:List AIns:=[ii 7 (.mv (.c (.slice .full 1 [])))]
def F14_r12:List AIns:=[ja 72 1 6,jl 73 72,jg 74 73,jc 75 0]
def F14_r13:List AIns:=[jq 76 75 74]
def F14_r14:List AIns:=[jx 77 2 73 75,jk 78 2 77,ii 9 (.alloc true Z4),jns 2 9 78]
def F14_r15:List AIns:=[ja 79 0 9,jl 80 79,ii 81 (.bin .lss (.t 80) (.c (.lit (.int .i64 0)))),jm 82 81,jfa 83 82 0 9,jfl 84 82 83,jfa 85 82 0 1,jfl 86 82 85,jfg 87 82 86,iF 88 82 (.bin .gtr (.t 84) (.t 87)),jP 89 82 88,jm 90 89,jfm 91 90 5,jfe 92 90 91 0,jfm 93 90 92,jta 94 93 1 9,jtl 95 93 94,jtm 96 93 95,jfa 97 96 0 9,jfl 98 96 97,iF 99 96 (.bin .neq (.t 98) (.c (.lit (.int .i64 0)))),jtP 100 93 96 99,jfp 101 90 93 100,jP 102 90 101]
def F14_r16:List AIns:=[jf_ 2]
def F14_r17:List AIns:=[jm 103 7,ja 104 1 9,jl 105 104,jB 106 1 105,ii 107 (.app 1 1 (.t 103) (.t 106)),jm 7 107]
def F14_r18:List AIns:=[jA 108 75 1,jm 75 108]
def F14_l2:AC:=.seq (R F14_r13 [1,3,4,5,6,7,37,38,39,73,74,75,76] [1,6]) (.seq (.cond (.t 76) (.skip) (.exit 2)) (.seq (.block 3 (.seq (R F14_r14 [1,3,4,5,6,7,9,37,38,39,73,74,75] [1,6,9]) (.seq (.seq (R F14_r15 [1,3,4,5,6,7,9,37,38,39,73,74,75,102] [1,6,9]) (.cond (.t 102) (.seq (R F14_r16 [2] []) (.ret)) (.skip))) (R F14_r17 [1,3,4,5,6,7,37,38,39,73,74,75] [1,6])))) (R F14_r18 [1,3,4,5,6,7,37,38,39,73,74,75] [1,6])))
def F14_r19:List AIns:=[ja 109 2 6,jl 110 109,jm 111 7,ii 112 (cl N26_ [110,111]),ju 113 112]
def F14_r20:List AIns:=[jf_ 2]
def F14_r21:List AIns:=[jA 114 39 1,jm 39 114]
def F14_l1:AC:=.seq (R F14_r6 [1,3,4,37,38,39,40] [1]) (.seq (.cond (.t 40) (.skip) (.exit 0)) (.seq (.block 1 (.seq (R F14_r7 [1,3,4,5,6,37,38,39] [1,6]) (.seq (.seq (R F14_r8 [1,3,4,5,6,37,38,39,68] [1,6]) (.cond (.t 68) (.seq (R F14_r9 [2] []) (.ret)) (.skip))) (.seq (R F14_r10 [1,3,4,5,6,37,38,39] [1,6]) (.seq (R F14_r11 [1,3,4,5,6,7,37,38,39] [1,6]) (.seq (.seq (R F14_r12 [1,3,4,5,6,7,37,38,39,73,74,75] [1,6]) (.block 2 (.loop F14_l2))) (.seq (R F14_r19 [1,3,4,37,38,39,113] [1]) (.cond (.t 113) (.seq (R F14_r20 [2] []) (.ret)) (.skip))))))))) (R F14_r21 [1,3,4,37,38,39] [1])))
def F14_r22:List AIns:=[ja 115 1 1,jl 116 115,jg 117 116,jc 118 0]
def F14_r23:List AIns:=[jq 119 118 117]
def F14_r24:List AIns:=[jx 120 8 116 118,jk 121 8 120,ii 11 (.alloc true Z0),jns 8 11 121]
def F14_r25:List AIns:=[ii 122 (.call (.f N27_) [(.c (.slice .full 1 [])),(.c (.slice .full 1 []))]),ii 12 (.alloc true Z7),jns 2 12 122]
def F14_r26:List AIns:=[jk 123 2 12,ja 124 2 11,jl 125 124,ja 126 1 11,jl 127 126,ii 128 (cl N29_ [127]),ii 129 (cl N28_ [123,125,128])]
def F14_r27:List AIns:=[ja 130 3 11,ja 131 0 130,jl 132 131,ii 133 (cl N16_ [132]),ii 134 (.bin .neq (.t 133) (.c (.lit (.int .i64 2)))),jm 135 134,jfm 136 135 4,jfk 137 135 2 12,jfa 138 135 3 11,jfk 139 135 5 138,iF 140 135 (.call (.f N30_) [(.t 136),(.t 137),(.t 139),(.c (.lit (.int .i64 1)))]),jfu 141 135 140,jP 142 135 141]
def F14_r28:List AIns:=[jf_ 2]
def F14_r29:List AIns:=[jA 143 118 1,jm 118 143]
def F14_l3:AC:=.seq (R F14_r23 [4,116,117,118,119] []) (.seq (.cond (.t 119) (.skip) (.exit 4)) (.seq (.block 5 (.seq (R F14_r24 [4,11,116,117,118] [11]) (.seq (R F14_r25 [4,11,12,116,117,118] [11,12]) (.seq (R F14_r26 [4,11,12,116,117,118] [11,12]) (.seq (R F14_r27 [4,116,117,118,142] []) (.cond (.t 142) (.seq (R F14_r28 [2] []) (.ret)) (.skip))))))) (R F14_r29 [4,116,117,118] [])))
def F14_r30:List AIns:=[ii 2 (.mv (.c (.lit (.bool true))))]
def F14_:AFun:=⟨1,.seq (R F14_r0 [1] [1]) (.seq (.seq (R F14_r1 [1,28] [1]) (.cond (.t 28) (.seq (R F14_r2 [2] []) (.ret)) (.skip))) (.seq (R F14_r3 [1,3] [1]) (.seq (R F14_r4 [1,3,4] [1]) (.seq (.seq (R F14_r5 [1,3,4,37,38,39] [1]) (.block 0 (.loop F14_l1))) (.seq (.seq (R F14_r22 [4,116,117,118] []) (.block 4 (.loop F14_l3))) (.seq (R F14_r30 [2] []) (.ret))))))),[.t 2]⟩
def F15_r0:List AIns:=[jb 1 0,ii 2 (.mv (.c (.lit (.pointer none))))]
def F15_r1:List AIns:=[jk 4 2 1,ii 5 (.mkm (.int .i64)),ii 6 (.mkm (.int .i64)),ii 7 (.build Z7 [(0,1,(.t 5)),(1,1,(.t 6))]),ii 8 (.build [.slice .full 3 [],.slice .full 8 [],.lit (.map none),.lit (.map none),.lit .nilFunc,.lit .nilFunc,.lit .nilFunc,.lit .nilFunc,.lit .nilFunc,.lit .nilFunc,.lit .nilFunc,.lit .nilFunc,.lit .nilFunc,.lit .nilFunc,.lit .nilFunc,.lit .nilFunc,.lit .nilFunc,.lit .nilFunc,.lit .nilFunc] [(0,2,(.t 4)),(2,2,(.t 7))]),ii 9 (.box false (.t 8)),jm 3 9]
def F15_r2:List AIns:=[jm 10 3,jm 11 3,ii 12 (.mkf N31_ [(.t 11)] []),jm 13 3,ii 14 (.mkf N32_ [(.t 13)] []),jm 15 3,ii 16 (.mkf N33_ [(.t 15)] []),jm 17 3,ii 18 (.mkf N34_ [(.t 17)] []),jm 19 3,ii 20 (.mkf N35_ [(.t 19)] []),jm 21 3,ii 22 (.mkf N31_ [(.t 21)] []),jm 23 3,ii 24 (.mkf N33_ [(.t 23)] []),jm 25 3,ii 26 (.mkf N34_ [(.t 25)] []),jm 27 3,ii 28 (.mkf N35_ [(.t 27)] []),jm 29 3,ii 30 (.mkf N36_ [(.t 29)] []),jm 31 3,ii 32 (.mkf N37_ [(.t 31)] []),jm 33 3,ii 34 (.mkf N38_ [(.t 33)] []),jm 35 3,ii 36 (.mkf N38_ [(.t 35)] []),jm 37 3,ii 38 (.mkf N39_ [(.t 37)] []),jm 39 3,ii 40 (.mkf N38_ [(.t 39)] []),ii 41 (.build [.lit .nilFunc,.lit .nilFunc,.lit .nilFunc,.lit .nilFunc,.lit .nilFunc,.lit .nilFunc,.lit .nilFunc,.lit .nilFunc,.lit .nilFunc,.lit .nilFunc,.lit .nilFunc,.lit .nilFunc,.lit .nilFunc,.lit .nilFunc,.lit .nilFunc] [(0,1,(.t 12)),(1,1,(.t 14)),(2,1,(.t 16)),(3,1,(.t 18)),(4,1,(.t 20)),(5,1,(.t 22)),(6,1,(.t 24)),(7,1,(.t 26)),(8,1,(.t 28)),(9,1,(.t 30)),(10,1,(.t 32)),(11,1,(.t 34)),(12,1,(.t 36)),(13,1,(.t 38)),(14,1,(.t 40))]),jh 42 10,ja 43 4 42,jnS 15 43 41]
def F15_r3:List AIns:=[jm 44 3,jm 2 44]
def F15_:AFun:=⟨1,.seq (R F15_r0 [1] [1]) (.seq (R F15_r1 [3] []) (.seq (R F15_r2 [3] []) (.seq (R F15_r3 [2] []) (.ret)))),[.t 2]⟩
def F16_r0:List AIns:=[jc 2 0]
def F16_r1:List AIns:=[jm 4 0,ii 5 (.bin .lss (.t 4) (.c (.lit (.int .i64 0)))),jm 6 5,jfm 7 6 0,iF 8 6 (.bin .gtr (.t 7) (.c (.lit (.int .i64 14)))),jP 9 6 8,jm 3 9]
def F16_r2:List AIns:=[ii 2 (.mv (.c (.lit (.int .i64 (-1)))))]
def F16_r3:List AIns:=[jm 11 0,ii 12 (.bin .leq (.t 11) (.c (.lit (.int .i64 4)))),jm 10 12]
def F16_r4:List AIns:=[jc 2 0]
def F16_r5:List AIns:=[jm 14 0,ii 15 (.bin .leq (.t 14) (.c (.lit (.int .i64 8)))),jm 13 15]
def F16_r6:List AIns:=[jc 2 1]
def F16_r7:List AIns:=[jc 2 2]
def F16_:AFun:=⟨1,.seq (R F16_r0 [0] []) (.seq (.block 0 (.seq (R F16_r1 [0,3] []) (.cond (.t 3) (.seq (R F16_r2 [2] []) (.ret)) (.seq (R F16_r3 [0,10] []) (.cond (.t 10) (.seq (R F16_r4 [2] []) (.ret)) (.seq (R F16_r5 [13] []) (.cond (.t 13) (.seq (R F16_r6 [2] []) (.ret)) (.skip)))))))) (.seq (R F16_r7 [2] []) (.ret))),[.t 2]⟩
def F17_r0:List AIns:=[jb 4 0,jb 7 3,jf_ 8]
def F17_r1:List AIns:=[ja 10 0 4,jl 11 10,ja 12 1 4,jl 13 12,ii 14 (.build [.slice .full 3 [],.slice .full 8 [],.lit (.int .i64 0)] [(0,1,(.t 11)),(1,1,(.t 13)),(2,1,(.c (.lit (.int .i64 30000))))]),ii 15 (.box false (.t 14)),jm 9 15]
def F17_r2:List AIns:=[jm 16 9,jm 17 1,jm 18 2,ii 19 (cl N27_ [17,18]),jk 20 5 7,ii 21 (.call (.f N30_) [(.t 16),(.t 19),(.t 20),(.c (.lit (.int .i64 1)))]),jm 8 21]
def F17_:AFun:=⟨4,.seq (R F17_r0 [1,2,4,7] [4,7]) (.seq (R F17_r1 [1,2,7,9] [7]) (.seq (R F17_r2 [8] []) (.ret))),[.t 8]⟩
def F18_r0:List AIns:=[jb 3 1,jc 4 0,jf_ 5]
def F18_r1:List AIns:=[jm 6 0,ja 7 0 3,jl 8 7,jh 9 6,ja 10 4 9,ii 11 (.iaa 15 1 (.t 10) (.t 8)),jL 12 11,jk 13 5 3,ii 14 (.call (.t 12) [(.t 13)]),jz 15 14 0,jz 16 14 1,jm 4 15,jm 5 16]
def F18_:AFun:=⟨2,.seq (R F18_r0 [0,3] [3]) (.seq (R F18_r1 [4,5] []) (.ret)),[.t 4,.t 5]⟩
def F19_r0:List AIns:=[jf_ 2]
def F19_r1:List AIns:=[ii 6 (.mkm (.int .i64)),jm 3 6]
def F19_r2:List AIns:=[jm 7 0,jg 8 7,jc 9 0]
def F19_r3:List AIns:=[jq 10 9 8]
def F19_r4:List AIns:=[jx 11 1 7 9,jl 12 11,jm 5 12]
def F19_r5:List AIns:=[jm 13 3,jm 14 5,ii 15 (.lk (.int .i64) (.lit (.bool false)) false (.t 13) (.t 14))]
def F19_r6:List AIns:=[jf_ 2]
def F19_r7:List AIns:=[jm 16 3,jm 17 5,⟨none,none,.mu (.int .i64) (.t 16) (.t 17) (.c (.lit (.bool true)))⟩]
def F19_r8:List AIns:=[jA 18 9 1,jm 9 18]
def F19_l1:AC:=.seq (R F19_r3 [3,7,8,9,10] []) (.seq (.cond (.t 10) (.skip) (.exit 0)) (.seq (.block 1 (.seq (R F19_r4 [3,5,7,8,9] []) (.seq (.seq (R F19_r5 [3,5,7,8,9,15] []) (.cond (.t 15) (.seq (R F19_r6 [2] []) (.ret)) (.skip))) (R F19_r7 [3,7,8,9] [])))) (R F19_r8 [3,7,8,9] [])))
def F19_r9:List AIns:=[ii 2 (.mv (.c (.lit (.bool true))))]
def F19_:AFun:=⟨1,.seq (R F19_r0 [0] []) (.seq (R F19_r1 [0,3] []) (.seq (.seq (R F19_r2 [3,7,8,9] []) (.block 0 (.loop F19_l1))) (.seq (R F19_r9 [2] []) (.ret)))),[.t 2]⟩
def F20_r0:List AIns:=[ii 0 (.alloc true Z7)]
def F20_r1:List AIns:=[ii 1 (.mkm (.int .i64)),ii 2 (.mkm (.int .i64)),ii 3 (.build Z7 [(0,1,(.t 1)),(1,1,(.t 2))]),jns 2 0 3]
def F20_:AFun:=⟨0,.seq (R F20_r0 [0] [0]) (.seq (R F20_r1 [0] [0]) (.ret)),[.cell (some 2) 0]⟩
def F21_r0:List AIns:=[jb 3 0,jb 4 1,ii 6 (.alloc true Z2),jf_ 7]
def F21_r1:List AIns:=[ii 14 (.mkm (.int .i64)),ii 15 (.mkm (.int .i64)),ii 16 (.build Z7 [(0,1,(.t 14)),(1,1,(.t 15))]),jm 17 2,jk 18 2 4,ii 19 (.build [.lit (.map none),.lit (.map none),.lit (.int .i64 0),.lit (.int .i64 0),.lit (.int .i64 0),.lit (.map none),.lit (.map none)] [(0,2,(.t 16)),(4,1,(.t 17)),(5,2,(.t 18))]),ii 20 (.box false (.t 19)),ii 8 (.alloc false [.lit (.pointer none)]),jnS 1 8 20]
def F21_r2:List AIns:=[ii 21 (.mkf N40_ [] [(.t 8)]),jm 9 21]
def F21_r3:List AIns:=[jm 22 9,jk 23 5 3,ii 24 (.call (.t 22) [(.t 23)])]
def F21_r4:List AIns:=[jc 25 0]
def F21_r5:List AIns:=[ii 26 (.bin .lss (.t 25) (.c (.lit (.int .i64 2))))]
def F21_r6:List AIns:=[jm 27 25,jm 10 27]
def F21_r7:List AIns:=[jm 28 10,ii 29 (.iaa 2 1 (.t 4) (.t 28)),jl 30 29]
def F21_r9:List AIns:=[jz 35 34 1,ii 12 (.alloc true Z2),jns 5 12 35]
def F21_r10:List AIns:=[jm 36 9,jk 37 5 12,ii 38 (.call (.t 36) [(.t 37)])]
def F21_l2:AC:=R F21_r10 [3,4,6,8,9,25,31] [3,4,6]
def F21_r11:List AIns:=[jA 39 25 1,jm 25 39]
def F21_l1:AC:=.seq (R F21_r5 [3,4,6,8,9,25,26] [3,4,6]) (.seq (.cond (.t 26) (.skip) (.exit 0)) (.seq (.block 1 (.seq (R F21_r6 [3,4,6,8,9,10,25] [3,4,6]) (.rmap F21_r7 (.int .i64) (.t 30) 31 32 33 2 3 34 F21_r9 [3,4,6,8,9,12,25,31] [3,4,6,12] F21_l2 [3,4,6,8,9,25] [3,4,6]))) (R F21_r11 [3,4,6,8,9,25] [3,4,6])))
def F21_r12:List AIns:=[jL 40 8,jk 41 5 3,ii 42 (cl N42_ [40,41]),ii 13 (.alloc true Z2),jns 5 13 42]
def F21_r13:List AIns:=[jk 43 5 13,ii 44 (.ldo false 8 none (.t 8)),jh 45 44,ja 46 4 45,ii 47 (.wop (.ldv none) [(.t 46)]),ii 48 (.bin .geq (.t 47) (.c (.lit (.int .i64 0)))),jns 5 6 43,jm 7 48]
def F21_:AFun:=⟨3,.seq (R F21_r0 [2,3,4,6] [3,4,6]) (.seq (R F21_r1 [3,4,6,8] [3,4,6]) (.seq (R F21_r2 [3,4,6,8,9] [3,4,6]) (.seq (R F21_r3 [3,4,6,8,9] [3,4,6]) (.seq (.seq (R F21_r4 [3,4,6,8,9,25] [3,4,6]) (.block 0 (.loop F21_l1))) (.seq (R F21_r12 [6,8,13] [6,13]) (.seq (R F21_r13 [6,7] [6]) (.ret))))))),[.cell (some 5) 6,.t 7]⟩
def F22_r0:List AIns:=[jf_ 2]
def F22_r1:List AIns:=[jm 3 0,je 4 3 0,jm 5 4,jfm 6 5 0,jfe 7 5 6 5,jP 8 5 7,jm 9 8,jfm 10 9 0,jfe 11 9 10 1,jP 12 9 11,jm 2 12]
def F22_:AFun:=⟨1,.seq (R F22_r0 [0] []) (.seq (R F22_r1 [2] []) (.ret)),[.t 2]⟩
def F23_r0:List AIns:=[jb 1 0,jf_ 2]
def F23_r1:List AIns:=[ja 8 1 1,jl 9 8,jg 10 9,jc 11 0]
def F23_r2:List AIns:=[jq 12 11 10]
def F23_r3:List AIns:=[jx 13 8 9 11,jk 14 8 13,ii 4 (.alloc true Z0),jns 8 4 14]
def F23_r4:List AIns:=[jk 15 2 1,ii 16 (cl N15_ [15]),jm 5 16]
def F23_r5:List AIns:=[jm 17 5,ja 18 2 4,jl 19 18,ja 20 1 4,jl 21 20,ii 22 (cl N43_ [17,19,21])]
def F23_r6:List AIns:=[jm 24 5,ja 25 3 4,jk 26 5 25,ii 27 (cl N18_ [24,26]),jm 23 27,jz 28 23 0,jz 29 23 1,jm 6 28,jm 7 29]
def F23_r7:List AIns:=[jm 30 7,ju 31 30]
def F23_r8:List AIns:=[jf_ 2]
def F23_r9:List AIns:=[jA 32 11 1,jm 11 32]
def F23_l1:AC:=.seq (R F23_r2 [1,9,10,11,12] [1]) (.seq (.cond (.t 12) (.skip) (.exit 0)) (.seq (.block 1 (.seq (R F23_r3 [1,4,9,10,11] [1,4]) (.seq (R F23_r4 [1,4,5,9,10,11] [1,4]) (.seq (R F23_r5 [1,4,5,9,10,11] [1,4]) (.seq (R F23_r6 [1,7,9,10,11] [1]) (.seq (R F23_r7 [1,9,10,11,31] [1]) (.cond (.t 31) (.seq (R F23_r8 [2] []) (.ret)) (.skip)))))))) (R F23_r9 [1,9,10,11] [1])))
def F23_r10:List AIns:=[ii 2 (.mv (.c (.lit (.bool true))))]
def F23_:AFun:=⟨1,.seq (R F23_r0 [1] [1]) (.seq (.seq (R F23_r1 [1,9,10,11] [1]) (.block 0 (.loop F23_l1))) (.seq (R F23_r10 [2] []) (.ret))),[.t 2]⟩
def F24_r0:List AIns:=[ii 1 (.box false (.t 0)),jf_ 2]
def F24_r1:List AIns:=[jL 10 1,jg 11 10,ii 12 (.bin .gtr (.t 11) (.c (.lit (.int .i64 8))))]
def F24_r2:List AIns:=[jf_ 2]
def F24_r3:List AIns:=[ii 13 (.mkm .str),ii 14 (.mkm .str),ii 4 (.alloc false [.lit (.map none)]),jm 3 13,jnS 1 4 14]
def F24_r4:List AIns:=[ii 15 (.mkf N44_ [] [(.t 4),(.t 1)]),jm 5 15]
def F24_r5:List AIns:=[jL 16 1,jg 17 16,jc 18 0]
def F24_r6:List AIns:=[jq 19 18 17]
def F24_r7:List AIns:=[jx 20 3 16 18,jk 21 3 20,ii 7 (.alloc true [.lit (.string ⟨#[]⟩),.lit (.bool false),.slice .full 2 []]),jns 3 7 21]
def F24_r8:List AIns:=[ja 22 0 7,jl 23 22,ii 24 (cl N25_ [23]),ju 25 24,jm 26 25,jfm 27 26 3,jfa 28 26 0 7,jfl 29 26 28,iF 30 26 (.lk .str (.lit (.bool false)) false (.t 27) (.t 29)),jP 31 26 30,jm 32 31,jfa 33 32 2 7,jfl 34 32 33,jfg 35 32 34,iF 36 32 (.bin .lss (.t 35) (.c (.lit (.int .i64 1)))),jP 37 32 36,jm 38 37,jfa 39 38 2 7,jfl 40 38 39,jfg 41 38 40,iF 42 38 (.bin .gtr (.t 41) (.c (.lit (.int .i64 6)))),jP 43 38 42]
def F24_r9:List AIns:=[jf_ 2]
def F24_r10:List AIns:=[jm 44 3,ja 45 0 7,jl 46 45,⟨none,none,.mu .str (.t 44) (.t 46) (.c (.lit (.bool true)))⟩]
def F24_r11:List AIns:=[ja 47 2 7,jl 48 47,jg 49 48,jc 50 0]
def F24_r12:List AIns:=[jq 51 50 49]
def F24_r13:List AIns:=[jx 52 2 48 50,jk 53 2 52,ii 9 (.alloc true Z3),jns 2 9 53]
def F24_r14:List AIns:=[jm 54 5,jk 55 2 9,ii 56 (.call (.t 54) [(.t 55)]),ju 57 56]
def F24_r15:List AIns:=[jf_ 2]
def F24_r16:List AIns:=[jA 58 50 1,jm 50 58]
def F24_l2:AC:=.seq (R F24_r12 [3,5,16,17,18,48,49,50,51] []) (.seq (.cond (.t 51) (.skip) (.exit 2)) (.seq (.block 3 (.seq (R F24_r13 [3,5,9,16,17,18,48,49,50] [9]) (.seq (R F24_r14 [3,5,16,17,18,48,49,50,57] []) (.cond (.t 57) (.seq (R F24_r15 [2] []) (.ret)) (.skip))))) (R F24_r16 [3,5,16,17,18,48,49,50] [])))
def F24_r17:List AIns:=[jA 59 18 1,jm 18 59]
def F24_l1:AC:=.seq (R F24_r6 [3,5,16,17,18,19] []) (.seq (.cond (.t 19) (.skip) (.exit 0)) (.seq (.block 1 (.seq (R F24_r7 [3,5,7,16,17,18] [7]) (.seq (.seq (R F24_r8 [3,5,7,16,17,18,43] [7]) (.cond (.t 43) (.seq (R F24_r9 [2] []) (.ret)) (.skip))) (.seq (R F24_r10 [3,5,7,16,17,18] [7]) (.seq (R F24_r11 [3,5,16,17,18,48,49,50] []) (.block 2 (.loop F24_l2))))))) (R F24_r17 [3,5,16,17,18] [])))
def F24_r18:List AIns:=[ii 2 (.mv (.c (.lit (.bool true))))]
def F24_:AFun:=⟨1,.seq (R F24_r0 [1] []) (.seq (.seq (R F24_r1 [1,12] []) (.cond (.t 12) (.seq (R F24_r2 [2] []) (.ret)) (.skip))) (.seq (R F24_r3 [1,3,4] []) (.seq (R F24_r4 [1,3,5] []) (.seq (.seq (R F24_r5 [3,5,16,17,18] []) (.block 0 (.loop F24_l1))) (.seq (R F24_r18 [2] []) (.ret)))))),[.t 2]⟩
def F25_r0:List AIns:=[jf_ 2]
def F25_r1:List AIns:=[jm 3 0,ii 4 (.len true (.t 3)),ii 5 (.bin .geq (.t 4) (.c (.lit (.int .i64 1)))),jm 6 5,jtm 7 6 0,it 8 6 (.len true (.t 7)),it 9 6 (.bin .leq (.t 8) (.c (.lit (.int .i64 10)))),jp 10 6 9,jm 11 10,jtm 12 11 0,it 13 11 (.ixs (.t 12) (.c (.lit (.int .i64 0)))),it 14 11 (cl N46_ [13]),jp 15 11 14,jm 16 15,jtm 17 16 0,it 18 16 (cl N47_ [17]),jp 19 16 18,jm 20 19,jtm 21 20 0,it 22 20 (.bin .add (.c (.lit (.string ⟨#[32]⟩))) (.t 21)),it 23 20 (.bin .add (.t 22) (.c (.lit (.string ⟨#[32]⟩)))),it 24 20 (.call (.f N48_) [(.c (.lit (.string ⟨#[32,100,97,116,97,32,99,111,100,97,116,97,32,102,117,110,32,105,110,116,32,105,102,122,32,99,97,115,101,32,99,111,99,97,115,101,32,108,101,116,32,101,109,105,116,32,108,97,98,101,108,32,103,111,116,111,32]⟩))),(.t 23)]),jtu 25 20 24,jp 26 20 25,jm 2 26]
def F25_:AFun:=⟨1,.seq (R F25_r0 [0] []) (.seq (R F25_r1 [2] []) (.ret)),[.t 2]⟩
def F26_r0:List AIns:=[jf_ 4]
def F26_r1:List AIns:=[jm 9 0,jg 10 9,jm 11 1,jg 12 11,ii 13 (.bin .neq (.t 10) (.t 12))]
def F26_r2:List AIns:=[jf_ 4]
def F26_r3:List AIns:=[ii 14 (.mkm (.int2 .i64)),jm 5 14]
def F26_r4:List AIns:=[jm 15 0,jg 16 15,jc 17 0]
def F26_r5:List AIns:=[jq 18 17 16]
def F26_r6:List AIns:=[jm 19 17,jx 20 1 15 17,jl 21 20,jm 6 19,jm 7 21]
def F26_r7:List AIns:=[jm 22 1,jm 23 6,jx 24 1 22 23,jl 25 24,ii 26 (cl N49_ [25]),jm 27 7,ii 28 (.build Z5 [(0,1,(.t 26)),(1,1,(.t 27))]),ii 8 (.alloc true Z5),jns 2 8 28]
def F26_r8:List AIns:=[jm 29 7,ii 30 (cl N50_ [29]),ju 31 30,jm 32 31,jfm 33 32 5,jfk 34 32 2 8,iF 35 32 (.lk (.int2 .i64) (.lit (.bool false)) false (.t 33) (.t 34)),jP 36 32 35]
def F26_r9:List AIns:=[jf_ 4]
def F26_r10:List AIns:=[jm 37 5,jk 38 2 8,⟨none,none,.mu (.int2 .i64) (.t 37) (.t 38) (.c (.lit (.bool true)))⟩]
def F26_r11:List AIns:=[jA 39 17 1,jm 17 39]
def F26_l1:AC:=.seq (R F26_r5 [1,5,15,16,17,18] []) (.seq (.cond (.t 18) (.skip) (.exit 0)) (.seq (.block 1 (.seq (R F26_r6 [1,5,6,7,15,16,17] []) (.seq (R F26_r7 [1,5,7,8,15,16,17] [8]) (.seq (.seq (R F26_r8 [1,5,8,15,16,17,36] [8]) (.cond (.t 36) (.seq (R F26_r9 [4] []) (.ret)) (.skip))) (R F26_r10 [1,5,15,16,17] []))))) (R F26_r11 [1,5,15,16,17] [])))
def F26_r12:List AIns:=[ii 4 (.mv (.c (.lit (.bool true))))]
def F26_:AFun:=⟨2,.seq (R F26_r0 [0,1] []) (.seq (.seq (R F26_r1 [0,1,13] []) (.cond (.t 13) (.seq (R F26_r2 [4] []) (.ret)) (.skip))) (.seq (R F26_r3 [0,1,5] []) (.seq (.seq (R F26_r4 [1,5,15,16,17] []) (.block 0 (.loop F26_l1))) (.seq (R F26_r12 [4] []) (.ret))))),[.t 4]⟩
def F27_r0:List AIns:=[ii 4 (.alloc true Z7)]
def F27_r1:List AIns:=[ii 10 (.mkm (.int .i64)),ii 11 (.mkm (.int .i64)),ii 12 (.build Z7 [(0,1,(.t 10)),(1,1,(.t 11))]),ii 5 (.alloc true Z7),jns 2 5 12]
def F27_r2:List AIns:=[jm 13 0,jg 14 13,jc 15 0]
def F27_r3:List AIns:=[jq 16 15 14]
def F27_r4:List AIns:=[jx 17 1 13 15,jl 18 17,jm 7 18]
def F27_r5:List AIns:=[ii 19 (.iaa 2 1 (.t 5) (.c (.lit (.int .i64 0)))),jl 20 19,jm 21 7,⟨none,none,.mu (.int .i64) (.t 20) (.t 21) (.c (.lit (.bool true)))⟩]
def F27_r6:List AIns:=[jA 22 15 1,jm 15 22]
def F27_l1:AC:=.seq (R F27_r3 [1,4,5,13,14,15,16] [4,5]) (.seq (.cond (.t 16) (.skip) (.exit 0)) (.seq (.block 1 (.seq (R F27_r4 [1,4,5,7,13,14,15] [4,5]) (R F27_r5 [1,4,5,13,14,15] [4,5]))) (R F27_r6 [1,4,5,13,14,15] [4,5])))
def F27_r7:List AIns:=[jm 23 1,jg 24 23,jc 25 0]
def F27_r8:List AIns:=[jq 26 25 24]
def F27_r9:List AIns:=[jx 27 1 23 25,jl 28 27,jm 9 28]
def F27_r10:List AIns:=[ii 29 (.iaa 2 1 (.t 5) (.c (.lit (.int .i64 1)))),jl 30 29,jm 31 9,⟨none,none,.mu (.int .i64) (.t 30) (.t 31) (.c (.lit (.bool true)))⟩]
def F27_r11:List AIns:=[jA 32 25 1,jm 25 32]
def F27_l2:AC:=.seq (R F27_r8 [4,5,23,24,25,26] [4,5]) (.seq (.cond (.t 26) (.skip) (.exit 2)) (.seq (.block 3 (.seq (R F27_r9 [4,5,9,23,24,25] [4,5]) (R F27_r10 [4,5,23,24,25] [4,5]))) (R F27_r11 [4,5,23,24,25] [4,5])))
def F27_r12:List AIns:=[jk 33 2 5,jns 2 4 33]
def F27_:AFun:=⟨2,.seq (R F27_r0 [0,1,4] [4]) (.seq (R F27_r1 [0,1,4,5] [4,5]) (.seq (.seq (R F27_r2 [1,4,5,13,14,15] [4,5]) (.block 0 (.loop F27_l1))) (.seq (.seq (R F27_r7 [4,5,23,24,25] [4,5]) (.block 2 (.loop F27_l2))) (.seq (R F27_r12 [4] [4]) (.ret))))),[.cell (some 2) 4]⟩
def F28_r0:List AIns:=[ii 3 (.box false (.t 0)),ii 6 (.mv (.c (.lit .nilFunc)))]
def F28_r1:List AIns:=[ii 7 (.alloc false [.slice .full 2 []])]
def F28_r2:List AIns:=[jm 11 1,jg 12 11,jc 13 0]
def F28_r3:List AIns:=[jq 14 13 12]
def F28_r4:List AIns:=[jm 15 13,jx 16 1 11 13,jl 17 16,jm 8 15,jm 9 17]
def F28_r5:List AIns:=[jm 18 2,jm 19 8,jx 20 1 18 19,jl 21 20,ii 22 (cl N49_ [21]),jm 10 22]
def F28_r6:List AIns:=[jm 23 10,ii 24 (.iaa 2 1 (.t 3) (.t 23)),jL 25 24,jm 26 9,ii 27 (.lk (.int .i64) (.lit (.bool false)) false (.t 25) (.t 26)),ju 28 27]
def F28_r7:List AIns:=[jm 29 10,ii 30 (.iaa 2 1 (.t 3) (.t 29)),jL 31 30,jm 32 9,⟨none,none,.mu (.int .i64) (.t 31) (.t 32) (.c (.lit (.bool true)))⟩]
def F28_r8:List AIns:=[jL 33 7,jm 34 10,jm 35 9,ii 36 (.build Z5 [(0,1,(.t 34)),(1,1,(.t 35))]),jB 37 2 36,ii 38 (.app 2 16 (.t 33) (.t 37)),jnS 1 7 38]
def F28_r9:List AIns:=[jA 39 13 1,jm 13 39]
def F28_l1:AC:=.seq (R F28_r3 [2,3,7,11,12,13,14] []) (.seq (.cond (.t 14) (.skip) (.exit 0)) (.seq (.block 1 (.seq (R F28_r4 [2,3,7,8,9,11,12,13] []) (.seq (R F28_r5 [2,3,7,9,10,11,12,13] []) (.seq (R F28_r6 [2,3,7,9,10,11,12,13,28] []) (.cond (.t 28) (.seq (R F28_r7 [2,3,7,9,10,11,12,13] []) (R F28_r8 [2,3,7,11,12,13] [])) (.skip)))))) (R F28_r9 [2,3,7,11,12,13] [])))
def F28_r10:List AIns:=[ii 40 (.mkf N51_ [] [(.t 7),(.t 3)]),jm 6 40]
def F28_:AFun:=⟨3,.seq (R F28_r0 [1,2,3] []) (.seq (R F28_r1 [1,2,3,7] []) (.seq (.seq (R F28_r2 [2,3,7,11,12,13] []) (.block 0 (.loop F28_l1))) (.seq (R F28_r10 [6] []) (.ret)))),[.t 6]⟩
def F29_r0:List AIns:=[ii 2 (.mv (.c (.slice .full 1 [])))]
def F29_r1:List AIns:=[ii 3 (.mv (.c (.slice .full 1 [])))]
def F29_r2:List AIns:=[jm 6 0,jg 7 6,jc 8 0]
def F29_r3:List AIns:=[jq 9 8 7]
def F29_r4:List AIns:=[jx 10 2 6 8,jk 11 2 10,ii 5 (.alloc true Z4),jns 2 5 11]
def F29_r5:List AIns:=[jm 12 3,ja 13 1 5,jl 14 13,jB 15 1 14,ii 16 (.app 1 1 (.t 12) (.t 15)),jm 3 16]
def F29_r6:List AIns:=[jA 17 8 1,jm 8 17]
def F29_l1:AC:=.seq (R F29_r3 [3,6,7,8,9] []) (.seq (.cond (.t 9) (.skip) (.exit 0)) (.seq (.block 1 (.seq (R F29_r4 [3,5,6,7,8] [5]) (R F29_r5 [3,6,7,8] []))) (R F29_r6 [3,6,7,8] [])))
def F29_r7:List AIns:=[jm 18 3,jm 2 18]
def F29_:AFun:=⟨1,.seq (R F29_r0 [0] []) (.seq (R F29_r1 [0,3] []) (.seq (.seq (R F29_r2 [3,6,7,8] []) (.block 0 (.loop F29_l1))) (.seq (R F29_r7 [2] []) (.ret)))),[.t 2]⟩
def F30_r0:List AIns:=[jb 5 1,jb 6 2,jf_ 8]
def F30_r1:List AIns:=[jm 14 0,jh 15 14,ja 16 2 15,jL 17 16,ii 18 (.bin .sub (.t 17) (.c (.lit (.int .i64 1)))),jh 19 14,ja 20 2 19,jnS 1 20 18]
def F30_r2:List AIns:=[jm 21 0,jh 22 21,ja 23 2 22,jL 24 23,ii 25 (.bin .lss (.t 24) (.c (.lit (.int .i64 0)))),jm 26 25,jfm 27 26 3,iF 28 26 (.bin .gtr (.t 27) (.c (.lit (.int .i64 4000)))),jP 29 26 28]
def F30_r3:List AIns:=[jf_ 8]
def F30_r4:List AIns:=[ja 30 0 6,jl 31 30,ii 32 (.bin .neq (.t 31) (.c (.lit (.int .i64 4)))),jm 33 32,jta 34 33 0 6,jtl 35 33 34,it 36 33 (.bin .neq (.t 35) (.c (.lit (.int .i64 8)))),jp 37 33 36,jm 38 37,jta 39 38 4 6,jtl 40 38 39,jtg 41 38 40,it 42 38 (.bin .neq (.t 41) (.c (.lit (.int .i64 0)))),jp 43 38 42]
def F30_r5:List AIns:=[jf_ 8]
def F30_r6:List AIns:=[ja 44 2 6,jl 45 44,ii 46 (.bin .geq (.t 45) (.c (.lit (.int .i64 0)))),jm 47 46,jta 48 47 2 6,jtl 49 47 48,jtm 50 47 0,jth 51 47 50,jta 52 47 0 51,jtL 53 47 52,jtg 54 47 53,it 55 47 (.bin .leq (.t 49) (.t 54)),jp 56 47 55,jm 9 56]
def F30_r7:List AIns:=[ja 57 0 6,jl 58 57]
def F30_r8:List AIns:=[je 60 58 0,jm 59 60]
def F30_r9:List AIns:=[je 61 58 5,jm 59 61]
def F30_r10:List AIns:=[ja 62 2 6,jl 63 62,je 64 63 0,jm 65 64,jta 66 65 3 6,jtl 67 65 66,jtg 68 65 67,jte 69 65 68 0,jp 70 65 69,jm 71 70,jta 72 71 1 6,jtl 73 71 72,it 74 71 (cl N50_ [73]),jp 75 71 74,jm 76 75,jta 77 76 0 6,jtl 78 76 77,it 79 76 (cl N16_ [78]),it 80 76 (.iaa 2 1 (.t 5) (.t 79)),jtl 81 76 80,jta 82 76 1 6,jtl 83 76 82,it 84 76 (.lk (.int .i64) (.lit (.bool false)) false (.t 81) (.t 83)),jp 85 76 84,jm 8 85]
def F30_r11:List AIns:=[je 87 58 1,jm 86 87]
def F30_r12:List AIns:=[ja 88 2 6,jl 89 88,je 90 89 0,jm 91 90,jta 92 91 3 6,jtl 93 91 92,jtg 94 91 93,jte 95 91 94 0,jp 96 91 95,jm 8 96]
def F30_r13:List AIns:=[je 98 58 2,jm 97 98]
def F30_r14:List AIns:=[je 99 58 6,jm 97 99]
def F30_r15:List AIns:=[jm 101 0,ja 102 2 6,jl 103 102,ja 104 1 6,jl 105 104,ja 106 0 6,jl 107 106,je 108 107 6,ii 109 (cl N52_ [101,103,105,108]),jm 100 109,jz 110 100 0,jz 111 100 1,ii 10 (.alloc true Z3),jns 2 10 110,jm 11 111]
def F30_r16:List AIns:=[jm 112 11,jm 113 112,jtm 114 113 0,jtk 115 113 2 5,jta 116 113 3 6,jtl 117 113 116,jta 118 113 1 10,jtl 119 113 118,jtm 120 113 3,it 121 113 (cl N53_ [114,115,117,119,120]),jp 122 113 121,jm 8 122]
def F30_r17:List AIns:=[je 124 58 3,jm 123 124]
def F30_r18:List AIns:=[je 125 58 7,jm 123 125]
def F30_r19:List AIns:=[jm 126 9,ju 127 126,jm 128 127,jfa 129 128 1 6,jfl 130 128 129,iF 131 128 (cl N50_ [130]),jfu 132 128 131,jP 133 128 132]
def F30_r20:List AIns:=[jf_ 8]
def F30_r21:List AIns:=[jk 134 2 5,ja 135 1 6,jl 136 135,jB 137 1 136,ja 138 0 6,jl 139 138,je 140 139 3,jB 141 1 140,ii 142 (cl N28_ [134,137,141]),jm 12 142]
def F30_r22:List AIns:=[jm 143 0,jk 144 2 5,ja 145 3 6,jl 146 145,jm 147 3,ii 148 (.bsl 1 [(.c (.lit (.int .i64 2)))]),ii 149 (cl N54_ [143,144,146,147,148]),jm 13 149]
def F30_r23:List AIns:=[jm 150 12,ii 151 (.call (.t 150) [])]
def F30_r24:List AIns:=[jm 152 13,jm 8 152]
def F30_r25:List AIns:=[je 154 58 4,jm 153 154]
def F30_r26:List AIns:=[je 155 58 8,jm 153 155]
def F30_r27:List AIns:=[ja 156 1 6,jl 157 156,je 158 157 0,jm 159 158,jta 160 159 3 6,jtl 161 159 160,jtg 162 159 161,jte 163 159 162 0,jp 164 159 163,jm 165 164,jta 166 165 2 6,jtl 167 165 166,it 168 165 (.bin .geq (.t 167) (.c (.lit (.int .i64 1)))),jp 169 165 168,jm 170 169,jtm 171 170 9,jp 172 170 171,jm 173 172,jtm 174 173 0,jth 175 173 174,jta 176 173 0 175,jtL 177 173 176,jta 178 173 2 6,jtl 179 173 178,it 180 173 (.bin .sub (.t 179) (.c (.lit (.int .i64 1)))),jtx 181 173 3 177 180,jta 182 173 1 181,jtl 183 173 182,jta 184 173 0 6,jtl 185 173 184,jte 186 173 185 4,it 187 173 (.beq false (.t 183) (.t 186)),jp 188 173 187,jm 189 188,jtm 190 189 0,jtk 191 189 2 5,jtk 192 189 5 6,jtm 193 189 3,it 194 189 (cl N55_ [190,191,192,193]),jp 195 189 194,jm 8 195]
def F30_r28:List AIns:=[je 197 58 9,jm 196 197]
def F30_r29:List AIns:=[ja 198 1 6,jl 199 198,je 200 199 0,jm 201 200,jtm 202 201 9,jp 203 201 202,jm 204 203,jtm 205 204 0,jtk 206 204 2 5,jta 207 204 3 6,jtl 208 204 207,jtm 209 204 3,it 210 204 (.bsl 1 [(.c (.lit (.int .i64 0))),(.c (.lit (.int .i64 1)))]),it 211 204 (cl N54_ [205,206,208,209,210]),jp 212 204 211,jm 8 212]
def F30_r30:List AIns:=[je 214 58 10,jm 213 214]
def F30_r31:List AIns:=[ja 215 2 6,jl 216 215,je 217 216 0,jm 218 217,jta 219 218 1 6,jtl 220 218 219,it 221 218 (.bin .geq (.t 220) (.c (.lit (.int .i64 0)))),jp 222 218 221,jm 223 222,jta 224 223 1 6,jtl 225 223 224,it 226 223 (.bin .leq (.t 225) (.c (.lit (.int .i64 6)))),jp 227 223 226,jm 228 227,jtm 229 228 0,jtk 230 228 2 5,jta 231 228 3 6,jtl 232 228 231,jtm 233 228 3,it 234 228 (.bsl 1 [(.c (.lit (.int .i64 0))),(.c (.lit (.int .i64 0))),(.c (.lit (.int .i64 1)))]),it 235 228 (cl N54_ [229,230,232,233,234]),jp 236 228 235,jm 8 236]
def F30_r32:List AIns:=[je 238 58 11,jm 237 238]
def F30_r33:List AIns:=[ja 239 2 6,jl 240 239,je 241 240 0,jm 242 241,jta 243 242 1 6,jtl 244 242 243,jte 245 242 244 0,jp 246 242 245,jm 247 246,jtm 248 247 0,jtk 249 247 2 5,jta 250 247 3 6,jtl 251 247 250,jtm 252 247 3,it 253 247 (.bsl 1 [(.c (.lit (.int .i64 0))),(.c (.lit (.int .i64 2))),(.c (.lit (.int .i64 2)))]),it 254 247 (cl N54_ [248,249,251,252,253]),jp 255 247 254,jm 8 255]
def F30_r34:List AIns:=[je 257 58 12,jm 256 257]
def F30_r35:List AIns:=[ja 258 2 6,jl 259 258,je 260 259 0,jm 261 260,jta 262 261 1 6,jtl 263 261 262,jte 264 261 263 0,jp 265 261 264,jm 266 265,jtm 267 266 0,jtk 268 266 2 5,jta 269 266 3 6,jtl 270 266 269,jtm 271 266 3,it 272 266 (.bsl 1 [(.c (.lit (.int .i64 0))),(.c (.lit (.int .i64 2)))]),it 273 266 (cl N54_ [267,268,270,271,272]),jp 274 266 273,jm 8 274]
def F30_r36:List AIns:=[je 276 58 13,jm 275 276]
def F30_r37:List AIns:=[ja 277 2 6,jl 278 277,je 279 278 0,jm 280 279,jta 281 280 1 6,jtl 282 280 281,it 283 280 (.bin .geq (.t 282) (.c (.lit (.int .i64 0)))),jp 284 280 283,jm 285 284,jta 286 285 1 6,jtl 287 285 286,jtm 288 285 0,jth 289 285 288,jta 290 285 1 289,jtL 291 285 290,jtg 292 285 291,jtq 293 285 287 292,jp 294 285 293,jm 295 294,jtm 296 295 0,jtk 297 295 2 5,jta 298 295 3 6,jtl 299 295 298,jtm 300 295 0,jth 301 295 300,jta 302 295 1 301,jtL 303 295 302,jta 304 295 1 6,jtl 305 295 304,jtx 306 295 8 303 305,jta 307 295 1 306,jtl 308 295 307,jtm 309 295 3,it 310 295 (cl N53_ [296,297,299,308,309]),jp 311 295 310,jm 8 311]
def F30_r38:List AIns:=[je 313 58 14,jm 312 313]
def F30_r39:List AIns:=[ja 314 2 6,jl 315 314,je 316 315 0,jm 317 316,jta 318 317 1 6,jtl 319 317 318,jte 320 317 319 0,jp 321 317 320,jm 322 321,jtm 323 322 0,jtk 324 322 2 5,jta 325 322 3 6,jtl 326 322 325,jtm 327 322 3,it 328 322 (.bsl 1 [(.c (.lit (.int .i64 0)))]),it 329 322 (cl N54_ [323,324,326,327,328]),jp 330 322 329,jm 8 330]
def F30_r40:List AIns:=[jf_ 8]
def F30_:AFun:=⟨4,.seq (R F30_r0 [0,3,5,6] [5,6]) (.seq (R F30_r1 [0,3,5,6] [5,6]) (.seq (.seq (R F30_r2 [0,3,5,6,29] [5,6]) (.cond (.t 29) (.seq (R F30_r3 [8] []) (.ret)) (.skip))) (.seq (.seq (R F30_r4 [0,3,5,6,43] [5,6]) (.cond (.t 43) (.seq (R F30_r5 [8] []) (.ret)) (.skip))) (.seq (R F30_r6 [0,3,5,6,9] [5,6]) (.seq (.seq (R F30_r7 [0,3,5,6,9,58] [5,6]) (.block 0 (.seq (.seq (R F30_r8 [0,3,5,6,9,58,59] [5,6]) (.cond (.t 59) (.skip) (R F30_r9 [0,3,5,6,9,58,59] [5,6]))) (.cond (.t 59) (.seq (R F30_r10 [8] []) (.ret)) (.seq (R F30_r11 [0,3,5,6,9,58,86] [5,6]) (.cond (.t 86) (.seq (R F30_r12 [8] []) (.ret)) (.seq (.seq (R F30_r13 [0,3,5,6,9,58,97] [5,6]) (.cond (.t 97) (.skip) (R F30_r14 [0,3,5,6,9,58,97] [5,6]))) (.cond (.t 97) (.seq (R F30_r15 [0,3,5,6,10,11] [5,6,10]) (.seq (R F30_r16 [8] []) (.ret))) (.seq (.seq (R F30_r17 [0,3,5,6,9,58,123] [5,6]) (.cond (.t 123) (.skip) (R F30_r18 [0,3,5,6,9,58,123] [5,6]))) (.cond (.t 123) (.seq (.seq (R F30_r19 [0,3,5,6,133] [5,6]) (.cond (.t 133) (.seq (R F30_r20 [8] []) (.ret)) (.skip))) (.seq (R F30_r21 [0,3,5,6,12] [5,6]) (.seq (R F30_r22 [12,13] []) (.seq (R F30_r23 [13] []) (.seq (R F30_r24 [8] []) (.ret)))))) (.seq (.seq (R F30_r25 [0,3,5,6,9,58,153] [5,6]) (.cond (.t 153) (.skip) (R F30_r26 [0,3,5,6,9,58,153] [5,6]))) (.cond (.t 153) (.seq (R F30_r27 [8] []) (.ret)) (.seq (R F30_r28 [0,3,5,6,9,58,196] [5,6]) (.cond (.t 196) (.seq (R F30_r29 [8] []) (.ret)) (.seq (R F30_r30 [0,3,5,6,58,213] [5,6]) (.cond (.t 213) (.seq (R F30_r31 [8] []) (.ret)) (.seq (R F30_r32 [0,3,5,6,58,237] [5,6]) (.cond (.t 237) (.seq (R F30_r33 [8] []) (.ret)) (.seq (R F30_r34 [0,3,5,6,58,256] [5,6]) (.cond (.t 256) (.seq (R F30_r35 [8] []) (.ret)) (.seq (R F30_r36 [0,3,5,6,58,275] [5,6]) (.cond (.t 275) (.seq (R F30_r37 [8] []) (.ret)) (.seq (R F30_r38 [0,3,5,6,312] [5,6]) (.cond (.t 312) (.seq (R F30_r39 [8] []) (.ret)) (.skip))))))))))))))))))))))))) (.seq (R F30_r40 [8] []) (.ret))))))),[.t 8]⟩
def F31_r0:List AIns:=[jb 3 1,jc 4 0,jf_ 5]
def F31_r1:List AIns:=[jm 9 0,ja 10 0 3,jl 11 10,je 12 11 5,ii 13 (cl N56_ [12]),jh 14 9,ja 15 2 14,ii 16 (.iaa 2 1 (.t 15) (.t 13)),jL 17 16,ja 18 1 3,jl 19 18,ii 20 (.lk (.int .i64) (.lit (.int .i64 0)) true (.t 17) (.t 19)),jm 8 20,jz 21 8 0,jz 22 8 1,jm 6 21,jm 7 22]
def F31_r2:List AIns:=[jm 23 6,jm 24 7,jm 4 23,jm 5 24]
def F31_:AFun:=⟨2,.seq (R F31_r0 [0,3] [3]) (.seq (R F31_r1 [6,7] []) (.seq (R F31_r2 [4,5] []) (.ret))),[.t 4,.t 5]⟩
def F32_r0:List AIns:=[jb 3 1,jc 4 0,jf_ 5]
def F32_r1:List AIns:=[jc 4 0,ii 5 (.mv (.c (.lit (.bool true))))]
def F32_:AFun:=⟨2,.seq (R F32_r0 [] []) (.seq (R F32_r1 [4,5] []) (.ret)),[.t 4,.t 5]⟩
def F33_r0:List AIns:=[jb 3 1,jc 4 0,jf_ 5]
def F33_r1:List AIns:=[ja 6 2 3,jl 7 6,jm 8 0,ja 9 3 3,jl 10 9,jm 11 0,jh 12 11,ja 13 0 12,ja 14 0 13,jL 15 14,ja 16 2 3,jl 17 16,ii 18 (.bin .sub (.t 17) (.c (.lit (.int .i64 1)))),jx 19 3 15 18,ja 20 2 19,jl 21 20,ja 22 1 3,jl 23 22,jx 24 2 21 23,ja 25 1 24,jl 26 25,ii 27 (cl N58_ [26]),ii 28 (cl N57_ [8,10,27]),jm 4 7,jm 5 28]
def F33_:AFun:=⟨2,.seq (R F33_r0 [0,3] [3]) (.seq (R F33_r1 [4,5] []) (.ret)),[.t 4,.t 5]⟩
def F34_r0:List AIns:=[jb 3 1,jc 4 0,jf_ 5]
def F34_r1:List AIns:=[jm 6 0,ja 7 1 3,jl 8 7,jB 9 1 8,ja 10 2 3,jl 11 10,ja 12 0 3,jl 13 12,je 14 13 3,ii 15 (.build Z4 [(0,1,(.t 11)),(1,1,(.t 14))]),jB 16 2 15,ii 17 (cl N43_ [6,9,16]),⟨none,none,.dfr (.t 17) []⟩]
def F34_r2:List AIns:=[ja 18 2 3,jl 19 18,jm 20 0,ja 21 3 3,jl 22 21,ii 23 (.bsl 1 [(.c (.lit (.int .i64 0)))]),ii 24 (cl N57_ [20,22,23]),jm 4 19,jm 5 24]
def F34_:AFun:=⟨2,.seq (R F34_r0 [0,3] [3]) (.seq (R F34_r1 [0,3] [3]) (.seq (R F34_r2 [4,5] []) (.ret))),[.t 4,.t 5]⟩
def F35_r0:List AIns:=[jb 3 1,jc 4 0,jf_ 5]
def F35_r1:List AIns:=[ja 10 4 3,jl 11 10,jg 12 11,jc 13 0]
def F35_r2:List AIns:=[jq 14 13 12]
def F35_r3:List AIns:=[jm 15 13,jx 16 7 11 13,jk 17 7 16,ii 7 (.alloc true Z1),jm 6 15,jns 7 7 17]
def F35_r4:List AIns:=[jm 18 0,ja 19 0 7,jl 20 19,jm 21 0,jh 22 21,ja 23 0 22,ja 24 0 23,jL 25 24,ja 26 2 3,jl 27 26,ii 28 (.bin .sub (.t 27) (.c (.lit (.int .i64 1)))),jx 29 3 25 28,ja 30 2 29,jl 31 30,jm 32 6,jx 33 2 31 32,ja 34 1 33,jl 35 34,ii 36 (cl N43_ [18,20,35]),jm 8 36]
def F35_r5:List AIns:=[jm 37 0,ja 38 2 7,jk 39 5 38,jB 40 5 39,ii 41 (.bsl 1 [(.c (.lit (.int .i64 0)))]),ii 42 (cl N57_ [37,40,41]),jm 9 42]
def F35_r6:List AIns:=[jm 43 8,ii 44 (.call (.t 43) [])]
def F35_r7:List AIns:=[jm 45 9,ju 46 45]
def F35_r8:List AIns:=[jc 4 0,jf_ 5]
def F35_r9:List AIns:=[jA 47 13 1,jm 13 47]
def F35_l1:AC:=.seq (R F35_r2 [0,3,11,12,13,14] [3]) (.seq (.cond (.t 14) (.skip) (.exit 0)) (.seq (.block 1 (.seq (R F35_r3 [0,3,6,7,11,12,13] [3,7]) (.seq (R F35_r4 [0,3,7,8,11,12,13] [3,7]) (.seq (R F35_r5 [0,3,8,9,11,12,13] [3]) (.seq (R F35_r6 [0,3,9,11,12,13] [3]) (.seq (R F35_r7 [0,3,11,12,13,46] [3]) (.cond (.t 46) (.seq (R F35_r8 [4,5] []) (.ret)) (.skip)))))))) (R F35_r9 [0,3,11,12,13] [3])))
def F35_r10:List AIns:=[ja 48 2 3,jl 49 48,jm 4 49,ii 5 (.mv (.c (.lit (.bool true))))]
def F35_:AFun:=⟨2,.seq (R F35_r0 [0,3] [3]) (.seq (.seq (R F35_r1 [0,3,11,12,13] [3]) (.block 0 (.loop F35_l1))) (.seq (R F35_r10 [4,5] []) (.ret))),[.t 4,.t 5]⟩
def F36_r0:List AIns:=[jb 3 1,jc 4 0,jf_ 5]
def F36_r1:List AIns:=[jm 6 0,ja 7 3 3,jl 8 7,ja 9 2 3,jl 10 9,ja 11 2 3,jl 12 11,ii 13 (.bsl 1 [(.t 10),(.t 12)]),ii 14 (cl N57_ [6,8,13]),jc 4 0,jm 5 14]
def F36_:AFun:=⟨2,.seq (R F36_r0 [0,3] [3]) (.seq (R F36_r1 [4,5] []) (.ret)),[.t 4,.t 5]⟩
def F37_r0:List AIns:=[jb 3 1,jc 4 0,jf_ 5]
def F37_r1:List AIns:=[jm 6 0,ja 7 3 3,jl 8 7,ii 9 (.bsl 1 [(.c (.lit (.int .i64 0))),(.c (.lit (.int .i64 0))),(.c (.lit (.int .i64 0)))]),ii 10 (cl N57_ [6,8,9]),jc 4 0,jm 5 10]
def F37_:AFun:=⟨2,.seq (R F37_r0 [0,3] [3]) (.seq (R F37_r1 [4,5] []) (.ret)),[.t 4,.t 5]⟩
def F38_r0:List AIns:=[jb 3 1,jc 4 0,jf_ 5]
def F38_r1:List AIns:=[jm 6 0,ja 7 3 3,jl 8 7,ii 9 (.bsl 1 [(.c (.lit (.int .i64 0))),(.c (.lit (.int .i64 0))),(.c (.lit (.int .i64 0)))]),ii 10 (cl N57_ [6,8,9]),jc 4 0,jm 5 10]
def F38_:AFun:=⟨2,.seq (R F38_r0 [0,3] [3]) (.seq (R F38_r1 [4,5] []) (.ret)),[.t 4,.t 5]⟩
def F39_r0:List AIns:=[jb 3 1,jc 4 0,jf_ 5]
def F39_r1:List AIns:=[jm 6 0,ja 7 3 3,jl 8 7,jm 9 0,jh 10 9,ja 11 0 10,ja 12 1 11,jL 13 12,ja 14 1 3,jl 15 14,jx 16 8 13 15,ja 17 1 16,jl 18 17,ii 19 (cl N58_ [18]),ii 20 (cl N57_ [6,8,19]),jc 4 0,jm 5 20]
def F39_:AFun:=⟨2,.seq (R F39_r0 [0,3] [3]) (.seq (R F39_r1 [4,5] []) (.ret)),[.t 4,.t 5]⟩
def F40_r0:List AIns:=[jb 2 0]
def F40_r1:List AIns:=[jk 6 5 2,ii 7 (cl N41_ [6]),ii 3 (.alloc true Z7),jns 2 3 7]
def F40_r2:List AIns:=[jc 8 0]
def F40_r3:List AIns:=[ii 9 (.bin .lss (.t 8) (.c (.lit (.int .i64 2))))]
def F40_r4:List AIns:=[jm 10 8,jm 4 10]
def F40_r5:List AIns:=[jm 11 4,ii 12 (.iaa 2 1 (.t 3) (.t 11)),jl 13 12]
def F40_r7:List AIns:=[jz 18 17 0,jm 5 18]
def F40_r8:List AIns:=[jL 19 1,jm 20 4,jh 21 19,ja 22 0 21,ii 23 (.iaa 2 1 (.t 22) (.t 20)),jL 24 23,jm 25 5,⟨none,none,.mu (.int .i64) (.t 24) (.t 25) (.c (.lit (.bool true)))⟩]
def F40_l2:AC:=R F40_r8 [1,3,4,8,14] [3]
def F40_r9:List AIns:=[jA 26 8 1,jm 8 26]
def F40_l1:AC:=.seq (R F40_r3 [1,3,8,9] [3]) (.seq (.cond (.t 9) (.skip) (.exit 0)) (.seq (.block 1 (.seq (R F40_r4 [1,3,4,8] [3]) (.rmap F40_r5 (.int .i64) (.t 13) 14 15 16 2 3 17 F40_r7 [1,3,4,5,8,14] [3] F40_l2 [1,3,8] [3]))) (R F40_r9 [1,3,8] [3])))
def F40_:AFun:=⟨2,.seq (R F40_r0 [1,2] [2]) (.seq (R F40_r1 [1,3] [3]) (.seq (R F40_r2 [1,3,8] [3]) (.block 0 (.loop F40_l1)))),[]⟩
def F41_r0:List AIns:=[jb 1 0,ii 2 (.alloc true Z7)]
def F41_r1:List AIns:=[ii 4 (.mkm (.int .i64)),ii 5 (.mkm (.int .i64)),ii 6 (.build Z7 [(0,1,(.t 4)),(1,1,(.t 5))]),ii 3 (.alloc true Z7),jns 2 3 6]
def F41_r2:List AIns:=[jk 7 5 1,ii 8 (.mkm (.int .i64)),ii 9 (.mkm (.int .i64)),ii 10 (.build Z7 [(0,1,(.t 8)),(1,1,(.t 9))]),jk 11 2 3,ii 12 (cl N59_ [7,10,11])]
def F41_r3:List AIns:=[jk 13 2 3,jns 2 2 13]
def F41_:AFun:=⟨1,.seq (R F41_r0 [1,2] [1,2]) (.seq (R F41_r1 [1,2,3] [1,2,3]) (.seq (R F41_r2 [2,3] [2,3]) (.seq (R F41_r3 [2] [2]) (.ret)))),[.cell (some 2) 2]⟩
def F42_r0:List AIns:=[ii 3 (.box false (.t 1)),ii 4 (.alloc true Z2)]
def F42_r1:List AIns:=[ja 17 0 3,jL 18 17,je 19 18 0,jm 20 19,jfa 21 20 0 3,jfL 22 20 21,jfe 23 20 22 5,jP 24 20 23]
def F42_r2:List AIns:=[jm 26 0,ja 27 0 3,jL 28 27,ii 29 (.callq [3] (.f N16_) [(.t 28)]),jh 30 26,ja 31 5 30,ii 32 (.iaa 2 1 (.t 31) (.t 29)),jL 33 32,ja 34 1 3,ii 35 (.ldo false 3 none (.t 34)),ii 36 (.lk (.int .i64) (.agg Z2) true (.t 33) (.t 35)),jm 25 36,jz 37 25 0,jz 38 25 1,ii 5 (.alloc true Z2),jns 5 5 37,jm 6 38]
def F42_r3:List AIns:=[jm 39 6]
def F42_r4:List AIns:=[jk 41 5 5,ii 42 (cl N60_ [41]),jm 40 42,jz 43 40 0,jz 44 40 1,jm 7 43,jm 8 44]
def F42_r5:List AIns:=[jm 45 0,jh 46 45,ja 47 4 46,jL 48 47,jm 49 7,ii 50 (.bin .sub (.t 48) (.t 49)),jh 51 45,ja 52 4 51,jnS 1 52 50]
def F42_r6:List AIns:=[jm 53 0,jh 54 53,ja 55 4 54,jL 56 55,ii 57 (.bin .lss (.t 56) (.c (.lit (.int .i64 0))))]
def F42_r7:List AIns:=[ii 58 (.build Z2 []),jns 5 4 58]
def F42_r8:List AIns:=[jk 59 5 5,ii 60 (cl N61_ [59]),jns 5 4 60]
def F42_r9:List AIns:=[jm 61 0,jh 62 61,ja 63 4 62,jL 64 63,ii 65 (.bin .sub (.t 64) (.c (.lit (.int .i64 1)))),jh 66 61,ja 67 4 66,jnS 1 67 65]
def F42_r10:List AIns:=[jm 68 0,jh 69 68,ja 70 4 69,jL 71 70,ii 72 (.bin .lss (.t 71) (.c (.lit (.int .i64 0))))]
def F42_r11:List AIns:=[ii 73 (.build Z2 []),jns 5 4 73]
def F42_r12:List AIns:=[jK 75 5 3,ii 76 (cl N62_ [75]),jm 74 76,jz 77 74 0,jz 78 74 1,jm 9 77,jm 10 78]
def F42_r13:List AIns:=[ja 79 3 3,⟨none,none,.st true 1 (.t 79) (.c (.slice .full 5 []))⟩,ja 80 4 3,⟨none,none,.st true 1 (.t 80) (.c (.slice .full 7 []))⟩]
def F42_r14:List AIns:=[ii 11 (.mv (.f N63_))]
def F42_r15:List AIns:=[ja 81 0 3,jL 82 81,je 83 82 3,jm 84 83,jfa 85 84 0 3,jfL 86 84 85,jfe 87 84 86 7,jP 88 84 87]
def F42_r16:List AIns:=[ii 12 (.mv (.c (.slice .full 1 [])))]
def F42_r17:List AIns:=[jm 90 0,ja 91 1 3,jL 92 91,jB 93 1 92,ii 94 (.mkf N65_ [] [(.t 3)]),ii 95 (cl N64_ [90,93,94]),jm 89 95,jz 96 89 0,jz 97 89 1,jm 12 96,jm 11 97]
def F42_r18:List AIns:=[jm 98 12,ii 99 (.ia 1 (.t 98) (.c (.lit (.int .i64 0)))),jL 100 99,ja 101 1 3,jnS 1 101 100]
def F42_r19:List AIns:=[jm 102 9,jg 103 102,jc 104 0]
def F42_r20:List AIns:=[jq 105 104 103]
def F42_r21:List AIns:=[jx 106 5 102 104,jK 107 5 106,ii 14 (.alloc true Z2),jns 5 14 107]
def F42_r22:List AIns:=[ja 108 3 3,ii 109 (.ldo false 3 none (.t 108)),jm 110 0,jk 111 5 14,ii 112 (.callq [3] (.f N42_) [(.t 110),(.t 111)]),jg 113 109,ii 114 (.bsl 5 [(.c (.agg Z2))]),ii 115 (.wop (.appm 5 72) [(.t 109),(.t 114)]),jx 116 5 115 113,⟨none,none,.sts true 5 (.t 116) (.t 112)⟩,ja 117 3 3,⟨none,none,.sts false 1 (.t 117) (.t 115)⟩]
def F42_r23:List AIns:=[jA 118 104 1,jm 104 118]
def F42_l1:AC:=.seq (R F42_r20 [0,3,4,10,11,102,103,104,105] [4]) (.seq (.cond (.t 105) (.skip) (.exit 0)) (.seq (.block 1 (.seq (R F42_r21 [0,3,4,10,11,14,102,103,104] [4,14]) (R F42_r22 [0,3,4,10,11,102,103,104] [4]))) (R F42_r23 [0,3,4,10,11,102,103,104] [4])))
def F42_r24:List AIns:=[jm 119 11,ii 120 (.call (.t 119) [])]
def F42_r25:List AIns:=[jm 121 10,jg 122 121,jc 123 0]
def F42_r26:List AIns:=[jq 124 123 122]
def F42_r27:List AIns:=[jx 125 7 121 123,jK 126 7 125,ii 16 (.alloc true Z1),jns 7 16 126]
def F42_r28:List AIns:=[ja 127 4 3,ii 128 (.ldo false 3 none (.t 127)),jm 129 0,jk 130 7 16,ii 131 (.callq [3] (.f N66_) [(.t 129),(.t 130)]),jg 132 128,ii 133 (.bsl 7 [(.c (.agg Z1))]),ii 134 (.wop (.appm 7 120) [(.t 128),(.t 133)]),jx 135 7 134 132,⟨none,none,.sts true 7 (.t 135) (.t 131)⟩,ja 136 4 3,⟨none,none,.sts false 1 (.t 136) (.t 134)⟩]
def F42_r29:List AIns:=[jA 137 123 1,jm 123 137]
def F42_l2:AC:=.seq (R F42_r26 [0,3,4,121,122,123,124] [4]) (.seq (.cond (.t 124) (.skip) (.exit 2)) (.seq (.block 3 (.seq (R F42_r27 [0,3,4,16,121,122,123] [4,16]) (R F42_r28 [0,3,4,121,122,123] [4]))) (R F42_r29 [0,3,4,121,122,123] [4])))
def F42_r30:List AIns:=[jK 138 5 3,jns 5 4 138]
def F42_:AFun:=⟨2,.seq (R F42_r0 [0,3,4] [4]) (.seq (.seq (R F42_r1 [0,3,4,24] [4]) (.cond (.t 24) (.seq (.reg F42_r2 [5] [0,3,4,5,6] [4,5]) (.seq (R F42_r3 [0,3,4,5,39] [4,5]) (.cond (.t 39) (.seq (R F42_r4 [0,4,5,7] [4,5]) (.seq (.seq (R F42_r5 [0,4,5] [4,5]) (.seq (R F42_r6 [4,5,57] [4,5]) (.cond (.t 57) (.seq (R F42_r7 [4] [4]) (.retz 1 4)) (.skip)))) (.seq (R F42_r8 [4] [4]) (.retz 1 4)))) (.skip)))) (.skip))) (.seq (.seq (R F42_r9 [0,3,4] [4]) (.seq (R F42_r10 [0,3,4,72] [4]) (.cond (.t 72) (.seq (R F42_r11 [4] [4]) (.retz 1 4)) (.skip)))) (.seq (R F42_r12 [0,3,4,9,10] [4]) (.seq (R F42_r13 [0,3,4,9,10] [4]) (.seq (R F42_r14 [0,3,4,9,10,11] [4]) (.seq (.seq (R F42_r15 [0,3,4,9,10,11,88] [4]) (.cond (.t 88) (.seq (R F42_r16 [0,3,4,9,10] [4]) (.seq (R F42_r17 [0,3,4,9,10,11,12] [4]) (R F42_r18 [0,3,4,9,10,11] [4]))) (.skip))) (.seq (.seq (R F42_r19 [0,3,4,10,11,102,103,104] [4]) (.block 0 (.loop F42_l1))) (.seq (R F42_r24 [0,3,4,10] [4]) (.seq (.seq (R F42_r25 [0,3,4,121,122,123] [4]) (.block 2 (.loop F42_l2))) (.seq (R F42_r30 [4] [4]) (.retz 1 4))))))))))),[.cell (some 5) 4]⟩
def F43_r0:List AIns:=[ii 3 (.box false (.t 0)),ii 6 (.mv (.c (.lit .nilFunc)))]
def F43_r1:List AIns:=[ii 7 (.alloc false [.slice .full 4 []])]
def F43_r2:List AIns:=[jm 13 1,jg 14 13,jc 15 0]
def F43_r3:List AIns:=[jq 16 15 14]
def F43_r4:List AIns:=[jm 17 15,jx 18 1 13 15,jl 19 18,jm 8 17,jm 9 19]
def F43_r5:List AIns:=[jm 20 2,jm 21 8,jx 22 2 20 21,ja 23 1 22,jl 24 23,ii 25 (cl N56_ [24]),jm 10 25]
def F43_r6:List AIns:=[jL 27 3,jm 28 10,jh 29 27,ja 30 2 29,ii 31 (.iaa 2 1 (.t 30) (.t 28)),jL 32 31,jm 33 9,ii 34 (.lk (.int .i64) (.lit (.int .i64 0)) true (.t 32) (.t 33)),jm 26 34,jz 35 26 0,jz 36 26 1,jm 11 35,jm 12 36]
def F43_r7:List AIns:=[jL 37 7,jm 38 10,jm 39 9,jm 40 11,jm 41 12,ii 42 (.build [.lit (.int .i64 0),.lit (.int .i64 0),.lit (.int .i64 0),.lit (.bool false)] [(0,1,(.t 38)),(1,1,(.t 39)),(2,1,(.t 40)),(3,1,(.t 41))]),jB 43 4 42,ii 44 (.app 4 32 (.t 37) (.t 43)),jnS 1 7 44]
def F43_r8:List AIns:=[jL 45 3,jm 46 10,jh 47 45,ja 48 2 47,ii 49 (.iaa 2 1 (.t 48) (.t 46)),jL 50 49,jm 51 9,jm 52 2,jm 53 8,jx 54 2 52 53,ja 55 0 54,jl 56 55,⟨none,none,.mu (.int .i64) (.t 50) (.t 51) (.t 56)⟩]
def F43_r9:List AIns:=[jA 57 15 1,jm 15 57]
def F43_l1:AC:=.seq (R F43_r3 [2,3,7,13,14,15,16] []) (.seq (.cond (.t 16) (.skip) (.exit 0)) (.seq (.block 1 (.seq (R F43_r4 [2,3,7,8,9,13,14,15] []) (.seq (R F43_r5 [2,3,7,8,9,10,13,14,15] []) (.seq (R F43_r6 [2,3,7,8,9,10,11,12,13,14,15] []) (.seq (R F43_r7 [2,3,7,8,9,10,13,14,15] []) (R F43_r8 [2,3,7,13,14,15] [])))))) (R F43_r9 [2,3,7,13,14,15] [])))
def F43_r10:List AIns:=[ii 58 (.mkf N67_ [] [(.t 7),(.t 3)]),jm 6 58]
def F43_:AFun:=⟨3,.seq (R F43_r0 [1,2,3] []) (.seq (R F43_r1 [1,2,3,7] []) (.seq (.seq (R F43_r2 [2,3,7,13,14,15] []) (.block 0 (.loop F43_l1))) (.seq (R F43_r10 [6] []) (.ret)))),[.t 6]⟩
def F44_r0:List AIns:=[jb 3 0,jf_ 4]
def F44_r1:List AIns:=[ja 7 0 3,jl 8 7,ii 9 (cl N45_ [8]),ju 10 9,jm 11 10,jfL 12 11 1,jfa 13 11 0 3,jfl 14 11 13,iF 15 11 (.lk .str (.lit (.bool false)) false (.t 12) (.t 14)),jP 16 11 15,jm 17 16,jfa 18 17 1 3,jfl 19 17 18,jfg 20 17 19,iF 21 17 (.bin .gtr (.t 20) (.c (.lit (.int .i64 6)))),jP 22 17 21]
def F44_r2:List AIns:=[jf_ 4]
def F44_r3:List AIns:=[jL 23 1,ja 24 0 3,jl 25 24,⟨none,none,.mu .str (.t 23) (.t 25) (.c (.lit (.bool true)))⟩]
def F44_r4:List AIns:=[ja 26 1 3,jl 27 26,jg 28 27,jc 29 0]
def F44_r5:List AIns:=[jq 30 29 28]
def F44_r6:List AIns:=[jx 31 2 27 29,jk 32 2 31,ii 6 (.alloc true Z4),jns 2 6 32]
def F44_r7:List AIns:=[ja 33 0 6,jl 34 33,ii 35 (.bin .lss (.t 34) (.c (.lit (.int .i64 0)))),jm 36 35,jfa 37 36 0 6,jfl 38 36 37,jfL 39 36 2,jfg 40 36 39,iF 41 36 (.bin .gtr (.t 38) (.t 40)),jP 42 36 41]
def F44_r8:List AIns:=[jf_ 4]
def F44_r9:List AIns:=[jA 43 29 1,jm 29 43]
def F44_l1:AC:=.seq (R F44_r5 [2,27,28,29,30] []) (.seq (.cond (.t 30) (.skip) (.exit 0)) (.seq (.block 1 (.seq (R F44_r6 [2,6,27,28,29] [6]) (.seq (R F44_r7 [2,27,28,29,42] []) (.cond (.t 42) (.seq (R F44_r8 [4] []) (.ret)) (.skip))))) (R F44_r9 [2,27,28,29] [])))
def F44_r10:List AIns:=[ii 4 (.mv (.c (.lit (.bool true))))]
def F44_:AFun:=⟨3,.seq (R F44_r0 [1,2,3] [3]) (.seq (.seq (R F44_r1 [1,2,3,22] [3]) (.cond (.t 22) (.seq (R F44_r2 [4] []) (.ret)) (.skip))) (.seq (R F44_r3 [2,3] [3]) (.seq (.seq (R F44_r4 [2,27,28,29] []) (.block 0 (.loop F44_l1))) (.seq (R F44_r10 [4] []) (.ret))))),[.t 4]⟩
def F45_r0:List AIns:=[jf_ 2]
def F45_r1:List AIns:=[jm 3 0,ii 4 (.len true (.t 3)),ii 5 (.bin .geq (.t 4) (.c (.lit (.int .i64 1)))),jm 6 5,jtm 7 6 0,it 8 6 (.len true (.t 7)),it 9 6 (.bin .leq (.t 8) (.c (.lit (.int .i64 10)))),jp 10 6 9,jm 11 10,jtm 12 11 0,it 13 11 (.ixs (.t 12) (.c (.lit (.int .i64 0)))),it 14 11 (.bin .geq (.t 13) (.c (.lit (.int .u8 65)))),jp 15 11 14,jm 16 15,jtm 17 16 0,it 18 16 (.ixs (.t 17) (.c (.lit (.int .i64 0)))),it 19 16 (.bin .leq (.t 18) (.c (.lit (.int .u8 90)))),jp 20 16 19,jm 21 20,jtm 22 21 0,it 23 21 (.sls (.t 22) (some (.c (.lit (.int .i64 1)))) none),it 24 21 (cl N47_ [23]),jp 25 21 24,jm 2 25]
def F45_:AFun:=⟨1,.seq (R F45_r0 [0] []) (.seq (R F45_r1 [2] []) (.ret)),[.t 2]⟩
def F46_r0:List AIns:=[jf_ 2]
def F46_r1:List AIns:=[jm 3 0,ii 4 (.bin .geq (.t 3) (.c (.lit (.int .u8 97)))),jm 5 4,jtm 6 5 0,it 7 5 (.bin .leq (.t 6) (.c (.lit (.int .u8 122)))),jp 8 5 7,jm 2 8]
def F46_:AFun:=⟨1,.seq (R F46_r0 [0] []) (.seq (R F46_r1 [2] []) (.ret)),[.t 2]⟩
def F47_r0:List AIns:=[jf_ 2]
def F47_r1:List AIns:=[jc 3 0]
def F47_r2:List AIns:=[jm 4 3,jm 5 0,ii 6 (.len true (.t 5)),jq 7 4 6]
def F47_r4:List AIns:=[jm 10 0,jm 11 3,ii 12 (.ixs (.t 10) (.t 11)),ii 13 (cl N46_ [12]),ju 14 13,jm 15 14,jtm 16 15 0,jtm 17 15 3,it 18 15 (.ixs (.t 16) (.t 17)),it 19 15 (.bin .lss (.t 18) (.c (.lit (.int .u8 48)))),jtm 20 15 19,jfm 21 20 0,jfm 22 20 3,iF 23 20 (.ixs (.t 21) (.t 22)),iF 24 20 (.bin .gtr (.t 23) (.c (.lit (.int .u8 57)))),jtP 25 15 20 24,jp 26 15 25]
def F47_r5:List AIns:=[jf_ 2]
def F47_r3:List AIns:=[jm 8 3,jA 9 8 1,jm 3 9]
def F47_l1:AC:=.seq (.seq (R F47_r2 [0,3,7] []) (.cond (.t 7) (.skip) (.exit 0))) (.seq (.block 1 (.seq (R F47_r4 [0,3,26] []) (.cond (.t 26) (.seq (R F47_r5 [2] []) (.ret)) (.skip)))) (R F47_r3 [0,3] []))
def F47_r6:List AIns:=[ii 2 (.mv (.c (.lit (.bool true))))]
def F47_:AFun:=⟨1,.seq (R F47_r0 [0] []) (.seq (.seq (R F47_r1 [0,3] []) (.block 0 (.loop F47_l1))) (.seq (R F47_r6 [2] []) (.ret))),[.t 2]⟩
def F49_r0:List AIns:=[jc 2 0]
def F49_r1:List AIns:=[jm 3 0]
def F49_r2:List AIns:=[jc 2 1]
def F49_r3:List AIns:=[jc 2 0]
def F49_:AFun:=⟨1,.seq (R F49_r0 [0] []) (.seq (.seq (R F49_r1 [3] []) (.cond (.t 3) (.seq (R F49_r2 [2] []) (.ret)) (.skip))) (.seq (R F49_r3 [2] []) (.ret))),[.t 2]⟩
def F50_r0:List AIns:=[jf_ 2]
def F50_r1:List AIns:=[jm 3 0,ii 4 (.bin .geq (.t 3) (.c (.lit (.int .i64 0)))),jm 5 4,jtm 6 5 0,it 7 5 (.bin .leq (.t 6) (.c (.lit (.int .i64 1048576)))),jp 8 5 7,jm 2 8]
def F50_:AFun:=⟨1,.seq (R F50_r0 [0] []) (.seq (R F50_r1 [2] []) (.ret)),[.t 2]⟩
def F51_r0:List AIns:=[jL 4 0,jg 5 4,jc 6 0]
def F51_r1:List AIns:=[jq 7 6 5]
def F51_r2:List AIns:=[jx 8 2 4 6,jk 9 2 8,ii 3 (.alloc true Z5),jns 2 3 9]
def F51_r3:List AIns:=[ii 10 (.iaa 2 1 (.t 3) (.c (.lit (.int .i64 0)))),jl 11 10,ii 12 (.iaa 2 1 (.t 1) (.t 11)),jL 13 12,ii 14 (.iaa 2 1 (.t 3) (.c (.lit (.int .i64 1)))),jl 15 14,⟨none,none,.dl (.int .i64) (.t 13) (.t 15)⟩]
def F51_r4:List AIns:=[jA 16 6 1,jm 6 16]
def F51_l1:AC:=.seq (R F51_r1 [1,4,5,6,7] []) (.seq (.cond (.t 7) (.skip) (.exit 0)) (.seq (.block 1 (.seq (R F51_r2 [1,3,4,5,6] [3]) (R F51_r3 [1,4,5,6] []))) (R F51_r4 [1,4,5,6] [])))
def F51_:AFun:=⟨2,.seq (R F51_r0 [1,4,5,6] []) (.block 0 (.loop F51_l1)),[]⟩
def F52_r0:List AIns:=[ii 8 (.alloc true Z3),jf_ 9]
def F52_r1:List AIns:=[jm 10 1,ii 11 (.bin .lss (.t 10) (.c (.lit (.int .i64 1)))),jm 12 11,jfm 13 12 1,jfm 14 12 0,jfh 15 12 14,jfa 16 12 0 15,jfL 17 12 16,jfg 18 12 17,iF 19 12 (.bin .gtr (.t 13) (.t 18)),jP 20 12 19,jm 21 20,jfm 22 21 0,jfh 23 21 22,jfa 24 21 0 23,jfL 25 21 24,jfm 26 21 1,iF 27 21 (.bin .sub (.t 26) (.c (.lit (.int .i64 1)))),jfx 28 21 3 25 27,jfa 29 21 1 28,jfl 30 21 29,jfm 31 21 3,iF 32 21 (.beq true (.t 30) (.t 31)),jP 33 21 32,jm 34 33,jfm 35 34 2,iF 36 34 (.bin .lss (.t 35) (.c (.lit (.int .i64 0)))),jP 37 34 36,jm 38 37,jfm 39 38 2,jfm 40 38 0,jfh 41 38 40,jfa 42 38 0 41,jfL 43 38 42,jfm 44 38 1,iF 45 38 (.bin .sub (.t 44) (.c (.lit (.int .i64 1)))),jfx 46 38 3 43 45,jfa 47 38 2 46,jfl 48 38 47,jfg 49 38 48,iF 50 38 (.bin .geq (.t 39) (.t 49)),jP 51 38 50]
def F52_r2:List AIns:=[ii 52 (.build Z3 []),jns 2 8 52,jf_ 9]
def F52_r3:List AIns:=[jm 53 0,jh 54 53,ja 55 0 54,jL 56 55,jm 57 1,ii 58 (.bin .sub (.t 57) (.c (.lit (.int .i64 1)))),jx 59 3 56 58,ja 60 2 59,jl 61 60,jm 62 2,jx 63 2 61 62,jk 64 2 63,jns 2 8 64,ii 9 (.mv (.c (.lit (.bool true))))]
def F52_:AFun:=⟨4,.seq (R F52_r0 [0,1,2,3,8] [8]) (.seq (.seq (R F52_r1 [0,1,2,8,51] [8]) (.cond (.t 51) (.seq (R F52_r2 [8,9] [8]) (.ret)) (.skip))) (.seq (R F52_r3 [8,9] [8]) (.ret))),[.cell (some 2) 8,.t 9]⟩
def F53_r0:List AIns:=[jb 6 1,jf_ 10]
def F53_r1:List AIns:=[ii 11 (.mv (.c (.slice .full 1 [])))]
def F53_r2:List AIns:=[jm 14 3,jg 15 14,jc 16 0]
def F53_r3:List AIns:=[jq 17 16 15]
def F53_r4:List AIns:=[jx 18 2 14 16,jk 19 2 18,ii 13 (.alloc true Z4),jns 2 13 19]
def F53_r5:List AIns:=[jm 20 11,ja 21 1 13,jl 22 21,ii 23 (cl N49_ [22]),jB 24 1 23,ii 25 (.app 1 8 (.t 20) (.t 24)),jm 11 25]
def F53_r6:List AIns:=[jA 26 16 1,jm 16 26]
def F53_l1:AC:=.seq (R F53_r3 [0,2,4,6,11,14,15,16,17] [6]) (.seq (.cond (.t 17) (.skip) (.exit 0)) (.seq (.block 1 (.seq (R F53_r4 [0,2,4,6,11,13,14,15,16] [6,13]) (R F53_r5 [0,2,4,6,11,14,15,16] [6]))) (R F53_r6 [0,2,4,6,11,14,15,16] [6])))
def F53_r7:List AIns:=[jm 27 0,jk 28 2 6,jm 29 2,jm 30 4,jm 31 11,ii 32 (cl N54_ [27,28,29,30,31]),jm 10 32]
def F53_:AFun:=⟨5,.seq (R F53_r0 [0,2,3,4,6] [6]) (.seq (R F53_r1 [0,2,3,4,6,11] [6]) (.seq (.seq (R F53_r2 [0,2,4,6,11,14,15,16] [6]) (.block 0 (.loop F53_l1))) (.seq (R F53_r7 [10] []) (.ret)))),[.t 10]⟩
def F54_r0:List AIns:=[jb 6 1,jf_ 10]
def F54_r1:List AIns:=[jm 13 2,jg 14 13,jm 15 4,jg 16 15,ii 17 (.bin .neq (.t 14) (.t 16))]
def F54_r2:List AIns:=[jf_ 10]
def F54_r3:List AIns:=[jm 18 2,jg 19 18,jc 20 0]
def F54_r4:List AIns:=[jq 21 20 19]
def F54_r5:List AIns:=[jm 22 20,jx 23 5 18 20,jk 24 5 23,ii 12 (.alloc true Z2),jm 11 22,jns 5 12 24]
def F54_r6:List AIns:=[ja 25 0 12,jl 26 25,ii 27 (cl N16_ [26]),jm 28 4,jm 29 11,jx 30 1 28 29,jl 31 30,ii 32 (.bin .neq (.t 27) (.t 31)),jm 33 32,jfm 34 33 0,jfk 35 33 2 6,jfk 36 33 5 12,jfm 37 33 3,jfA 38 33 37 1,iF 39 33 (cl N30_ [34,35,36,38]),jfu 40 33 39,jP 41 33 40]
def F54_r7:List AIns:=[jf_ 10]
def F54_r8:List AIns:=[jA 42 20 1,jm 20 42]
def F54_l1:AC:=.seq (R F54_r4 [0,3,4,6,18,19,20,21] [6]) (.seq (.cond (.t 21) (.skip) (.exit 0)) (.seq (.block 1 (.seq (R F54_r5 [0,3,4,6,11,12,18,19,20] [6,12]) (.seq (R F54_r6 [0,3,4,6,18,19,20,41] [6]) (.cond (.t 41) (.seq (R F54_r7 [10] []) (.ret)) (.skip))))) (R F54_r8 [0,3,4,6,18,19,20] [6])))
def F54_r9:List AIns:=[ii 10 (.mv (.c (.lit (.bool true))))]
def F54_:AFun:=⟨5,.seq (R F54_r0 [0,2,3,4,6] [6]) (.seq (.seq (R F54_r1 [0,2,3,4,6,17] [6]) (.cond (.t 17) (.seq (R F54_r2 [10] []) (.ret)) (.skip))) (.seq (.seq (R F54_r3 [0,3,4,6,18,19,20] [6]) (.block 0 (.loop F54_l1))) (.seq (R F54_r9 [10] []) (.ret)))),[.t 10]⟩
def F55_r0:List AIns:=[jb 5 1,jb 6 2,jf_ 8]
def F55_r1:List AIns:=[jm 16 0,jh 17 16,ja 18 0 17,jL 19 18,ja 20 2 6,jl 21 20,ii 22 (.bin .sub (.t 21) (.c (.lit (.int .i64 1)))),jx 23 3 19 22,ja 24 2 23,jl 25 24,jm 9 25]
def F55_r2:List AIns:=[ja 26 4 6,jl 27 26,jg 28 27,jm 29 9,jg 30 29,ii 31 (.bin .neq (.t 28) (.t 30))]
def F55_r3:List AIns:=[jf_ 8]
def F55_r4:List AIns:=[ja 32 4 6,jl 33 32,jg 34 33,jc 35 0]
def F55_r5:List AIns:=[jq 36 35 34]
def F55_r6:List AIns:=[jm 37 35,jx 38 7 33 35,jk 39 7 38,ii 11 (.alloc true Z1),jm 10 37,jns 7 11 39]
def F55_r7:List AIns:=[ja 40 0 11,jl 41 40,jg 42 41,jm 43 9,jm 44 10,jx 45 2 43 44,ja 46 1 45,jl 47 46,jg 48 47,ii 49 (.bin .neq (.t 42) (.t 48)),jm 50 49,jfa 51 50 0 11,jfl 52 50 51,jfa 53 50 1 11,jfl 54 50 53,iF 55 50 (cl N26_ [52,54]),jfu 56 50 55,jP 57 50 56]
def F55_r8:List AIns:=[jf_ 8]
def F55_r9:List AIns:=[jm 58 9,jm 59 10,jx 60 2 58 59,ja 61 1 60,jl 62 61,jg 63 62,jc 64 0]
def F55_r10:List AIns:=[jq 65 64 63]
def F55_r11:List AIns:=[jm 66 64,jx 67 2 62 64,jk 68 2 67,ii 13 (.alloc true Z4),jm 12 66,jns 2 13 68]
def F55_r12:List AIns:=[ja 69 1 11,jl 70 69,jm 71 12,jx 72 1 70 71,jl 73 72,ja 74 1 13,jl 75 74,ii 76 (.beq true (.t 73) (.t 75))]
def F55_r13:List AIns:=[jf_ 8]
def F55_r14:List AIns:=[jA 77 64 1,jm 64 77]
def F55_l2:AC:=.seq (R F55_r10 [0,3,5,9,11,33,34,35,62,63,64,65] [5,11]) (.seq (.cond (.t 65) (.skip) (.exit 2)) (.seq (.block 3 (.seq (R F55_r11 [0,3,5,9,11,12,13,33,34,35,62,63,64] [5,11,13]) (.seq (R F55_r12 [0,3,5,9,11,33,34,35,62,63,64,76] [5,11]) (.cond (.t 76) (.seq (R F55_r13 [8] []) (.ret)) (.skip))))) (R F55_r14 [0,3,5,9,11,33,34,35,62,63,64] [5,11])))
def F55_r15:List AIns:=[jk 78 2 5,ja 79 0 11,jl 80 79,ja 81 1 11,jl 82 81,ii 83 (cl N28_ [78,80,82]),jm 14 83]
def F55_r16:List AIns:=[ja 84 2 11,ja 85 0 84,jl 86 85,ii 87 (cl N16_ [86]),je 88 87 2,jm 89 88,jtm 90 89 0,jtk 91 89 2 5,jta 92 89 2 11,jtk 93 89 5 92,jtm 94 89 3,jtA 95 89 94 1,it 96 89 (cl N30_ [90,91,93,95]),jp 97 89 96,jm 15 97]
def F55_r17:List AIns:=[jm 98 14,ii 99 (.call (.t 98) [])]
def F55_r18:List AIns:=[jm 100 15,ju 101 100]
def F55_r19:List AIns:=[jf_ 8]
def F55_r20:List AIns:=[jA 102 35 1,jm 35 102]
def F55_l1:AC:=.seq (R F55_r5 [0,3,5,9,33,34,35,36] [5]) (.seq (.cond (.t 36) (.skip) (.exit 0)) (.seq (.block 1 (.seq (R F55_r6 [0,3,5,9,10,11,33,34,35] [5,11]) (.seq (.seq (R F55_r7 [0,3,5,9,10,11,33,34,35,57] [5,11]) (.cond (.t 57) (.seq (R F55_r8 [8] []) (.ret)) (.skip))) (.seq (.seq (R F55_r9 [0,3,5,9,11,33,34,35,62,63,64] [5,11]) (.block 2 (.loop F55_l2))) (.seq (R F55_r15 [0,3,5,9,11,14,33,34,35] [5,11]) (.seq (R F55_r16 [0,3,5,9,14,15,33,34,35] [5]) (.seq (R F55_r17 [0,3,5,9,15,33,34,35] [5]) (.seq (R F55_r18 [0,3,5,9,33,34,35,101] [5]) (.cond (.t 101) (.seq (R F55_r19 [8] []) (.ret)) (.skip)))))))))) (R F55_r20 [0,3,5,9,33,34,35] [5])))
def F55_r21:List AIns:=[ii 8 (.mv (.c (.lit (.bool true))))]
def F55_:AFun:=⟨4,.seq (R F55_r0 [0,3,5,6] [5,6]) (.seq (R F55_r1 [0,3,5,6,9] [5,6]) (.seq (.seq (R F55_r2 [0,3,5,6,9,31] [5,6]) (.cond (.t 31) (.seq (R F55_r3 [8] []) (.ret)) (.skip))) (.seq (.seq (R F55_r4 [0,3,5,9,33,34,35] [5]) (.block 0 (.loop F55_l1))) (.seq (R F55_r21 [8] []) (.ret))))),[.t 8]⟩
def F56_r0:List AIns:=[jc 2 0]
def F56_r1:List AIns:=[jm 3 0]
def F56_r2:List AIns:=[jc 2 1]
def F56_r3:List AIns:=[jc 2 0]
def F56_:AFun:=⟨1,.seq (R F56_r0 [0] []) (.seq (.seq (R F56_r1 [3] []) (.cond (.t 3) (.seq (R F56_r2 [2] []) (.ret)) (.skip))) (.seq (R F56_r3 [2] []) (.ret))),[.t 2]⟩
def F57_r0:List AIns:=[jf_ 6]
def F57_r1:List AIns:=[jm 11 1,jg 12 11,jc 13 0]
def F57_r2:List AIns:=[jq 14 13 12]
def F57_r3:List AIns:=[jm 15 13,jx 16 5 11 13,jk 17 5 16,ii 8 (.alloc true Z2),jm 7 15,jns 5 8 17]
def F57_r4:List AIns:=[jm 19 0,jk 20 5 8,ii 21 (cl N18_ [19,20]),jm 18 21,jz 22 18 0,jz 23 18 1,jm 9 22,jm 10 23]
def F57_r5:List AIns:=[jm 24 10,ju 25 24,jm 26 25,jfm 27 26 9,jfm 28 26 2,jfm 29 26 7,jfx 30 26 1 28 29,jfl 31 26 30,iF 32 26 (.bin .neq (.t 27) (.t 31)),jP 33 26 32]
def F57_r6:List AIns:=[jf_ 6]
def F57_r7:List AIns:=[jA 34 13 1,jm 13 34]
def F57_l1:AC:=.seq (R F57_r2 [0,2,11,12,13,14] []) (.seq (.cond (.t 14) (.skip) (.exit 0)) (.seq (.block 1 (.seq (R F57_r3 [0,2,7,8,11,12,13] [8]) (.seq (R F57_r4 [0,2,7,9,10,11,12,13] []) (.seq (R F57_r5 [0,2,11,12,13,33] []) (.cond (.t 33) (.seq (R F57_r6 [6] []) (.ret)) (.skip)))))) (R F57_r7 [0,2,11,12,13] [])))
def F57_r8:List AIns:=[ii 6 (.mv (.c (.lit (.bool true))))]
def F57_:AFun:=⟨3,.seq (R F57_r0 [0,1,2] []) (.seq (.seq (R F57_r1 [0,2,11,12,13] []) (.block 0 (.loop F57_l1))) (.seq (R F57_r8 [6] []) (.ret))),[.t 6]⟩
def F58_r0:List AIns:=[ii 2 (.mv (.c (.slice .full 1 [])))]
def F58_r1:List AIns:=[ii 3 (.mv (.c (.slice .full 1 [])))]
def F58_r2:List AIns:=[jm 6 0,jg 7 6,jc 8 0]
def F58_r3:List AIns:=[jq 9 8 7]
def F58_r4:List AIns:=[jx 10 2 6 8,jk 11 2 10,ii 5 (.alloc true Z4),jns 2 5 11]
def F58_r5:List AIns:=[jm 12 3,ja 13 0 5,jl 14 13,jB 15 1 14,ii 16 (.app 1 8 (.t 12) (.t 15)),jm 3 16]
def F58_r6:List AIns:=[jA 17 8 1,jm 8 17]
def F58_l1:AC:=.seq (R F58_r3 [3,6,7,8,9] []) (.seq (.cond (.t 9) (.skip) (.exit 0)) (.seq (.block 1 (.seq (R F58_r4 [3,5,6,7,8] [5]) (R F58_r5 [3,6,7,8] []))) (R F58_r6 [3,6,7,8] [])))
def F58_r7:List AIns:=[jm 18 3,jm 2 18]
def F58_:AFun:=⟨1,.seq (R F58_r0 [0] []) (.seq (R F58_r1 [0,3] []) (.seq (.seq (R F58_r2 [3,6,7,8] []) (.block 0 (.loop F58_l1))) (.seq (R F58_r7 [2] []) (.ret)))),[.t 2]⟩
def F59_r0:List AIns:=[jb 3 0,jb 4 1,jb 5 2]
def F59_r1:List AIns:=[jk 20 5 3,ii 21 (cl N62_ [20]),jm 19 21,jz 22 19 0,jz 23 19 1,jm 6 22,jm 7 23]
def F59_r2:List AIns:=[ja 24 0 3,jl 25 24]
def F59_r3:List AIns:=[je 27 25 0,jm 26 27]
def F59_r4:List AIns:=[je 28 25 5,jm 26 28]
def F59_r5:List AIns:=[ja 29 0 3,jl 30 29,ii 31 (cl N16_ [30]),jm 8 31]
def F59_r6:List AIns:=[jm 32 8,ii 33 (.iaa 2 1 (.t 4) (.t 32)),jl 34 33,ja 35 1 3,jl 36 35,ii 37 (.lk (.int .i64) (.lit (.int .i64 0)) false (.t 34) (.t 36)),je 38 37 0]
def F59_r7:List AIns:=[jm 39 8,ii 40 (.iaa 2 1 (.t 5) (.t 39)),jl 41 40,ja 42 1 3,jl 43 42,⟨none,none,.mu (.int .i64) (.t 41) (.t 43) (.c (.lit (.bool true)))⟩]
def F59_r8:List AIns:=[ja 44 0 3,jl 45 44,je 46 45 3,jm 47 46,jfa 48 47 0 3,jfl 49 47 48,jfe 50 47 49 7,jP 51 47 50,jm 9 51]
def F59_r9:List AIns:=[ja 52 0 3,jl 53 52,je 54 53 3,ii 55 (cl N49_ [54]),jm 10 55]
def F59_r10:List AIns:=[jm 56 9]
def F59_r11:List AIns:=[jm 57 10,ii 58 (.iaa 2 1 (.t 4) (.t 57)),jl 59 58,ja 60 1 3,jl 61 60,ii 62 (.lk (.int .i64) (.lit (.int .i64 0)) false (.t 59) (.t 61)),jA 63 62 1,⟨none,none,.mu (.int .i64) (.t 59) (.t 61) (.t 63)⟩]
def F59_r12:List AIns:=[jm 64 6,jg 65 64,jc 66 0]
def F59_r13:List AIns:=[jq 67 66 65]
def F59_r14:List AIns:=[jx 68 5 64 66,jk 69 5 68,ii 12 (.alloc true Z2),jns 5 12 69]
def F59_r15:List AIns:=[jk 70 5 12,jk 71 2 4,jk 72 2 5,ii 73 (cl N59_ [70,71,72])]
def F59_r16:List AIns:=[jA 74 66 1,jm 66 74]
def F59_l1:AC:=.seq (R F59_r13 [3,4,5,7,9,10,64,65,66,67] [3,4,5]) (.seq (.cond (.t 67) (.skip) (.exit 1)) (.seq (.block 2 (.seq (R F59_r14 [3,4,5,7,9,10,12,64,65,66] [3,4,5,12]) (R F59_r15 [3,4,5,7,9,10,64,65,66] [3,4,5]))) (R F59_r16 [3,4,5,7,9,10,64,65,66] [3,4,5])))
def F59_r17:List AIns:=[jm 75 9]
def F59_r18:List AIns:=[jm 76 10,ii 77 (.iaa 2 1 (.t 4) (.t 76)),jl 78 77,ja 79 1 3,jl 80 79,ii 81 (.lk (.int .i64) (.lit (.int .i64 0)) false (.t 78) (.t 80)),ii 82 (.bin .sub (.t 81) (.c (.lit (.int .i64 1)))),⟨none,none,.mu (.int .i64) (.t 78) (.t 80) (.t 82)⟩]
def F59_r19:List AIns:=[jm 83 7,jg 84 83,jc 85 0]
def F59_r20:List AIns:=[jq 86 85 84]
def F59_r21:List AIns:=[jx 87 7 83 85,jk 88 7 87,ii 14 (.alloc true Z1),jns 7 14 88]
def F59_r22:List AIns:=[ja 89 0 14,jl 90 89,jg 91 90,jc 92 0]
def F59_r23:List AIns:=[jq 93 92 91]
def F59_r24:List AIns:=[jm 94 92,jx 95 1 90 92,jl 96 95,jm 15 94,jm 16 96]
def F59_r25:List AIns:=[jk 97 7 14,jm 98 15,ii 99 (cl N69_ [97,98]),ii 100 (cl N49_ [99]),ii 101 (.iaa 2 1 (.t 4) (.t 100)),jl 102 101,jm 103 16,ii 104 (.lk (.int .i64) (.lit (.int .i64 0)) false (.t 102) (.t 103)),jA 105 104 1,⟨none,none,.mu (.int .i64) (.t 102) (.t 103) (.t 105)⟩]
def F59_r26:List AIns:=[jA 106 92 1,jm 92 106]
def F59_l3:AC:=.seq (R F59_r23 [4,5,14,83,84,85,90,91,92,93] [4,5,14]) (.seq (.cond (.t 93) (.skip) (.exit 5)) (.seq (.block 6 (.seq (R F59_r24 [4,5,14,15,16,83,84,85,90,91,92] [4,5,14]) (R F59_r25 [4,5,14,83,84,85,90,91,92] [4,5,14]))) (R F59_r26 [4,5,14,83,84,85,90,91,92] [4,5,14])))
def F59_r27:List AIns:=[ja 107 2 14,jk 108 5 107,jk 109 2 4,jk 110 2 5,ii 111 (cl N59_ [108,109,110])]
def F59_r28:List AIns:=[ja 112 0 14,jl 113 112,jg 114 113,jc 115 0]
def F59_r29:List AIns:=[jq 116 115 114]
def F59_r30:List AIns:=[jm 117 115,jx 118 1 113 115,jl 119 118,jm 17 117,jm 18 119]
def F59_r31:List AIns:=[jk 120 7 14,jm 121 17,ii 122 (cl N69_ [120,121]),ii 123 (cl N49_ [122]),ii 124 (.iaa 2 1 (.t 4) (.t 123)),jl 125 124,jm 126 18,ii 127 (.lk (.int .i64) (.lit (.int .i64 0)) false (.t 125) (.t 126)),ii 128 (.bin .sub (.t 127) (.c (.lit (.int .i64 1)))),⟨none,none,.mu (.int .i64) (.t 125) (.t 126) (.t 128)⟩]
def F59_r32:List AIns:=[jA 129 115 1,jm 115 129]
def F59_l4:AC:=.seq (R F59_r29 [4,5,14,83,84,85,113,114,115,116] [4,5,14]) (.seq (.cond (.t 116) (.skip) (.exit 7)) (.seq (.block 8 (.seq (R F59_r30 [4,5,14,17,18,83,84,85,113,114,115] [4,5,14]) (R F59_r31 [4,5,14,83,84,85,113,114,115] [4,5,14]))) (R F59_r32 [4,5,14,83,84,85,113,114,115] [4,5,14])))
def F59_r33:List AIns:=[jA 130 85 1,jm 85 130]
def F59_l2:AC:=.seq (R F59_r20 [4,5,83,84,85,86] [4,5]) (.seq (.cond (.t 86) (.skip) (.exit 3)) (.seq (.block 4 (.seq (R F59_r21 [4,5,14,83,84,85] [4,5,14]) (.seq (.seq (R F59_r22 [4,5,14,83,84,85,90,91,92] [4,5,14]) (.block 5 (.loop F59_l3))) (.seq (R F59_r27 [4,5,14,83,84,85] [4,5,14]) (.seq (R F59_r28 [4,5,14,83,84,85,113,114,115] [4,5,14]) (.block 7 (.loop F59_l4))))))) (R F59_r33 [4,5,83,84,85] [4,5])))
def F59_:AFun:=⟨3,.seq (R F59_r0 [3,4,5] [3,4,5]) (.seq (R F59_r1 [3,4,5,6,7] [3,4,5]) (.seq (.seq (R F59_r2 [3,4,5,6,7,25] [3,4,5]) (.block 0 (.seq (.seq (R F59_r3 [3,4,5,6,7,25,26] [3,4,5]) (.cond (.t 26) (.skip) (R F59_r4 [3,4,5,6,7,26] [3,4,5]))) (.cond (.t 26) (.seq (R F59_r5 [3,4,5,6,7,8] [3,4,5]) (.seq (R F59_r6 [3,4,5,6,7,8,38] [3,4,5]) (.cond (.t 38) (R F59_r7 [3,4,5,6,7] [3,4,5]) (.skip)))) (.skip))))) (.seq (R F59_r8 [3,4,5,6,7,9] [3,4,5]) (.seq (R F59_r9 [3,4,5,6,7,9,10] [3,4,5]) (.seq (.seq (R F59_r10 [3,4,5,6,7,9,10,56] [3,4,5]) (.cond (.t 56) (R F59_r11 [3,4,5,6,7,9,10] [3,4,5]) (.skip))) (.seq (.seq (R F59_r12 [3,4,5,7,9,10,64,65,66] [3,4,5]) (.block 1 (.loop F59_l1))) (.seq (.seq (R F59_r17 [3,4,5,7,10,75] [3,4,5]) (.cond (.t 75) (R F59_r18 [4,5,7] [4,5]) (.skip))) (.seq (R F59_r19 [4,5,83,84,85] [4,5]) (.block 3 (.loop F59_l2)))))))))),[]⟩
def F60_r0:List AIns:=[jb 1 0,jc 2 0,jc 3 0]
def F60_r1:List AIns:=[jk 5 5 1,ii 6 (.call (.f N70_) [(.t 5),(.f N71_)]),ii 4 (.alloc true Z5),jns 2 4 6]
def F60_r2:List AIns:=[ii 7 (.iaa 2 1 (.t 4) (.c (.lit (.int .i64 0)))),jl 8 7,ii 9 (.iaa 2 1 (.t 4) (.c (.lit (.int .i64 1)))),jl 10 9,jm 2 8,jm 3 10]
def F60_:AFun:=⟨1,.seq (R F60_r0 [1] [1]) (.seq (R F60_r1 [4] [4]) (.seq (R F60_r2 [2,3] []) (.ret))),[.t 2,.t 3]⟩
def F61_r0:List AIns:=[jb 1 0,ii 2 (.alloc true Z2)]
def F61_r1:List AIns:=[jk 10 5 1,ii 11 (cl N62_ [10]),jm 9 11,jz 12 9 0,jz 13 9 1,jm 3 12,jm 4 13]
def F61_r2:List AIns:=[ja 14 3 1,⟨none,none,.st false 1 (.t 14) (.c (.slice .full 5 []))⟩,ja 15 4 1,⟨none,none,.st false 1 (.t 15) (.c (.slice .full 7 []))⟩]
def F61_r3:List AIns:=[jm 16 3,jg 17 16,jc 18 0]
def F61_r4:List AIns:=[jq 19 18 17]
def F61_r5:List AIns:=[jx 20 5 16 18,jk 21 5 20,ii 6 (.alloc true Z2),jns 5 6 21]
def F61_r6:List AIns:=[ja 22 3 1,jl 23 22,jk 24 5 6,ii 25 (cl N61_ [24]),jB 26 5 25,ii 27 (.app 5 72 (.t 23) (.t 26)),ja 28 3 1,jns 1 28 27]
def F61_r7:List AIns:=[jA 29 18 1,jm 18 29]
def F61_l1:AC:=.seq (R F61_r4 [1,2,4,16,17,18,19] [1,2]) (.seq (.cond (.t 19) (.skip) (.exit 0)) (.seq (.block 1 (.seq (R F61_r5 [1,2,4,6,16,17,18] [1,2,6]) (R F61_r6 [1,2,4,16,17,18] [1,2]))) (R F61_r7 [1,2,4,16,17,18] [1,2])))
def F61_r8:List AIns:=[jm 30 4,jg 31 30,jc 32 0]
def F61_r9:List AIns:=[jq 33 32 31]
def F61_r10:List AIns:=[jx 34 7 30 32,jk 35 7 34,ii 8 (.alloc true Z1),jns 7 8 35]
def F61_r11:List AIns:=[ja 36 4 1,jl 37 36,ja 38 0 8,jl 39 38,ii 40 (cl N72_ [39]),ja 41 1 8,jl 42 41,ii 43 (cl N73_ [42]),ja 44 2 8,jk 45 5 44,ii 46 (cl N61_ [45]),ii 47 (.build Z1 [(0,1,(.t 40)),(1,1,(.t 43)),(2,5,(.t 46))]),jB 48 7 47,ii 49 (.app 7 120 (.t 37) (.t 48)),ja 50 4 1,jns 1 50 49]
def F61_r12:List AIns:=[jA 51 32 1,jm 32 51]
def F61_l2:AC:=.seq (R F61_r9 [1,2,30,31,32,33] [1,2]) (.seq (.cond (.t 33) (.skip) (.exit 2)) (.seq (.block 3 (.seq (R F61_r10 [1,2,8,30,31,32] [1,2,8]) (R F61_r11 [1,2,30,31,32] [1,2]))) (R F61_r12 [1,2,30,31,32] [1,2])))
def F61_r13:List AIns:=[jk 52 5 1,jns 5 2 52]
def F61_:AFun:=⟨1,.seq (R F61_r0 [1,2] [1,2]) (.seq (R F61_r1 [1,2,3,4] [1,2]) (.seq (R F61_r2 [1,2,3,4] [1,2]) (.seq (.seq (R F61_r3 [1,2,4,16,17,18] [1,2]) (.block 0 (.loop F61_l1))) (.seq (.seq (R F61_r8 [1,2,30,31,32] [1,2]) (.block 2 (.loop F61_l2))) (.seq (R F61_r13 [2] [2]) (.ret)))))),[.cell (some 5) 2]⟩
def F62_r0:List AIns:=[jb 1 0,ii 2 (.mv (.c (.slice .full 5 []))),ii 3 (.mv (.c (.slice .full 7 [])))]
def F62_r1:List AIns:=[ja 4 0 1,jl 5 4,je 6 5 0,jm 7 6,jfa 8 7 0 1,jfl 9 7 8,jfe 10 7 9 5,jP 11 7 10,jm 12 11,jfa 13 12 0 1,jfl 14 12 13,jfe 15 12 14 1,jP 16 12 15]
def F62_r2:List AIns:=[ii 2 (.mv (.c (.slice .full 5 []))),ii 3 (.mv (.c (.slice .full 7 [])))]
def F62_r3:List AIns:=[ja 17 3 1,jl 18 17,ja 19 4 1,jl 20 19,jm 2 18,jm 3 20]
def F62_:AFun:=⟨1,.seq (R F62_r0 [1] [1]) (.seq (.seq (R F62_r1 [1,16] [1]) (.cond (.t 16) (.seq (R F62_r2 [2,3] []) (.ret)) (.skip))) (.seq (R F62_r3 [2,3] []) (.ret))),[.t 2,.t 3]⟩
def F63_:AFun:=⟨0,.skip,[]⟩
def F64_r0:List AIns:=[ii 3 (.box false (.t 0)),ii 6 (.mv (.c (.slice .full 1 []))),ii 7 (.mv (.c (.lit .nilFunc)))]
def F64_r1:List AIns:=[ii 8 (.alloc false [.slice .full 8 []])]
def F64_r2:List AIns:=[ii 9 (.mv (.c (.slice .full 1 [])))]
def F64_r3:List AIns:=[jm 17 1,jg 18 17,jc 19 0]
def F64_r4:List AIns:=[jq 20 19 18]
def F64_r5:List AIns:=[jm 21 19,jx 22 1 17 19,jl 23 22,jm 10 21,jm 11 23]
def F64_r6:List AIns:=[jm 24 2,jm 25 10,ii 26 (.call (.t 24) [(.t 25)]),ii 27 (cl N49_ [26]),jm 12 27]
def F64_r7:List AIns:=[jL 28 3,jm 29 12,ii 30 (cl N74_ [28,29]),jm 13 30]
def F64_r8:List AIns:=[jL 32 3,jm 33 12,jh 34 32,ja 35 5 34,ii 36 (.iaa 2 1 (.t 35) (.t 33)),jL 37 36,jm 38 11,ii 39 (.lk (.int .i64) (.agg Z2) true (.t 37) (.t 38)),jm 31 39,jz 40 31 0,jz 41 31 1,ii 14 (.alloc true Z2),jns 5 14 40,jm 15 41]
def F64_r9:List AIns:=[jL 42 8,jm 43 12,jm 44 11,jk 45 5 14,jm 46 15,ii 47 (.build [.lit (.int .i64 0),.lit (.int .i64 0),.lit (.int .i64 0),.lit (.int .i64 0),.lit (.int .i64 0),.slice .full 5 [],.slice .full 7 [],.lit (.bool false)] [(0,1,(.t 43)),(1,1,(.t 44)),(2,5,(.t 45)),(7,1,(.t 46))]),jB 48 8 47,ii 49 (.app 8 96 (.t 42) (.t 48)),jnS 1 8 49]
def F64_r10:List AIns:=[jc 16 0]
def F64_r11:List AIns:=[jm 50 12,je 51 50 1]
def F64_r12:List AIns:=[jc 16 5]
def F64_r13:List AIns:=[jL 52 3,jm 53 12,jh 54 52,ja 55 5 54,ii 56 (.iaa 2 1 (.t 55) (.t 53)),jL 57 56,jm 58 11,jm 59 16,jm 60 13,ii 61 (.build Z2 [(0,1,(.t 59)),(1,1,(.t 60))]),⟨none,none,.mu (.int .i64) (.t 57) (.t 58) (.t 61)⟩]
def F64_r14:List AIns:=[jm 62 9,jm 63 13,jB 64 1 63,ii 65 (.app 1 8 (.t 62) (.t 64)),jm 9 65]
def F64_r15:List AIns:=[jA 66 19 1,jm 19 66]
def F64_l1:AC:=.seq (R F64_r4 [2,3,8,9,17,18,19,20] []) (.seq (.cond (.t 20) (.skip) (.exit 0)) (.seq (.block 1 (.seq (R F64_r5 [2,3,8,9,10,11,17,18,19] []) (.seq (R F64_r6 [2,3,8,9,11,12,17,18,19] []) (.seq (R F64_r7 [2,3,8,9,11,12,13,17,18,19] []) (.seq (R F64_r8 [2,3,8,9,11,12,13,14,15,17,18,19] [14]) (.seq (R F64_r9 [2,3,8,9,11,12,13,17,18,19] []) (.seq (R F64_r10 [2,3,8,9,11,12,13,16,17,18,19] []) (.seq (.seq (R F64_r11 [2,3,8,9,11,12,13,16,17,18,19,51] []) (.cond (.t 51) (R F64_r12 [2,3,8,9,11,12,13,16,17,18,19] []) (.skip))) (.seq (R F64_r13 [2,3,8,9,13,17,18,19] []) (R F64_r14 [2,3,8,9,17,18,19] [])))))))))) (R F64_r15 [2,3,8,9,17,18,19] [])))
def F64_r16:List AIns:=[jm 67 9,ii 68 (.mkf N75_ [] [(.t 8),(.t 3)]),jm 6 67,jm 7 68]
def F64_:AFun:=⟨3,.seq (R F64_r0 [1,2,3] []) (.seq (R F64_r1 [1,2,3,8] []) (.seq (R F64_r2 [1,2,3,8,9] []) (.seq (.seq (R F64_r3 [2,3,8,9,17,18,19] []) (.block 0 (.loop F64_l1))) (.seq (R F64_r16 [6,7] []) (.ret))))),[.t 6,.t 7]⟩
def F65_r0:List AIns:=[jf_ 3]
def F65_r1:List AIns:=[ja 4 0 1,jL 5 4,je 6 5 3,jm 3 6]
def F65_:AFun:=⟨2,.seq (R F65_r0 [1] []) (.seq (R F65_r1 [3] []) (.ret)),[.t 3]⟩
def F66_r0:List AIns:=[ii 3 (.box false (.t 1)),ii 4 (.alloc true Z1)]
def F66_r1:List AIns:=[jm 10 0,ja 11 0 3,jL 12 11,ii 13 (.mkf N76_ [] [(.t 3)]),ii 14 (cl N64_ [10,12,13]),jm 9 14,jz 15 9 0,jz 16 9 1,jm 5 15,jm 6 16]
def F66_r2:List AIns:=[jm 17 6,⟨none,none,.dfr (.t 17) []⟩]
def F66_r3:List AIns:=[jm 18 5,jm 19 0,ja 20 2 3,jK 21 5 20,ii 22 (cl N42_ [19,21]),ii 23 (.build Z1 [(0,1,(.t 18)),(2,5,(.t 22))]),ii 7 (.alloc true Z1),jns 7 7 23]
def F66_r4:List AIns:=[ja 24 0 3,jL 25 24,jg 26 25,jc 27 0]
def F66_r5:List AIns:=[jq 28 27 26]
def F66_r6:List AIns:=[jm 29 27,jm 8 29]
def F66_r7:List AIns:=[ja 30 1 7,jl 31 30,jK 32 7 3,jm 33 8,ii 34 (cl N69_ [32,33]),jB 35 1 34,ii 36 (.app 1 1 (.t 31) (.t 35)),ja 37 1 7,jns 1 37 36]
def F66_r8:List AIns:=[jA 38 27 1,jm 27 38]
def F66_l1:AC:=.seq (R F66_r5 [3,4,7,26,27,28] [4,7]) (.seq (.cond (.t 28) (.skip) (.exit 0)) (.seq (.block 1 (.seq (R F66_r6 [3,4,7,8,26,27] [4,7]) (R F66_r7 [3,4,7,26,27] [4,7]))) (R F66_r8 [3,4,7,26,27] [4,7])))
def F66_r9:List AIns:=[jk 39 7 7,jns 7 4 39]
def F66_:AFun:=⟨2,.seq (R F66_r0 [0,3,4] [4]) (.seq (R F66_r1 [0,3,4,5,6] [4]) (.seq (R F66_r2 [0,3,4,5] [4]) (.seq (R F66_r3 [3,4,7] [4,7]) (.seq (.seq (R F66_r4 [3,4,7,26,27] [4,7]) (.block 0 (.loop F66_l1))) (.seq (R F66_r9 [4] [4]) (.ret)))))),[.cell (some 7) 4]⟩
def F67_r0:List AIns:=[jL 4 0,jg 5 4,ii 6 (.bin .sub (.t 5) (.c (.lit (.int .i64 1)))),jm 2 6]
def F67_r1:List AIns:=[jm 7 2,ii 8 (.bin .geq (.t 7) (.c (.lit (.int .i64 0))))]
def F67_r3:List AIns:=[jL 11 0,jm 12 2,jx 13 4 11 12,jk 14 4 13,ii 3 (.alloc true [.lit (.int .i64 0),.lit (.int .i64 0),.lit (.int .i64 0),.lit (.bool false)]),jns 4 3 14]
def F67_r4:List AIns:=[jL 15 1,ja 16 0 3,jl 17 16,jh 18 15,ja 19 2 18,ii 20 (.iaa 2 1 (.t 19) (.t 17)),jL 21 20,ja 22 1 3,jl 23 22,⟨none,none,.dl (.int .i64) (.t 21) (.t 23)⟩]
def F67_r5:List AIns:=[ja 24 3 3,jl 25 24]
def F67_r6:List AIns:=[jL 26 1,ja 27 0 3,jl 28 27,jh 29 26,ja 30 2 29,ii 31 (.iaa 2 1 (.t 30) (.t 28)),jL 32 31,ja 33 1 3,jl 34 33,ja 35 2 3,jl 36 35,⟨none,none,.mu (.int .i64) (.t 32) (.t 34) (.t 36)⟩]
def F67_r2:List AIns:=[jm 9 2,ii 10 (.bin .sub (.t 9) (.c (.lit (.int .i64 1)))),jm 2 10]
def F67_l1:AC:=.seq (.seq (R F67_r1 [0,1,2,8] []) (.cond (.t 8) (.skip) (.exit 0))) (.seq (.block 1 (.seq (R F67_r3 [0,1,2,3] [3]) (.seq (R F67_r4 [0,1,2,3] [3]) (.seq (R F67_r5 [0,1,2,3,25] [3]) (.cond (.t 25) (R F67_r6 [0,1,2] []) (.skip)))))) (R F67_r2 [0,1,2] []))
def F67_:AFun:=⟨2,.seq (R F67_r0 [0,1,2] []) (.block 0 (.loop F67_l1)),[]⟩
def F69_r0:List AIns:=[jb 2 0,jf_ 4]
def F69_r1:List AIns:=[jm 5 1,ja 6 1 2,jl 7 6,jg 8 7,jq 9 5 8,jm 10 9,jta 11 10 1 2,jtl 12 10 11,jtm 13 10 1,jtx 14 10 1 12 13,jtl 15 10 14,jp 16 10 15,jm 4 16]
def F69_:AFun:=⟨2,.seq (R F69_r0 [1,2] [2]) (.seq (R F69_r1 [4] []) (.ret)),[.t 4]⟩
def F70_r0:List AIns:=[jb 2 0,ii 4 (.alloc true Z5)]
def F70_r1:List AIns:=[ii 5 (.mv (.c (.lit (.slice none 0 0)))),ii 6 (.mv (.c (.slice .full 2 [])))]
def F70_r2:List AIns:=[jk 14 5 2,ii 15 (cl N62_ [14]),jm 13 15,jz 16 13 0,jz 17 13 1,jm 7 16,jm 8 17]
def F70_r3:List AIns:=[jm 18 7,jg 19 18,jc 20 0]
def F70_r4:List AIns:=[jq 21 20 19]
def F70_r5:List AIns:=[jx 22 5 18 20,jK 23 5 22,ii 10 (.alloc true Z2),jns 5 10 23]
def F70_r6:List AIns:=[jm 24 5,jk 25 5 10,jm 26 1,ii 27 (cl N70_ [25,26]),jB 28 2 27,ii 29 (.wop (.appm 2 16) [(.t 24),(.t 28)]),jm 5 29]
def F70_r7:List AIns:=[jA 30 20 1,jm 20 30]
def F70_l1:AC:=.seq (R F70_r4 [1,2,4,5,6,8,18,19,20,21] [2,4]) (.seq (.cond (.t 21) (.skip) (.exit 0)) (.seq (.block 1 (.seq (R F70_r5 [1,2,4,5,6,8,10,18,19,20] [2,4,10]) (R F70_r6 [1,2,4,5,6,8,18,19,20] [2,4]))) (R F70_r7 [1,2,4,5,6,8,18,19,20] [2,4])))
def F70_r8:List AIns:=[jm 31 8,jg 32 31,jc 33 0]
def F70_r9:List AIns:=[jq 34 33 32]
def F70_r10:List AIns:=[jx 35 7 31 33,jK 36 7 35,ii 12 (.alloc true Z1),jns 7 12 36]
def F70_r11:List AIns:=[jm 37 6,ja 38 2 12,jk 39 5 38,jm 40 1,ii 41 (cl N70_ [39,40]),jB 42 2 41,ii 43 (.wop (.appm 2 16) [(.t 37),(.t 42)]),jm 6 43]
def F70_r12:List AIns:=[jA 44 33 1,jm 33 44]
def F70_l2:AC:=.seq (R F70_r9 [1,2,4,5,6,31,32,33,34] [2,4]) (.seq (.cond (.t 34) (.skip) (.exit 2)) (.seq (.block 3 (.seq (R F70_r10 [1,2,4,5,6,12,31,32,33] [2,4,12]) (R F70_r11 [1,2,4,5,6,31,32,33] [2,4]))) (R F70_r12 [1,2,4,5,6,31,32,33] [2,4])))
def F70_r13:List AIns:=[jm 45 1,jk 46 5 2,jm 47 5,jm 48 6,ii 49 (.call (.t 45) [(.t 46),(.t 47),(.t 48)]),jns 2 4 49]
def F70_:AFun:=⟨2,.seq (R F70_r0 [1,2,4] [2,4]) (.seq (R F70_r1 [1,2,4,5,6] [2,4]) (.seq (R F70_r2 [1,2,4,5,6,7,8] [2,4]) (.seq (.seq (R F70_r3 [1,2,4,5,6,8,18,19,20] [2,4]) (.block 0 (.loop F70_l1))) (.seq (.seq (R F70_r8 [1,2,4,5,6,31,32,33] [2,4]) (.block 2 (.loop F70_l2))) (.seq (R F70_r13 [4] [4]) (.ret)))))),[.cell (some 2) 4]⟩
def F71_r0:List AIns:=[jb 3 0,ii 6 (.alloc true Z5)]
def F71_r1:List AIns:=[ii 10 (.build Z5 [(0,1,(.c (.lit (.int .i64 1)))),(1,1,(.c (.lit (.int .i64 1))))]),ii 7 (.alloc true Z5),jns 2 7 10]
def F71_r2:List AIns:=[jm 11 1,jm 12 2,ii 13 (.wop (.appm 2 16) [(.t 11),(.t 12)]),jg 14 13,jc 15 0]
def F71_r3:List AIns:=[jq 16 15 14]
def F71_r4:List AIns:=[jx 17 2 13 15,jK 18 2 17,ii 9 (.alloc true Z5),jns 2 9 18]
def F71_r5:List AIns:=[ii 19 (.iaa 2 1 (.t 7) (.c (.lit (.int .i64 0)))),jl 20 19,ii 21 (.iaa 2 1 (.t 9) (.c (.lit (.int .i64 0)))),jl 22 21,ii 23 (.bin .add (.t 20) (.t 22)),ii 24 (.iaa 2 1 (.t 7) (.c (.lit (.int .i64 0)))),jns 1 24 23]
def F71_r6:List AIns:=[ii 25 (.iaa 2 1 (.t 7) (.c (.lit (.int .i64 1)))),jl 26 25,ii 27 (.iaa 2 1 (.t 9) (.c (.lit (.int .i64 1)))),jl 28 27,jA 29 28 1,ii 30 (.mmx true (.t 26) (.t 29)),ii 31 (.iaa 2 1 (.t 7) (.c (.lit (.int .i64 1)))),jns 1 31 30]
def F71_r7:List AIns:=[jA 32 15 1,jm 15 32]
def F71_l1:AC:=.seq (R F71_r3 [6,7,13,14,15,16] [6,7]) (.seq (.cond (.t 16) (.skip) (.exit 0)) (.seq (.block 1 (.seq (R F71_r4 [6,7,9,13,14,15] [6,7,9]) (.seq (R F71_r5 [6,7,9,13,14,15] [6,7,9]) (R F71_r6 [6,7,13,14,15] [6,7])))) (R F71_r7 [6,7,13,14,15] [6,7])))
def F71_r8:List AIns:=[jk 33 2 7,jns 2 6 33]
def F71_:AFun:=⟨3,.seq (R F71_r0 [1,2,6] [6]) (.seq (R F71_r1 [1,2,6,7] [6,7]) (.seq (.seq (R F71_r2 [6,7,13,14,15] [6,7]) (.block 0 (.loop F71_l1))) (.seq (R F71_r8 [6] [6]) (.ret)))),[.cell (some 2) 6]⟩
def F74_r0:List AIns:=[jc 4 0]
def F74_r1:List AIns:=[jm 5 0,jm 6 1,jh 7 5,ja 8 0 7,ii 9 (.iaa 2 1 (.t 8) (.t 6)),jL 10 9,jm 11 0,jm 12 1,jh 13 11,ja 14 2 13,ii 15 (.iaa 2 1 (.t 14) (.t 12)),jL 16 15,ii 17 (.lk (.int .i64) (.lit (.bool false)) false (.t 10) (.t 16))]
def F74_r2:List AIns:=[jm 18 0,jm 19 1,jh 20 18,ja 21 2 20,ii 22 (.iaa 2 1 (.t 21) (.t 19)),jL 23 22,jA 24 23 1,jh 25 18,ja 26 2 25,ii 27 (.iaa 2 1 (.t 26) (.t 19)),jnS 1 27 24]
def F74_l1:AC:=.seq (.seq (R F74_r1 [0,1,17] []) (.cond (.t 17) (.skip) (.exit 0))) (.block 1 (R F74_r2 [0,1] []))
def F74_r3:List AIns:=[jm 28 0,jm 29 1,jh 30 28,ja 31 2 30,ii 32 (.iaa 2 1 (.t 31) (.t 29)),jL 33 32,jA 34 33 1,jh 35 28,ja 36 2 35,ii 37 (.iaa 2 1 (.t 36) (.t 29)),jnS 1 37 34]
def F74_r4:List AIns:=[jm 38 0,jm 39 1,jh 40 38,ja 41 2 40,ii 42 (.iaa 2 1 (.t 41) (.t 39)),jL 43 42,ii 44 (.bin .sub (.t 43) (.c (.lit (.int .i64 1)))),jm 4 44]
def F74_:AFun:=⟨2,.seq (R F74_r0 [0,1] []) (.seq (.block 0 (.loop F74_l1)) (.seq (R F74_r3 [0,1] []) (.seq (R F74_r4 [4] []) (.ret)))),[.t 4]⟩
def F75_r0:List AIns:=[jL 4 0,jg 5 4,ii 6 (.bin .sub (.t 5) (.c (.lit (.int .i64 1)))),jm 2 6]
def F75_r1:List AIns:=[jm 7 2,ii 8 (.bin .geq (.t 7) (.c (.lit (.int .i64 0))))]
def F75_r3:List AIns:=[jL 11 0,jm 12 2,jx 13 8 11 12,jk 14 8 13,ii 3 (.alloc true [.lit (.int .i64 0),.lit (.int .i64 0),.lit (.int .i64 0),.lit (.int .i64 0),.lit (.int .i64 0),.slice .full 5 [],.slice .full 7 [],.lit (.bool false)]),jns 8 3 14]
def F75_r4:List AIns:=[jL 15 1,ja 16 0 3,jl 17 16,jh 18 15,ja 19 5 18,ii 20 (.iaa 2 1 (.t 19) (.t 17)),jL 21 20,ja 22 1 3,jl 23 22,⟨none,none,.dl (.int .i64) (.t 21) (.t 23)⟩]
def F75_r5:List AIns:=[ja 24 7 3,jl 25 24]
def F75_r6:List AIns:=[jL 26 1,ja 27 0 3,jl 28 27,jh 29 26,ja 30 5 29,ii 31 (.iaa 2 1 (.t 30) (.t 28)),jL 32 31,ja 33 1 3,jl 34 33,ja 35 2 3,jk 36 5 35,⟨none,none,.mu (.int .i64) (.t 32) (.t 34) (.t 36)⟩]
def F75_r2:List AIns:=[jm 9 2,ii 10 (.bin .sub (.t 9) (.c (.lit (.int .i64 1)))),jm 2 10]
def F75_l1:AC:=.seq (.seq (R F75_r1 [0,1,2,8] []) (.cond (.t 8) (.skip) (.exit 0))) (.seq (.block 1 (.seq (R F75_r3 [0,1,2,3] [3]) (.seq (R F75_r4 [0,1,2,3] [3]) (.seq (R F75_r5 [0,1,2,3,25] [3]) (.cond (.t 25) (R F75_r6 [0,1,2] []) (.skip)))))) (R F75_r2 [0,1,2] []))
def F75_:AFun:=⟨2,.seq (R F75_r0 [0,1,2] []) (.block 0 (.loop F75_l1)),[]⟩
def F76_r0:List AIns:=[jf_ 3]
def F76_r1:List AIns:=[jK 4 7 1,jm 5 0,ii 6 (cl N69_ [4,5]),jm 3 6]
def F76_:AFun:=⟨2,.seq (R F76_r0 [0,1] []) (.seq (R F76_r1 [3] []) (.ret)),[.t 3]⟩
def tab:List (Nat × AFun):=[(N3_,F3_),(N4_,F4_),(N5_,F5_),(N6_,F6_),(N7_,F7_),(N8_,F8_),(N9_,F9_),(N10_,F10_),(N11_,F11_),(N12_,F12_),(N13_,F13_),(N14_,F14_),(N15_,F15_),(N16_,F16_),(N17_,F17_),(N18_,F18_),(N19_,F19_),(N20_,F20_),(N21_,F21_),(N22_,F22_),(N23_,F23_),(N24_,F24_),(N25_,F25_),(N26_,F26_),(N27_,F27_),(N28_,F28_),(N29_,F29_),(N30_,F30_),(N31_,F31_),(N32_,F32_),(N33_,F33_),(N34_,F34_),(N35_,F35_),(N36_,F36_),(N37_,F37_),(N38_,F38_),(N39_,F39_),(N40_,F40_),(N41_,F41_),(N42_,F42_),(N43_,F43_),(N44_,F44_),(N45_,F45_),(N46_,F46_),(N47_,F47_),(N49_,F49_),(N50_,F50_),(N51_,F51_),(N52_,F52_),(N53_,F53_),(N54_,F54_),(N55_,F55_),(N56_,F56_),(N57_,F57_),(N58_,F58_),(N59_,F59_),(N60_,F60_),(N61_,F61_),(N62_,F62_),(N63_,F63_),(N64_,F64_),(N65_,F65_),(N66_,F66_),(N67_,F67_),(N69_,F69_),(N70_,F70_),(N71_,F71_),(N74_,F74_),(N75_,F75_),(N76_,F76_)]
def fnOf (n:Nat):Option AFun:=(tab.find? fun x=>x.1 == n).map (·.2)
end Go.Sim.Kd
namespace Go.Sim
open Go
structure Arg where
 ty:Int
 co:Bool
structure Xtor where
 name:ByteArray
 args:List Arg
structure Decl where
 name:ByteArray
 codata:Bool
 xtors:List Xtor
mutual
inductive Node
 | mk (op n ty:Int) (args:List Node) (brs:List Br)
inductive Br
 | mk (vars:List Int) (co:List Bool) (body:Node)
end
structure CFun where
 name:ByteArray
 params:List Arg
 vars:List Int
 body:Node
structure Core where
 decls:List Decl
 funs:List CFun
def Node.op:Node → Int | .mk op _ _ _ _=>op
def Node.n:Node → Int | .mk _ n _ _ _=>n
def Node.ty:Node → Int | .mk _ _ ty _ _=>ty
def Node.args:Node → List Node | .mk _ _ _ args _=>args
def Node.brs:Node → List Br | .mk _ _ _ _ brs=>brs
def Br.vars:Br → List Int | .mk v _ _=>v
def Br.co:Br → List Bool | .mk _ c _=>c
def Br.body:Br → Node | .mk _ _ b=>b
abbrev SL (sz:Nat) (xs:List AV):AV:=.slice .none sz xs
abbrev ints (l:List Int):AV:=SL 1 (l.map I)
abbrev bools (l:List Bool):AV:=SL 1 (l.map B)
def Arg.enc (a:Arg):AV:=.agg [I a.ty,B a.co]
abbrev encArgs (l:List Arg):AV:=SL 2 (l.map Arg.enc)
def Xtor.enc (x:Xtor):AV:=.agg [Str x.name,encArgs x.args]
def Decl.enc (d:Decl):AV:=.agg [Str d.name,B d.codata,SL 2 (d.xtors.map Xtor.enc)]
mutual
def Node.enc:Node → AV
 | .mk op n ty args brs=>.agg [I op,I n,I ty,SL 5 (encNs args),SL 7 (encBs brs)]
def encNs:List Node → List AV
 | []=>[]
 | a :: as=>a.enc :: encNs as
def Br.enc:Br → AV
 | .mk vars co body=>.agg (ints vars :: bools co :: body.enc.cells)
def encBs:List Br → List AV
 | []=>[]
 | a :: as=>a.enc :: encBs as
end
def CFun.enc (f:CFun):AV:=.agg (Str f.name :: encArgs f.params :: ints f.vars :: f.body.enc.cells)
def Core.enc (c:Core):AV:=.agg [SL 3 (c.decls.map Decl.enc),SL 8 (c.funs.map CFun.enc)]
theorem encNs_eq (l:List Node):encNs l=l.map Node.enc:=by induction l with
 | nil=>rfl
 | cons a l ih=>simp [encNs,ih]
theorem encBs_eq (l:List Br):encBs l=l.map Br.enc:=by induction l with
 | nil=>rfl
 | cons a l ih=>simp [encBs,ih]
def Node.cs (a:Node):List AV:=[I a.op,I a.n,I a.ty,SL 5 (a.args.map Node.enc),SL 7 (a.brs.map Br.enc)]
theorem Node.enc_eq (a:Node):a.enc=.agg a.cs:=by
 cases a
 simp only [Node.enc,encNs_eq,encBs_eq]
 rfl
theorem Node.enc_cells (a:Node):a.enc.cells=a.cs:=by rw [a.enc_eq];rfl
theorem Br.enc_eq (b:Br):b.enc=.agg (ints b.vars :: bools b.co :: b.body.cs):=by
 cases b
 simp only [Br.enc,Node.enc_cells]
 rfl
theorem CFun.enc_eq (f:CFun):f.enc=.agg (Str f.name :: encArgs f.params :: ints f.vars :: f.body.cs):=by
 unfold CFun.enc
 rw [Node.enc_cells]
theorem Node.er_enc (a:Node):a.enc.er=a.enc:=by
 rw [a.enc_eq]
 rfl
theorem Br.er_enc (a:Br):a.enc.er=a.enc:=by
 rw [a.enc_eq]
 rfl
def Arg.sz (_:Arg):Nat:=1
def Xtor.sz (x:Xtor):Nat:=1 + x.name.size + x.args.length
def szL {α:Type} (f:α → Nat):List α → Nat
 | []=>0
 | a :: as=>f a + szL f as
def Decl.sz (d:Decl):Nat:=1 + d.name.size + szL Xtor.sz d.xtors
mutual
def Node.sz:Node → Nat
 | .mk _ _ _ args brs=>1 + szNs args + szBs brs
def szNs:List Node → Nat
 | []=>0
 | a :: as=>a.sz + szNs as
def Br.sz:Br → Nat
 | .mk vars co body=>1 + vars.length + co.length + body.sz
def szBs:List Br → Nat
 | []=>0
 | a :: as=>a.sz + szBs as
end
def CFun.sz (f:CFun):Nat:=1 + f.name.size + f.params.length + f.vars.length + f.body.sz
def Core.sz (c:Core):Nat:=1 + szL Decl.sz c.decls + szL CFun.sz c.funs
theorem szNs_mem {l:List Node} {a:Node} (h:a ∈ l):a.sz ≤ szNs l:=by induction l with
 | nil=>cases h
 | cons b l ih =>
   simp only [szNs]
   cases h with
   | head=>omega
   | tail _ h=>have:=ih h;omega
theorem szBs_mem {l:List Br} {a:Br} (h:a ∈ l):a.sz ≤ szBs l:=by induction l with
 | nil=>cases h
 | cons b l ih =>
   simp only [szBs]
   cases h with
   | head=>omega
   | tail _ h=>have:=ih h;omega
theorem szL_mem {α:Type} {f:α → Nat} {l:List α} {a:α} (h:a ∈ l):f a ≤ szL f l:=by induction l with
 | nil=>cases h
 | cons b l ih =>
   simp only [szL]
   cases h with
   | head=>omega
   | tail _ h=>have:=ih h;omega
theorem szL_len {α:Type} {f:α → Nat} {l:List α} (hf:∀ a,1 ≤ f a):l.length ≤ szL f l:=by induction l with
 | nil=>simp [szL]
 | cons b l ih=>simp only [szL,List.length_cons];have:=hf b;omega
theorem Node.sz_pos (a:Node):1 ≤ a.sz:=by cases a;simp only [Node.sz];omega
theorem Br.sz_pos (a:Br):1 ≤ a.sz:=by cases a;simp only [Br.sz];omega
theorem szNs_len (l:List Node):l.length ≤ szNs l:=by induction l with
 | nil=>simp [szNs]
 | cons b l ih=>simp only [szNs,List.length_cons];have:=b.sz_pos;omega
theorem szBs_len (l:List Br):l.length ≤ szBs l:=by induction l with
 | nil=>simp [szBs]
 | cons b l ih=>simp only [szBs,List.length_cons];have:=b.sz_pos;omega
theorem Node.sz_arg {a b:Node} (h:b ∈ a.args):b.sz < a.sz:=by cases a;simp only [Node.sz];have:=szNs_mem h;simp only [Node.args] at this;omega
theorem Node.sz_br {a:Node} {b:Br} (h:b ∈ a.brs):b.sz < a.sz:=by cases a;simp only [Node.sz];have:=szBs_mem h;simp only [Node.brs] at this;omega
theorem Br.sz_body (b:Br):b.body.sz < b.sz:=by cases b;simp only [Br.sz,Br.body];omega
theorem Node.sz_args (a:Node):a.args.length < a.sz:=by cases a;simp only [Node.sz,Node.args];have:=szNs_len ‹List Node›;omega
theorem Node.sz_brs (a:Node):a.brs.length < a.sz:=by cases a;simp only [Node.sz,Node.brs];have:=szBs_len ‹List Br›;omega
theorem Br.sz_vars (b:Br):b.vars.length < b.sz:=by cases b;simp only [Br.sz,Br.vars];omega
theorem Br.sz_co (b:Br):b.co.length < b.sz:=by cases b;simp only [Br.sz,Br.co];omega
theorem Node.ind {P:Node → Prop} (h:∀ a:Node,(∀ b ∈ a.args,P b) → (∀ b ∈ a.brs,P b.body) → P a) (a:Node):P a:=by
 generalize hn:a.sz=n
 induction n using Nat.strongRecOn generalizing a with
 | _ n ih =>
   subst hn
   refine h a (fun b hb=>ih _ (Node.sz_arg hb) b J) (fun b hb=>ih _ ?_ b.body J)
   have:=Node.sz_br hb
   have:=b.sz_body
   omega
end Go.Sim
namespace Go.Sim.Kd
open Go Go.Sim
def hasInt (q:Option AV):Bool :=
 match q with
 | some (.lit (.int .i64 _))=>true
 | _=>false
def containsOv (args:List AV) (s:Sg):Option (List AV × Sg) :=
 match args with
 | [.lit (.string a),.lit (.string b)]=>if a.size < 4294967281 ∧ hasInt (s.Q 0 0)=true then some ([.lit (.bool (Lib.contains a.data.toList b.data.toList))],s) else none
 | _=>none
def ov (n:Nat):Option (List AV → Sg → Option (List AV × Sg)):=if n=N48_ then some containsOv else if n=N72_ then some (cloneOv 1 8) else if n=N73_ then some (cloneOv 1 1) else none
def p:Pg:=⟨fnOf,ov⟩
theorem f3_:p.fn N3_=some F3_:=rfl
theorem f4_:p.fn N4_=some F4_:=rfl
theorem f5_:p.fn N5_=some F5_:=rfl
theorem f6_:p.fn N6_=some F6_:=rfl
theorem f7_:p.fn N7_=some F7_:=rfl
theorem f8_:p.fn N8_=some F8_:=rfl
theorem f9_:p.fn N9_=some F9_:=rfl
theorem f10_:p.fn N10_=some F10_:=rfl
theorem f11_:p.fn N11_=some F11_:=rfl
theorem f12_:p.fn N12_=some F12_:=rfl
theorem f13_:p.fn N13_=some F13_:=rfl
theorem f14_:p.fn N14_=some F14_:=rfl
theorem f15_:p.fn N15_=some F15_:=rfl
theorem f16_:p.fn N16_=some F16_:=rfl
theorem f17_:p.fn N17_=some F17_:=rfl
theorem f18_:p.fn N18_=some F18_:=rfl
theorem f19_:p.fn N19_=some F19_:=rfl
theorem f20_:p.fn N20_=some F20_:=rfl
theorem f21_:p.fn N21_=some F21_:=rfl
theorem f22_:p.fn N22_=some F22_:=rfl
theorem f23_:p.fn N23_=some F23_:=rfl
theorem f24_:p.fn N24_=some F24_:=rfl
theorem f25_:p.fn N25_=some F25_:=rfl
theorem f26_:p.fn N26_=some F26_:=rfl
theorem f27_:p.fn N27_=some F27_:=rfl
theorem f28_:p.fn N28_=some F28_:=rfl
theorem f29_:p.fn N29_=some F29_:=rfl
theorem f30_:p.fn N30_=some F30_:=rfl
theorem f31_:p.fn N31_=some F31_:=rfl
theorem f32_:p.fn N32_=some F32_:=rfl
theorem f33_:p.fn N33_=some F33_:=rfl
theorem f34_:p.fn N34_=some F34_:=rfl
theorem f35_:p.fn N35_=some F35_:=rfl
theorem f36_:p.fn N36_=some F36_:=rfl
theorem f37_:p.fn N37_=some F37_:=rfl
theorem f38_:p.fn N38_=some F38_:=rfl
theorem f39_:p.fn N39_=some F39_:=rfl
theorem f40_:p.fn N40_=some F40_:=rfl
theorem f41_:p.fn N41_=some F41_:=rfl
theorem f42_:p.fn N42_=some F42_:=rfl
theorem f43_:p.fn N43_=some F43_:=rfl
theorem f44_:p.fn N44_=some F44_:=rfl
theorem f45_:p.fn N45_=some F45_:=rfl
theorem f46_:p.fn N46_=some F46_:=rfl
theorem f47_:p.fn N47_=some F47_:=rfl
theorem f49_:p.fn N49_=some F49_:=rfl
theorem f50_:p.fn N50_=some F50_:=rfl
theorem f51_:p.fn N51_=some F51_:=rfl
theorem f52_:p.fn N52_=some F52_:=rfl
theorem f53_:p.fn N53_=some F53_:=rfl
theorem f54_:p.fn N54_=some F54_:=rfl
theorem f55_:p.fn N55_=some F55_:=rfl
theorem f56_:p.fn N56_=some F56_:=rfl
theorem f57_:p.fn N57_=some F57_:=rfl
theorem f58_:p.fn N58_=some F58_:=rfl
theorem f59_:p.fn N59_=some F59_:=rfl
theorem f60_:p.fn N60_=some F60_:=rfl
theorem f61_:p.fn N61_=some F61_:=rfl
theorem f62_:p.fn N62_=some F62_:=rfl
theorem f63_:p.fn N63_=some F63_:=rfl
theorem f64_:p.fn N64_=some F64_:=rfl
theorem f65_:p.fn N65_=some F65_:=rfl
theorem f66_:p.fn N66_=some F66_:=rfl
theorem f67_:p.fn N67_=some F67_:=rfl
theorem f69_:p.fn N69_=some F69_:=rfl
theorem f70_:p.fn N70_=some F70_:=rfl
theorem f71_:p.fn N71_=some F71_:=rfl
theorem f74_:p.fn N74_=some F74_:=rfl
theorem f75_:p.fn N75_=some F75_:=rfl
theorem f76_:p.fn N76_=some F76_:=rfl
end Go.Sim.Kd
