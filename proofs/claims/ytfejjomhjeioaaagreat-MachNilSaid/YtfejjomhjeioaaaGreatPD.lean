/-
  A part of a proof: see the last text of this claim.
-/
import Derived.Test.YtfejjomhjeioaaaGreatPB
import Derived.Test.YtfejjomhjeioaaaGreatPC
import Derived.Lib.IndexMore
set_option linter.unusedVariables false
set_option linter.unusedSimpArgs false
namespace Go.Sim.Mn
open Go Go.Sim
def ii (n:Nat) (o:AOp):AIns:=⟨some n,none,o⟩
def N3_:Nat:=3
def N4_:Nat:=4
def N5_:Nat:=5
def N6_:Nat:=6
def N7_:Nat:=7
def N8_:Nat:=8
def N9_:Nat:=9
def N10_:Nat:=10
def N11_:Nat:=11
def N12_:Nat:=12
def N13_:Nat:=13
def N14_:Nat:=14
def N15_:Nat:=15
def N16_:Nat:=16
def N17_:Nat:=17
def N18_:Nat:=18
def N19_:Nat:=19
def N20_:Nat:=20
def N21_:Nat:=21
def N22_:Nat:=22
def N23_:Nat:=23
def N24_:Nat:=24
def N25_:Nat:=25
def N26_:Nat:=26
def N27_:Nat:=27
def N28_:Nat:=28
def N29_:Nat:=29
def N30_:Nat:=30
def N31_:Nat:=31
def N32_:Nat:=32
def N33_:Nat:=33
def N34_:Nat:=34
def N35_:Nat:=35
def N36_:Nat:=36
def N37_:Nat:=37
def N38_:Nat:=38
def N39_:Nat:=39
def N40_:Nat:=40
def N41_:Nat:=41
def N42_:Nat:=42
def N43_:Nat:=43
def N44_:Nat:=44
def N45_:Nat:=45
def N46_:Nat:=46
def N47_:Nat:=47
def N48_:Nat:=48
def N49_:Nat:=49
def N50_:Nat:=50
def N51_:Nat:=51
def N52_:Nat:=52
def N53_:Nat:=53
def N54_:Nat:=54
def N55_:Nat:=55
def N56_:Nat:=56
def N57_:Nat:=57
def N58_:Nat:=58
def N59_:Nat:=59
def N60_:Nat:=60
def N61_:Nat:=61
def N62_:Nat:=62
def N63_:Nat:=63
def N64_:Nat:=64
def N65_:Nat:=65
def N66_:Nat:=66
def N67_:Nat:=67
def N68_:Nat:=68
def N69_:Nat:=69
def N70_:Nat:=70
def N71_:Nat:=71
def N72_:Nat:=72
def N73_:Nat:=73
def N74_:Nat:=74
def N75_:Nat:=75
def N76_:Nat:=76
def N77_:Nat:=77
def N78_:Nat:=78
def N79_:Nat:=79
def N80_:Nat:=80
def N81_:Nat:=81
def N82_:Nat:=82
def N83_:Nat:=83
def N84_:Nat:=84
def N85_:Nat:=85
def N86_:Nat:=86
def N88_:Nat:=88
def N89_:Nat:=89
def N90_:Nat:=90
def N91_:Nat:=91
def N92_:Nat:=92
def N93_:Nat:=93
def N94_:Nat:=94
def N95_:Nat:=95
def N96_:Nat:=96
def N97_:Nat:=97
def N98_:Nat:=98
def N99_:Nat:=99
def N100_:Nat:=100
def N102_:Nat:=102
def N103_:Nat:=103
def N104_:Nat:=104
def N105_:Nat:=105
def N106_:Nat:=106
def N107_:Nat:=107
def N108_:Nat:=108
def N109_:Nat:=109
def N110_:Nat:=110
def N111_:Nat:=111
def N112_:Nat:=112
def N113_:Nat:=113
def N118_:Nat:=118
def N119_:Nat:=119
def N120_:Nat:=120
def N121_:Nat:=121
def N122_:Nat:=122
def N123_:Nat:=123
def N124_:Nat:=124
def N125_:Nat:=125
def N143_:Nat:=143
def N144_:Nat:=144
def N145_:Nat:=145
def N146_:Nat:=146
def N147_:Nat:=147
def F3_r0:List AIns:=[ii 0 (.mv (.c (.lit (.bool false))))]
def F3_r1:List AIns:=[ii 1 (.mv (.c (.lit (.pointer none))))]
def F3_r2:List AIns:=[ii 7 (.mv (.t 1)),
 ii 8 (.call (.f N4_) [(.t 7)]),
 ii 6 (.mv (.t 8)),
 ii 9 (.ext (.t 6) 0),
 ii 10 (.ext (.t 6) 1),
 ii 2 (.alloc true [.lit (.int .i64 0),.lit (.int .i64 0),.slice .full 1 [],.lit (.int .i64 0)]),
 ⟨none,none,.st false 4 (.t 2) (.t 9)⟩,
 ii 3 (.mv (.t 10))]
def F3_r3:List AIns:=[ii 12 (.mv (.t 1)),
 ii 13 (.call (.f N5_) [(.t 12)]),
 ii 11 (.mv (.t 13)),
 ii 14 (.ext (.t 11) 0),
 ii 15 (.ext (.t 11) 1),
 ii 4 (.alloc true [.lit (.int .i64 0),.lit (.int .i64 0),.lit (.int .i64 0),.slice .full 5 [],.slice .full 7 []]),
 ⟨none,none,.st false 5 (.t 4) (.t 14)⟩,
 ii 5 (.mv (.t 15))]
def F3_r4:List AIns:=[ii 16 (.mv (.t 1)),
 ii 17 (.call (.f N6_) [(.t 16)]),
 ii 18 (.unot (.t 17)),
 ii 19 (.mv (.t 18)),
 ⟨some 20,(some (19,true)),.ld false (some 4) (.t 2)⟩,
 ⟨some 21,(some (19,true)),.build [.lit (.int .i64 0),.lit (.int .i64 0),.slice .full 1 [],.lit (.int .i64 0)] []⟩,
 ⟨some 22,(some (19,true)),.call (.f N7_) [(.t 20),(.t 21)]⟩,
 ii 23 (.pick (.t 19) (.t 22) (.c (.lit (.bool false)))),
 ii 24 (.mv (.t 23)),
 ⟨some 25,(some (24,true)),.mv (.t 3)⟩,
 ⟨some 26,(some (24,true)),.unot (.t 25)⟩,
 ii 27 (.pick (.t 24) (.t 26) (.c (.lit (.bool false)))),
 ii 28 (.mv (.t 27)),
 ⟨some 29,(some (28,true)),.mv (.t 5)⟩,
 ⟨some 30,(some (28,true)),.bin .eql (.t 29) (.c (.lit (.int .i64 3)))⟩,
 ii 31 (.pick (.t 28) (.t 30) (.c (.lit (.bool false)))),
 ii 32 (.mv (.t 31)),
 ⟨some 33,(some (32,true)),.ld false (some 5) (.t 4)⟩,
 ⟨some 34,(some (32,true)),.call (.f N8_) [(.t 33),(.c (.lit (.int .i64 1)))]⟩,
 ii 35 (.pick (.t 32) (.t 34) (.c (.lit (.bool false)))),
 ii 36 (.mv (.t 35)),
 ⟨some 37,(some (36,true)),.mv (.t 1)⟩,
 ⟨some 38,(some (36,true)),.call (.f N9_) [(.t 37)]⟩,
 ⟨some 39,(some (36,true)),.peq false (.t 38) (.c (.lit (.pointer none)))⟩,
 ii 40 (.pick (.t 36) (.t 39) (.c (.lit (.bool false)))),
 ii 41 (.mv (.t 40)),
 ⟨some 42,(some (41,true)),.call (.f N10_) []⟩,
 ii 43 (.pick (.t 41) (.t 42) (.c (.lit (.bool false)))),
 ii 0 (.mv (.t 43))]
def F3_:AFun:=⟨0,.seq (.reg F3_r0 [] [] []) (.seq (.reg F3_r1 [] [1] []) (.seq (.reg F3_r2 [] [1,2,3] [2]) (.seq (.reg F3_r3 [] [1,2,3,4,5] [2,4]) (.seq (.reg F3_r4 [] [0] []) (.ret))))),[.t 0]⟩
def F4_r0:List AIns:=[ii 2 (.alloc true [.lit (.int .i64 0),.lit (.int .i64 0),.slice .full 1 [],.lit (.int .i64 0)]),
 ii 3 (.mv (.c (.lit (.bool false))))]
def F4_r1:List AIns:=[ii 5 (.mv (.t 0)),
 ii 6 (.peq false (.t 5) (.c (.lit (.pointer none))))]
def F4_r2:List AIns:=[ii 7 (.build [.lit (.int .i64 0),.lit (.int .i64 0),.slice .full 1 [],.lit (.int .i64 0)] []),
 ⟨none,none,.st false 4 (.t 2) (.t 7)⟩,
 ii 3 (.mv (.c (.lit (.bool false))))]
def F4_r3:List AIns:=[ii 8 (.mv (.t 0)),
 ii 9 (.nck (.t 8)),
 ii 10 (.fa 9 (.t 9)),
 ii 11 (.ld true (some 4) (.t 10)),
 ii 4 (.alloc true [.lit (.int .i64 0),.lit (.int .i64 0),.slice .full 1 [],.lit (.int .i64 0)]),
 ⟨none,none,.st false 4 (.t 4) (.t 11)⟩]
def F4_r4:List AIns:=[ii 12 (.fa 2 (.t 4)),
 ii 13 (.ld false none (.t 12)),
 ii 14 (.call (.f N11_) [(.t 13)]),
 ii 15 (.fa 2 (.t 4)),
 ⟨none,none,.st false 1 (.t 15) (.t 14)⟩]
def F4_r5:List AIns:=[ii 16 (.mv (.t 0)),
 ii 17 (.nck (.t 16)),
 ii 18 (.fa 13 (.t 17)),
 ii 19 (.ld true none (.t 18)),
 ii 20 (.unot (.t 19))]
def F4_r6:List AIns:=[ii 21 (.fa 0 (.t 4)),
 ⟨none,none,.st false 1 (.t 21) (.c (.lit (.int .i64 1)))⟩]
def F4_r7:List AIns:=[ii 22 (.ld false (some 4) (.t 4)),
 ii 23 (.mv (.t 0)),
 ii 24 (.nck (.t 23)),
 ii 25 (.fa 13 (.t 24)),
 ii 26 (.ldo 0 none (.t 25)),
 ⟨none,none,.st false 4 (.t 2) (.t 22)⟩,
 ii 3 (.mv (.t 26))]
def F4_:AFun:=⟨1,.seq (.reg F4_r0 [] [0,2] [2]) (.seq (.seq (.reg F4_r1 [] [0,2,6] [2]) (.cond (.t 6) (.seq (.reg F4_r2 [] [2,3] [2]) (.ret)) (.skip))) (.seq (.reg F4_r3 [] [0,2,4] [2,4]) (.seq (.reg F4_r4 [] [0,2,4] [2,4]) (.seq (.seq (.reg F4_r5 [] [0,2,4,20] [2,4]) (.cond (.t 20) (.reg F4_r6 [] [0,2,4] [2,4]) (.skip))) (.seq (.reg F4_r7 [] [2,3] [2]) (.ret)))))),[.cell (some 4) 2,.t 3]⟩
def F5_r0:List AIns:=[ii 2 (.alloc false [.lit (.int .i64 0),.lit (.int .i64 0),.lit (.int .i64 0),.slice .full 5 [],.slice .full 7 []]),
 ii 3 (.alloc false [.lit (.int .i64 0)])]
def F5_r1:List AIns:=[ii 5 (.mv (.t 0)),
 ii 6 (.peq false (.t 5) (.c (.lit (.pointer none))))]
def F5_r2:List AIns:=[ii 7 (.build [.lit (.int .i64 0),.lit (.int .i64 0),.lit (.int .i64 0),.slice .full 5 [],.slice .full 7 []] []),
 ⟨none,none,.st true 5 (.t 2) (.t 7)⟩,
 ⟨none,none,.st true 1 (.t 3) (.c (.lit (.int .i64 3)))⟩]
def F5_r3:List AIns:=[ii 8 (.mkf N12_ [] [(.t 2),(.t 3)]),
 ⟨none,none,.dfr (.t 8) []⟩]
def F5_r4:List AIns:=[ii 9 (.build [.lit (.int .i64 0),.lit (.int .i64 0)] []),
 ii 4 (.alloc false [.lit (.int .i64 0),.lit (.int .i64 0)]),
 ⟨none,none,.st true 2 (.t 4) (.t 9)⟩]
def F5_r5:List AIns:=[ii 10 (.mv (.t 0)),
 ii 11 (.nck (.t 10)),
 ii 12 (.fa 3 (.t 11)),
 ii 13 (.ld true (some 5) (.t 12)),
 ii 14 (.mv (.t 0)),
 ii 15 (.nck (.t 14)),
 ii 16 (.fa 8 (.t 15)),
 ii 17 (.ld true none (.t 16)),
 ii 18 (.call (.f N13_) [(.t 4),(.t 13),(.t 17),(.c (.lit (.pointer none)))]),
 ⟨none,none,.st true 5 (.t 2) (.t 18)⟩,
 ⟨none,none,.st true 1 (.t 3) (.c (.lit (.int .i64 0)))⟩]
def F5_:AFun:=⟨1,.seq (.reg F5_r0 [] [0,2,3] []) (.seq (.seq (.reg F5_r1 [] [0,2,3,6] []) (.cond (.t 6) (.seq (.reg F5_r2 [] [2,3] []) (.ret)) (.skip))) (.seq (.reg F5_r3 [] [0,2,3] []) (.seq (.reg F5_r4 [] [0,2,3,4] []) (.seq (.reg F5_r5 [] [2,3] []) (.ret))))),[.cell (some 5) 2,.cell none 3]⟩
def F6_r0:List AIns:=[ii 2 (.mv (.c (.lit (.bool false))))]
def F6_r1:List AIns:=[ii 3 (.mv (.t 0)),
 ii 4 (.peq false (.t 3) (.c (.lit (.pointer none)))),
 ii 5 (.mv (.t 4)),
 ⟨some 6,(some (5,false)),.mv (.t 0)⟩,
 ⟨some 7,(some (5,false)),.nck (.t 6)⟩,
 ⟨some 8,(some (5,false)),.fa 13 (.t 7)⟩,
 ⟨some 9,(some (5,false)),.ld true none (.t 8)⟩,
 ii 10 (.pick (.t 5) (.c (.lit (.bool true))) (.t 9))]
def F6_r2:List AIns:=[ii 2 (.mv (.c (.lit (.bool false))))]
def F6_r3:List AIns:=[ii 11 (.mv (.t 0)),
 ii 12 (.nck (.t 11)),
 ii 13 (.fa 9 (.t 12)),
 ii 14 (.fa 3 (.t 13)),
 ii 15 (.ld true none (.t 14)),
 ii 16 (.mv (.t 0)),
 ii 17 (.nck (.t 16)),
 ii 18 (.fa 2 (.t 17)),
 ii 19 (.ld true none (.t 18)),
 ii 20 (.bin .eql (.t 15) (.t 19))]
def F6_r4:List AIns:=[ii 21 (.mv (.t 0)),
 ii 22 (.mv (.t 0)),
 ii 23 (.nck (.t 21)),
 ii 24 (.fa 9 (.t 23)),
 ii 25 (.fa 0 (.t 24)),
 ⟨none,none,.st true 1 (.t 25) (.c (.lit (.int .i64 1)))⟩,
 ii 26 (.nck (.t 22)),
 ii 27 (.fa 13 (.t 26)),
 ⟨none,none,.st true 1 (.t 27) (.c (.lit (.bool true)))⟩]
def F6_r5:List AIns:=[ii 2 (.mv (.c (.lit (.bool false))))]
def F6_r6:List AIns:=[ii 28 (.mv (.t 0)),
 ii 29 (.call (.f N14_) [(.t 28)]),
 ii 30 (.unot (.t 29))]
def F6_r7:List AIns:=[ii 31 (.mv (.t 0)),
 ii 32 (.mv (.t 0)),
 ii 33 (.nck (.t 31)),
 ii 34 (.fa 9 (.t 33)),
 ii 35 (.fa 0 (.t 34)),
 ⟨none,none,.st true 1 (.t 35) (.c (.lit (.int .i64 2)))⟩,
 ii 36 (.nck (.t 32)),
 ii 37 (.fa 13 (.t 36)),
 ⟨none,none,.st true 1 (.t 37) (.c (.lit (.bool true)))⟩]
def F6_r8:List AIns:=[ii 2 (.mv (.c (.lit (.bool false))))]
def F6_r9:List AIns:=[ii 38 (.mv (.t 0)),
 ii 39 (.nck (.t 38)),
 ii 40 (.fa 9 (.t 39)),
 ii 41 (.fa 3 (.t 40)),
 ii 42 (.ld true none (.t 41)),
 ii 43 (.bin .add (.t 42) (.c (.lit (.int .i64 1)))),
 ii 44 (.nck (.t 38)),
 ii 45 (.fa 9 (.t 44)),
 ii 46 (.fa 3 (.t 45)),
 ⟨none,none,.st true 1 (.t 46) (.t 43)⟩]
def F6_r10:List AIns:=[ii 2 (.mv (.c (.lit (.bool true))))]
def F6_:AFun:=⟨1,.seq (.reg F6_r0 [] [0] []) (.seq (.seq (.reg F6_r1 [] [0,10] []) (.cond (.t 10) (.seq (.reg F6_r2 [] [2] []) (.ret)) (.skip))) (.seq (.seq (.reg F6_r3 [] [0,20] []) (.cond (.t 20) (.seq (.reg F6_r4 [] [] []) (.seq (.reg F6_r5 [] [2] []) (.ret))) (.skip))) (.seq (.seq (.reg F6_r6 [] [0,30] []) (.cond (.t 30) (.seq (.reg F6_r7 [] [] []) (.seq (.reg F6_r8 [] [2] []) (.ret))) (.skip))) (.seq (.reg F6_r9 [] [] []) (.seq (.reg F6_r10 [] [2] []) (.ret)))))),[.t 2]⟩
def F7_r0:List AIns:=[ii 2 (.box true (.t 0)),
 ii 3 (.box true (.t 1)),
 ii 4 (.mv (.c (.lit (.bool false))))]
def F7_r1:List AIns:=[ii 5 (.fa 0 (.t 2)),
 ii 6 (.ld false none (.t 5)),
 ii 7 (.fa 0 (.t 3)),
 ii 8 (.ld false none (.t 7)),
 ii 9 (.bin .eql (.t 6) (.t 8)),
 ii 10 (.mv (.t 9)),
 ⟨some 11,(some (10,true)),.fa 1 (.t 2)⟩,
 ⟨some 12,(some (10,true)),.ld false none (.t 11)⟩,
 ⟨some 13,(some (10,true)),.fa 1 (.t 3)⟩,
 ⟨some 14,(some (10,true)),.ld false none (.t 13)⟩,
 ⟨some 15,(some (10,true)),.bin .eql (.t 12) (.t 14)⟩,
 ii 16 (.pick (.t 10) (.t 15) (.c (.lit (.bool false)))),
 ii 17 (.mv (.t 16)),
 ⟨some 18,(some (17,true)),.fa 3 (.t 2)⟩,
 ⟨some 19,(some (17,true)),.ld false none (.t 18)⟩,
 ⟨some 20,(some (17,true)),.fa 3 (.t 3)⟩,
 ⟨some 21,(some (17,true)),.ld false none (.t 20)⟩,
 ⟨some 22,(some (17,true)),.bin .eql (.t 19) (.t 21)⟩,
 ii 23 (.pick (.t 17) (.t 22) (.c (.lit (.bool false)))),
 ii 24 (.mv (.t 23)),
 ⟨some 25,(some (24,true)),.fa 2 (.t 2)⟩,
 ⟨some 26,(some (24,true)),.ld false none (.t 25)⟩,
 ⟨some 27,(some (24,true)),.fa 2 (.t 3)⟩,
 ⟨some 28,(some (24,true)),.ld false none (.t 27)⟩,
 ⟨some 29,(some (24,true)),.call (.f N15_) [(.t 26),(.t 28)]⟩,
 ii 30 (.pick (.t 24) (.t 29) (.c (.lit (.bool false)))),
 ii 4 (.mv (.t 30))]
def F7_:AFun:=⟨2,.seq (.reg F7_r0 [] [2,3] [2,3]) (.seq (.reg F7_r1 [] [4] []) (.ret)),[.t 4]⟩
def F8_r0:List AIns:=[ii 2 (.box true (.t 0)),
 ii 4 (.mv (.c (.lit (.bool false))))]
def F8_r1:List AIns:=[ii 5 (.ld false (some 5) (.t 2)),
 ii 6 (.mv (.t 1)),
 ii 7 (.bin .add (.t 6) (.c (.lit (.int .i64 1)))),
 ii 8 (.call (.f N16_) [(.t 5),(.t 7)]),
 ii 9 (.bin .gtr (.t 8) (.c (.lit (.int .i64 0)))),
 ii 4 (.mv (.t 9))]
def F8_:AFun:=⟨2,.seq (.reg F8_r0 [] [1,2] [2]) (.seq (.reg F8_r1 [] [4] []) (.ret)),[.t 4]⟩
def F9_r0:List AIns:=[ii 2 (.mv (.c (.lit (.pointer none))))]
def F9_r1:List AIns:=[ii 4 (.mv (.t 0)),
 ii 5 (.peq false (.t 4) (.c (.lit (.pointer none))))]
def F9_r2:List AIns:=[ii 2 (.mv (.c (.lit (.pointer none))))]
def F9_r3:List AIns:=[ii 6 (.mv (.t 0)),
 ii 7 (.nck (.t 6)),
 ii 8 (.ld true (some 14) (.t 7)),
 ii 3 (.alloc false [.slice .full 3 [],.slice .full 8 [],.lit (.int .i64 0),.lit (.int .i64 0),.lit (.int .i64 0),.lit (.int .i64 0),.slice .full 5 [],.slice .full 7 [],.lit (.pointer none),.lit (.int .i64 0),.lit (.int .i64 0),.slice .full 1 [],.lit (.int .i64 0),.lit (.bool false)]),
 ⟨none,none,.st true 14 (.t 3) (.t 8)⟩]
def F9_r4:List AIns:=[ii 9 (.mv (.t 0)),
 ii 10 (.nck (.t 9)),
 ii 11 (.fa 9 (.t 10)),
 ii 12 (.fa 2 (.t 11)),
 ii 13 (.ld true none (.t 12)),
 ii 14 (.call (.f N11_) [(.t 13)]),
 ii 15 (.fa 9 (.t 3)),
 ii 16 (.fa 2 (.t 15)),
 ⟨none,none,.st true 1 (.t 16) (.t 14)⟩]
def F9_r5:List AIns:=[ii 2 (.mv (.t 3))]
def F9_:AFun:=⟨1,.seq (.reg F9_r0 [] [0] []) (.seq (.seq (.reg F9_r1 [] [0,5] []) (.cond (.t 5) (.seq (.reg F9_r2 [] [2] []) (.ret)) (.skip))) (.seq (.reg F9_r3 [] [0,3] []) (.seq (.reg F9_r4 [] [3] []) (.seq (.reg F9_r5 [] [2] []) (.ret))))),[.t 2]⟩
def F10_r0:List AIns:=[ii 0 (.mv (.c (.lit (.bool false))))]
def F10_r1:List AIns:=[ii 13 (.call (.f N18_) []),
 ii 14 (.bsl 1 [(.c (.lit (.int .i64 4)))]),
 ii 15 (.call (.f N17_) [(.t 13),(.c (.lit (.int .i64 100))),(.t 14)]),
 ii 12 (.mv (.t 15)),
 ii 16 (.ext (.t 12) 0),
 ii 17 (.ext (.t 12) 1),
 ii 1 (.alloc true [.lit (.int .i64 0),.lit (.int .i64 0),.slice .full 1 [],.lit (.int .i64 0)]),
 ⟨none,none,.st false 4 (.t 1) (.t 16)⟩,
 ii 2 (.mv (.t 17))]
def F10_r2:List AIns:=[ii 19 (.call (.f N18_) []),
 ii 20 (.bsl 1 [(.c (.lit (.int .i64 4)))]),
 ii 21 (.call (.f N19_) [(.t 19),(.c (.lit (.int .i64 100))),(.t 20)]),
 ii 18 (.mv (.t 21)),
 ii 22 (.ext (.t 18) 0),
 ii 23 (.ext (.t 18) 1),
 ii 3 (.mv (.t 22)),
 ii 4 (.mv (.t 23))]
def F10_r3:List AIns:=[ii 24 (.mv (.t 3)),
 ii 25 (.call (.f N6_) [(.t 24)]),
 ii 5 (.mv (.t 25))]
def F10_r4:List AIns:=[ii 27 (.mv (.t 3)),
 ii 28 (.call (.f N5_) [(.t 27)]),
 ii 26 (.mv (.t 28)),
 ii 29 (.ext (.t 26) 0),
 ii 30 (.ext (.t 26) 1),
 ii 6 (.alloc true [.lit (.int .i64 0),.lit (.int .i64 0),.lit (.int .i64 0),.slice .full 5 [],.slice .full 7 []]),
 ⟨none,none,.st false 5 (.t 6) (.t 29)⟩,
 ii 7 (.mv (.t 30))]
def F10_r5:List AIns:=[ii 32 (.mv (.t 3)),
 ii 33 (.call (.f N4_) [(.t 32)]),
 ii 31 (.mv (.t 33)),
 ii 34 (.ext (.t 31) 0),
 ii 35 (.ext (.t 31) 1),
 ii 8 (.alloc true [.lit (.int .i64 0),.lit (.int .i64 0),.slice .full 1 [],.lit (.int .i64 0)]),
 ⟨none,none,.st false 4 (.t 8) (.t 34)⟩,
 ii 9 (.mv (.t 35))]
def F10_r6:List AIns:=[ii 37 (.build [.slice .full 3 [],.slice .full 8 []] []),
 ii 38 (.call (.f N17_) [(.t 37),(.c (.lit (.int .i64 0))),(.c (.slice .full 1 []))]),
 ii 36 (.mv (.t 38)),
 ii 39 (.ext (.t 36) 0),
 ii 40 (.ext (.t 36) 1),
 ii 10 (.alloc true [.lit (.int .i64 0),.lit (.int .i64 0),.slice .full 1 [],.lit (.int .i64 0)]),
 ⟨none,none,.st false 4 (.t 10) (.t 39)⟩,
 ii 11 (.mv (.t 40))]
def F10_r7:List AIns:=[ii 41 (.mv (.t 2)),
 ii 42 (.bin .eql (.t 41) (.c (.lit (.int .i64 0)))),
 ii 43 (.mv (.t 42)),
 ⟨some 44,(some (43,true)),.ld false (some 4) (.t 1)⟩,
 ⟨some 45,(some (43,true)),.build [.lit (.int .i64 0),.lit (.int .i64 0),.slice .full 1 [],.lit (.int .i64 0)] [(0,1,(.c (.lit (.int .i64 0)))),(1,1,(.c (.lit (.int .i64 5)))),(3,1,(.c (.lit (.int .i64 4))))]⟩,
 ⟨some 46,(some (43,true)),.call (.f N7_) [(.t 44),(.t 45)]⟩,
 ii 47 (.pick (.t 43) (.t 46) (.c (.lit (.bool false)))),
 ii 48 (.mv (.t 47)),
 ⟨some 49,(some (48,true)),.mv (.t 4)⟩,
 ⟨some 50,(some (48,true)),.bin .eql (.t 49) (.c (.lit (.int .i64 0)))⟩,
 ii 51 (.pick (.t 48) (.t 50) (.c (.lit (.bool false)))),
 ii 52 (.mv (.t 51)),
 ⟨some 53,(some (52,true)),.mv (.t 5)⟩,
 ii 54 (.pick (.t 52) (.t 53) (.c (.lit (.bool false)))),
 ii 55 (.mv (.t 54)),
 ⟨some 56,(some (55,true)),.mv (.t 7)⟩,
 ⟨some 57,(some (55,true)),.bin .eql (.t 56) (.c (.lit (.int .i64 0)))⟩,
 ii 58 (.pick (.t 55) (.t 57) (.c (.lit (.bool false)))),
 ii 59 (.mv (.t 58)),
 ⟨some 60,(some (59,true)),.fa 0 (.t 6)⟩,
 ⟨some 61,(some (59,true)),.ld false none (.t 60)⟩,
 ⟨some 62,(some (59,true)),.bin .eql (.t 61) (.c (.lit (.int .i64 10)))⟩,
 ii 63 (.pick (.t 59) (.t 62) (.c (.lit (.bool false)))),
 ii 64 (.mv (.t 63)),
 ⟨some 65,(some (64,true)),.mv (.t 9)⟩,
 ⟨some 66,(some (64,true)),.unot (.t 65)⟩,
 ii 67 (.pick (.t 64) (.t 66) (.c (.lit (.bool false)))),
 ii 68 (.mv (.t 67)),
 ⟨some 69,(some (68,true)),.fa 3 (.t 8)⟩,
 ⟨some 70,(some (68,true)),.ld false none (.t 69)⟩,
 ⟨some 71,(some (68,true)),.bin .eql (.t 70) (.c (.lit (.int .i64 1)))⟩,
 ii 72 (.pick (.t 68) (.t 71) (.c (.lit (.bool false)))),
 ii 73 (.mv (.t 72)),
 ⟨some 74,(some (73,true)),.mv (.t 11)⟩,
 ⟨some 75,(some (73,true)),.bin .eql (.t 74) (.c (.lit (.int .i64 60)))⟩,
 ii 76 (.pick (.t 73) (.t 75) (.c (.lit (.bool false)))),
 ii 0 (.mv (.t 76))]
def F10_:AFun:=⟨0,.seq (.reg F10_r0 [] [] []) (.seq (.reg F10_r1 [] [1,2] [1]) (.seq (.reg F10_r2 [] [1,2,3,4] [1]) (.seq (.reg F10_r3 [] [1,2,3,4,5] [1]) (.seq (.reg F10_r4 [] [1,2,3,4,5,6,7] [1,6]) (.seq (.reg F10_r5 [] [1,2,4,5,6,7,8,9] [1,6,8]) (.seq (.reg F10_r6 [] [1,2,4,5,6,7,8,9,11] [1,6,8]) (.seq (.reg F10_r7 [] [0] []) (.ret)))))))),[.t 0]⟩
def F13_r0:List AIns:=[ii 5 (.box true (.t 1)),
 ii 8 (.alloc true [.lit (.int .i64 0),.lit (.int .i64 0),.lit (.int .i64 0),.slice .full 5 [],.slice .full 7 []])]
def F13_r1:List AIns:=[ii 24 (.fa 0 (.t 5)),
 ii 25 (.ld false none (.t 24)),
 ii 26 (.bin .eql (.t 25) (.c (.lit (.int .i64 0)))),
 ii 27 (.mv (.t 26)),
 ⟨some 28,(some (27,false)),.fa 0 (.t 5)⟩,
 ⟨some 29,(some (27,false)),.ld false none (.t 28)⟩,
 ⟨some 30,(some (27,false)),.bin .eql (.t 29) (.c (.lit (.int .i64 5)))⟩,
 ii 31 (.pick (.t 27) (.c (.lit (.bool true))) (.t 30))]
def F13_r2:List AIns:=[ii 32 (.fa 0 (.t 5)),
 ii 33 (.ld false none (.t 32)),
 ii 34 (.bin .eql (.t 33) (.c (.lit (.int .i64 5)))),
 ii 9 (.mv (.t 34))]
def F13_r3:List AIns:=[ii 36 (.mv (.t 3)),
 ii 37 (.fa 1 (.t 5)),
 ii 38 (.ld false none (.t 37)),
 ii 39 (.mv (.t 9)),
 ii 40 (.call (.f N20_) [(.t 36),(.t 38),(.t 39)]),
 ii 35 (.mv (.t 40)),
 ii 41 (.ext (.t 35) 0),
 ii 42 (.ext (.t 35) 1),
 ii 10 (.mv (.t 41)),
 ii 11 (.mv (.t 42))]
def F13_r4:List AIns:=[ii 43 (.mv (.t 11))]
def F13_r5:List AIns:=[ii 44 (.mv (.t 0)),
 ii 45 (.call (.f N21_) [(.t 44)]),
 ⟨none,none,.dfr (.t 45) []⟩]
def F13_r6:List AIns:=[ii 46 (.fa 0 (.t 5)),
 ii 47 (.ld false none (.t 46)),
 ii 48 (.mv (.t 10)),
 ii 49 (.build [.lit (.int .i64 0),.lit (.int .i64 0),.lit (.int .i64 0),.slice .full 5 [],.slice .full 7 []] [(0,1,(.t 47)),(1,1,(.t 48))]),
 ⟨none,none,.st false 5 (.t 8) (.t 49)⟩]
def F13_r7:List AIns:=[ii 51 (.mv (.t 2)),
 ii 52 (.fa 1 (.t 5)),
 ii 53 (.ld false none (.t 52)),
 ii 54 (.mv (.t 9)),
 ii 55 (.call (.f N22_) [(.t 51),(.t 53),(.t 54)]),
 ii 50 (.mv (.t 55)),
 ii 56 (.ext (.t 50) 0),
 ii 57 (.ext (.t 50) 1),
 ii 12 (.mv (.t 56)),
 ii 13 (.mv (.t 57))]
def F13_r8:List AIns:=[ii 58 (.mv (.t 0)),
 ii 59 (.mv (.t 12)),
 ii 60 (.call (.f N23_) [(.t 58),(.t 59)]),
 ⟨none,none,.st false 5 (.t 8) (.t 60)⟩]
def F13_r9:List AIns:=[ii 61 (.mv (.t 0)),
 ii 62 (.call (.f N21_) [(.t 61)]),
 ⟨none,none,.dfr (.t 62) []⟩]
def F13_r10:List AIns:=[ii 63 (.ld false (some 5) (.t 5)),
 ii 64 (.call (.f N24_) [(.t 63)]),
 ii 14 (.alloc true [.lit (.int .i64 0),.lit (.int .i64 0),.lit (.int .i64 0),.slice .full 5 [],.slice .full 7 []]),
 ⟨none,none,.st false 5 (.t 14) (.t 64)⟩]
def F13_r11:List AIns:=[ii 65 (.mv (.t 3)),
 ii 15 (.mv (.t 65))]
def F13_r12:List AIns:=[ii 66 (.fa 0 (.t 5)),
 ii 67 (.ld false none (.t 66)),
 ii 68 (.bin .eql (.t 67) (.c (.lit (.int .i64 3)))),
 ii 69 (.mv (.t 68)),
 ⟨some 70,(some (69,false)),.fa 0 (.t 5)⟩,
 ⟨some 71,(some (69,false)),.ld false none (.t 70)⟩,
 ⟨some 72,(some (69,false)),.bin .eql (.t 71) (.c (.lit (.int .i64 7)))⟩,
 ii 73 (.pick (.t 69) (.c (.lit (.bool true))) (.t 72))]
def F13_r13:List AIns:=[ii 74 (.mv (.t 3)),
 ii 75 (.fa 1 (.t 5)),
 ii 76 (.ld false none (.t 75)),
 ii 77 (.fa 0 (.t 5)),
 ii 78 (.ld false none (.t 77)),
 ii 79 (.bin .eql (.t 78) (.c (.lit (.int .i64 3)))),
 ii 80 (.call (.f N25_) [(.t 74),(.t 76),(.t 79)]),
 ii 15 (.mv (.t 80))]
def F13_r14:List AIns:=[ii 81 (.mv (.t 15)),
 ii 82 (.nck (.t 81)),
 ii 83 (.fa 1 (.t 82)),
 ii 84 (.ld true none (.t 83)),
 ii 85 (.fa 1 (.t 14)),
 ⟨none,none,.st false 1 (.t 85) (.t 84)⟩]
def F13_r15:List AIns:=[ii 86 (.fa 3 (.t 5)),
 ii 87 (.ld false none (.t 86)),
 ii 88 (.len false (.t 87)),
 ii 89 (.mv (.c (.lit (.int .i64 0))))]
def F13_r16:List AIns:=[ii 90 (.bin .lss (.t 89) (.t 88))]
def F13_r17:List AIns:=[ii 91 (.ia 5 (.t 87) (.t 89)),
 ii 92 (.ld true (some 5) (.t 91)),
 ii 17 (.alloc true [.lit (.int .i64 0),.lit (.int .i64 0),.lit (.int .i64 0),.slice .full 5 [],.slice .full 7 []]),
 ⟨none,none,.st false 5 (.t 17) (.t 92)⟩]
def F13_r18:List AIns:=[ii 93 (.fa 3 (.t 14)),
 ii 94 (.ld false none (.t 93)),
 ii 95 (.mv (.t 0)),
 ii 96 (.ld false (some 5) (.t 17)),
 ii 97 (.mv (.t 2)),
 ii 98 (.mv (.t 15)),
 ii 99 (.call (.f N13_) [(.t 95),(.t 96),(.t 97),(.t 98)]),
 ii 100 (.bsl 5 [(.t 99)]),
 ii 101 (.wop (.appm 5 72) [(.t 94),(.t 100)]),
 ii 102 (.fa 3 (.t 14)),
 ⟨none,none,.st false 1 (.t 102) (.t 101)⟩]
def F13_r19:List AIns:=[ii 103 (.bin .add (.t 89) (.c (.lit (.int .i64 1)))),
 ii 89 (.mv (.t 103))]
def F13_l1:AC:=.seq (.reg F13_r16 [] [0,2,3,5,8,14,15,87,88,89,90] [5,8,14]) (.seq (.cond (.t 90) (.skip) (.exit 0)) (.seq (.block 1 (.seq (.reg F13_r17 [] [0,2,3,5,8,14,15,17,87,88,89] [5,8,14,17]) (.reg F13_r18 [] [0,2,3,5,8,14,15,87,88,89] [5,8,14]))) (.reg F13_r19 [] [0,2,3,5,8,14,15,87,88,89] [5,8,14])))
def F13_r20:List AIns:=[ii 104 (.fa 4 (.t 5)),
 ii 105 (.ld false none (.t 104)),
 ii 106 (.len false (.t 105)),
 ii 107 (.mv (.c (.lit (.int .i64 0))))]
def F13_r21:List AIns:=[ii 108 (.bin .lss (.t 107) (.t 106))]
def F13_r22:List AIns:=[ii 109 (.ia 7 (.t 105) (.t 107)),
 ii 110 (.ld true (some 7) (.t 109)),
 ii 19 (.alloc true [.slice .full 1 [],.slice .full 1 [],.lit (.int .i64 0),.lit (.int .i64 0),.lit (.int .i64 0),.slice .full 5 [],.slice .full 7 []]),
 ⟨none,none,.st false 7 (.t 19) (.t 110)⟩]
def F13_r23:List AIns:=[ii 111 (.fa 1 (.t 19)),
 ii 112 (.ld false none (.t 111)),
 ii 113 (.wop (.appm 1 1) [(.c (.slice .full 1 [])),(.t 112)]),
 ii 114 (.build [.slice .full 1 [],.slice .full 1 [],.lit (.int .i64 0),.lit (.int .i64 0),.lit (.int .i64 0),.slice .full 5 [],.slice .full 7 []] [(1,1,(.t 113))]),
 ii 20 (.alloc true [.slice .full 1 [],.slice .full 1 [],.lit (.int .i64 0),.lit (.int .i64 0),.lit (.int .i64 0),.slice .full 5 [],.slice .full 7 []]),
 ⟨none,none,.st false 7 (.t 20) (.t 114)⟩]
def F13_r24:List AIns:=[ii 115 (.mv (.t 3)),
 ii 21 (.mv (.t 115))]
def F13_r25:List AIns:=[ii 116 (.fa 0 (.t 19)),
 ii 117 (.ld false none (.t 116)),
 ii 118 (.len false (.t 117)),
 ii 119 (.mv (.c (.lit (.int .i64 0))))]
def F13_r26:List AIns:=[ii 120 (.bin .lss (.t 119) (.t 118))]
def F13_r27:List AIns:=[ii 121 (.mv (.t 119)),
 ii 122 (.ia 1 (.t 117) (.t 119)),
 ii 123 (.ld true none (.t 122)),
 ii 22 (.mv (.t 121)),
 ii 23 (.mv (.t 123))]
def F13_r28:List AIns:=[ii 124 (.mv (.t 21)),
 ii 125 (.mv (.t 23)),
 ii 126 (.fa 1 (.t 19)),
 ii 127 (.ld false none (.t 126)),
 ii 128 (.mv (.t 22)),
 ii 129 (.ia 1 (.t 127) (.t 128)),
 ii 130 (.ld true none (.t 129)),
 ii 131 (.call (.f N25_) [(.t 124),(.t 125),(.t 130)]),
 ii 21 (.mv (.t 131))]
def F13_r29:List AIns:=[ii 132 (.fa 0 (.t 20)),
 ii 133 (.ld false none (.t 132)),
 ii 134 (.mv (.t 21)),
 ii 135 (.nck (.t 134)),
 ii 136 (.fa 1 (.t 135)),
 ii 137 (.ld true none (.t 136)),
 ii 138 (.bsl 1 [(.t 137)]),
 ii 139 (.wop (.appm 1 8) [(.t 133),(.t 138)]),
 ii 140 (.fa 0 (.t 20)),
 ⟨none,none,.st false 1 (.t 140) (.t 139)⟩]
def F13_r30:List AIns:=[ii 141 (.bin .add (.t 119) (.c (.lit (.int .i64 1)))),
 ii 119 (.mv (.t 141))]
def F13_l3:AC:=.seq (.reg F13_r26 [] [0,2,3,8,14,19,20,21,105,106,107,117,118,119,120] [8,14,19,20]) (.seq (.cond (.t 120) (.skip) (.exit 4)) (.seq (.block 5 (.seq (.reg F13_r27 [] [0,2,3,8,14,19,20,21,22,23,105,106,107,117,118,119] [8,14,19,20]) (.seq (.reg F13_r28 [] [0,2,3,8,14,19,20,21,105,106,107,117,118,119] [8,14,19,20]) (.reg F13_r29 [] [0,2,3,8,14,19,20,21,105,106,107,117,118,119] [8,14,19,20])))) (.reg F13_r30 [] [0,2,3,8,14,19,20,21,105,106,107,117,118,119] [8,14,19,20])))
def F13_r31:List AIns:=[ii 142 (.mv (.t 0)),
 ii 143 (.fa 2 (.t 19)),
 ii 144 (.ld false (some 5) (.t 143)),
 ii 145 (.mv (.t 2)),
 ii 146 (.mv (.t 21)),
 ii 147 (.call (.f N13_) [(.t 142),(.t 144),(.t 145),(.t 146)]),
 ii 148 (.fa 2 (.t 20)),
 ⟨none,none,.st false 5 (.t 148) (.t 147)⟩]
def F13_r32:List AIns:=[ii 149 (.fa 4 (.t 14)),
 ii 150 (.ld false none (.t 149)),
 ii 151 (.ld false (some 7) (.t 20)),
 ii 152 (.bsl 7 [(.t 151)]),
 ii 153 (.wop (.appm 7 120) [(.t 150),(.t 152)]),
 ii 154 (.fa 4 (.t 14)),
 ⟨none,none,.st false 1 (.t 154) (.t 153)⟩]
def F13_r33:List AIns:=[ii 155 (.bin .add (.t 107) (.c (.lit (.int .i64 1)))),
 ii 107 (.mv (.t 155))]
def F13_l2:AC:=.seq (.reg F13_r21 [] [0,2,3,8,14,105,106,107,108] [8,14]) (.seq (.cond (.t 108) (.skip) (.exit 2)) (.seq (.block 3 (.seq (.reg F13_r22 [] [0,2,3,8,14,19,105,106,107] [8,14,19]) (.seq (.reg F13_r23 [] [0,2,3,8,14,19,20,105,106,107] [8,14,19,20]) (.seq (.reg F13_r24 [] [0,2,3,8,14,19,20,21,105,106,107] [8,14,19,20]) (.seq (.seq (.reg F13_r25 [] [0,2,3,8,14,19,20,21,105,106,107,117,118,119] [8,14,19,20]) (.block 4 (.loop F13_l3))) (.seq (.reg F13_r31 [] [0,2,3,8,14,20,105,106,107] [8,14,20]) (.reg F13_r32 [] [0,2,3,8,14,105,106,107] [8,14]))))))) (.reg F13_r33 [] [0,2,3,8,14,105,106,107] [8,14])))
def F13_r34:List AIns:=[ii 156 (.ld false (some 5) (.t 14)),
 ⟨none,none,.st false 5 (.t 8) (.t 156)⟩]
def F13_:AFun:=⟨4,.seq (.reg F13_r0 [] [0,2,3,5,8] [5,8]) (.seq (.seq (.reg F13_r1 [] [0,2,3,5,8,31] [5,8]) (.cond (.t 31) (.seq (.reg F13_r2 [] [0,2,3,5,8,9] [5,8]) (.seq (.seq (.reg F13_r3 [] [0,2,5,8,9,10,11] [5,8]) (.seq (.reg F13_r4 [] [0,2,5,8,9,10,43] [5,8]) (.cond (.t 43) (.seq (.reg F13_r5 [] [5,8,10] [5,8]) (.seq (.reg F13_r6 [] [8] [8]) (.ret))) (.skip)))) (.seq (.reg F13_r7 [] [0,8,12] [8]) (.seq (.reg F13_r8 [] [8] [8]) (.ret))))) (.skip))) (.seq (.reg F13_r9 [] [0,2,3,5,8] [5,8]) (.seq (.reg F13_r10 [] [0,2,3,5,8,14] [5,8,14]) (.seq (.reg F13_r11 [] [0,2,3,5,8,14,15] [5,8,14]) (.seq (.seq (.reg F13_r12 [] [0,2,3,5,8,14,15,73] [5,8,14]) (.cond (.t 73) (.seq (.reg F13_r13 [] [0,2,3,5,8,14,15] [5,8,14]) (.reg F13_r14 [] [0,2,3,5,8,14,15] [5,8,14])) (.skip))) (.seq (.seq (.reg F13_r15 [] [0,2,3,5,8,14,15,87,88,89] [5,8,14]) (.block 0 (.loop F13_l1))) (.seq (.seq (.reg F13_r20 [] [0,2,3,8,14,105,106,107] [8,14]) (.block 2 (.loop F13_l2))) (.seq (.reg F13_r34 [] [8] [8]) (.ret))))))))),[.cell (some 5) 8]⟩
def F14_r0:List AIns:=[ii 2 (.mv (.c (.lit (.bool false))))]
def F14_r1:List AIns:=[ii 10 (.mv (.t 0)),
 ii 11 (.nck (.t 10)),
 ii 12 (.fa 3 (.t 11)),
 ii 13 (.ld true (some 5) (.t 12)),
 ii 3 (.alloc true [.lit (.int .i64 0),.lit (.int .i64 0),.lit (.int .i64 0),.slice .full 5 [],.slice .full 7 []]),
 ⟨none,none,.st false 5 (.t 3) (.t 13)⟩]
def F14_r2:List AIns:=[ii 14 (.fa 3 (.t 3)),
 ii 15 (.ld false none (.t 14)),
 ii 4 (.mv (.t 15))]
def F14_r3:List AIns:=[ii 16 (.fa 0 (.t 3)),
 ii 17 (.ld false none (.t 16))]
def F14_r4:List AIns:=[ii 19 (.bin .eql (.t 17) (.c (.lit (.int .i64 9)))),
 ii 18 (.mv (.t 19))]
def F14_r5:List AIns:=[ii 20 (.mv (.t 0)),
 ii 21 (.fa 2 (.t 3)),
 ii 22 (.ld false none (.t 21)),
 ii 23 (.mv (.t 0)),
 ii 24 (.nck (.t 23)),
 ii 25 (.fa 8 (.t 24)),
 ii 26 (.ld true none (.t 25)),
 ii 27 (.mv (.t 4)),
 ii 28 (.ia 5 (.t 27) (.c (.lit (.int .i64 0)))),
 ii 29 (.ld true (some 5) (.t 28)),
 ii 30 (.callq [0] (.f N27_) [(.t 26),(.t 29)]),
 ii 31 (.mv (.t 0)),
 ii 32 (.nck (.t 31)),
 ii 33 (.fa 8 (.t 32)),
 ii 34 (.ldo 0 none (.t 33)),
 ii 35 (.mv (.t 4)),
 ii 36 (.ia 5 (.t 35) (.c (.lit (.int .i64 1)))),
 ii 37 (.ld true (some 5) (.t 36)),
 ii 38 (.call (.f N27_) [(.t 34),(.t 37)]),
 ii 39 (.call (.f N26_) [(.t 20),(.t 22),(.t 30),(.t 38)]),
 ii 2 (.mv (.t 39))]
def F14_r6:List AIns:=[ii 41 (.bin .eql (.t 17) (.c (.lit (.int .i64 13)))),
 ii 40 (.mv (.t 41))]
def F14_r7:List AIns:=[ii 42 (.mv (.t 0)),
 ii 43 (.mv (.t 0)),
 ii 44 (.nck (.t 43)),
 ii 45 (.fa 0 (.t 44)),
 ii 46 (.fa 1 (.t 45)),
 ii 47 (.ldo 0 none (.t 46)),
 ii 48 (.fa 1 (.t 3)),
 ii 49 (.ld false none (.t 48)),
 ii 50 (.ia 8 (.t 47) (.t 49)),
 ii 51 (.ld true (some 8) (.t 50)),
 ii 52 (.mv (.t 0)),
 ii 53 (.nck (.t 52)),
 ii 54 (.fa 8 (.t 53)),
 ii 55 (.ld true none (.t 54)),
 ii 56 (.mv (.t 4)),
 ii 57 (.callq [0] (.f N29_) [(.t 55),(.t 56)]),
 ii 58 (.call (.f N28_) [(.t 42),(.t 51),(.t 57)]),
 ii 2 (.mv (.t 58))]
def F14_r8:List AIns:=[ii 60 (.mv (.t 0)),
 ii 61 (.nck (.t 60)),
 ii 62 (.fa 8 (.t 61)),
 ii 63 (.ld true none (.t 62)),
 ii 64 (.mv (.t 4)),
 ii 65 (.ia 5 (.t 64) (.c (.lit (.int .i64 0)))),
 ii 66 (.ld true (some 5) (.t 65)),
 ii 67 (.call (.f N27_) [(.t 63),(.t 66)]),
 ii 68 (.tas 85 (.lit (.int .i64 0)) true (.t 67)),
 ii 59 (.mv (.t 68)),
 ii 69 (.ext (.t 59) 0),
 ii 70 (.ext (.t 59) 1),
 ii 5 (.mv (.t 69)),
 ii 6 (.mv (.t 70))]
def F14_r9:List AIns:=[ii 71 (.mv (.t 6)),
 ii 72 (.unot (.t 71))]
def F14_r10:List AIns:=[ii 2 (.mv (.c (.lit (.bool false))))]
def F14_r11:List AIns:=[ii 73 (.fa 0 (.t 3)),
 ii 74 (.ld false none (.t 73))]
def F14_r12:List AIns:=[ii 76 (.bin .eql (.t 74) (.c (.lit (.int .i64 10)))),
 ii 75 (.mv (.t 76))]
def F14_r13:List AIns:=[ii 78 (.mv (.t 0)),
 ii 79 (.nck (.t 78)),
 ii 80 (.fa 8 (.t 79)),
 ii 81 (.ld true none (.t 80)),
 ii 82 (.mv (.t 4)),
 ii 83 (.ia 5 (.t 82) (.c (.lit (.int .i64 1)))),
 ii 84 (.ld true (some 5) (.t 83)),
 ii 85 (.call (.f N27_) [(.t 81),(.t 84)]),
 ii 86 (.tas 85 (.lit (.int .i64 0)) true (.t 85)),
 ii 77 (.mv (.t 86)),
 ii 87 (.ext (.t 77) 0),
 ii 88 (.ext (.t 77) 1),
 ii 7 (.mv (.t 87)),
 ii 8 (.mv (.t 88))]
def F14_r14:List AIns:=[ii 89 (.fa 1 (.t 3)),
 ii 90 (.ld false none (.t 89)),
 ii 91 (.mv (.t 5)),
 ii 92 (.mv (.t 7)),
 ii 93 (.call (.f N30_) [(.t 90),(.t 91),(.t 92)]),
 ii 94 (.build [.lit (.int .i64 0),.lit (.int .i64 0),.lit (.int .i64 0),.slice .full 5 [],.slice .full 7 []] [(0,1,(.c (.lit (.int .i64 1)))),(1,1,(.t 93))]),
 ii 9 (.alloc true [.lit (.int .i64 0),.lit (.int .i64 0),.lit (.int .i64 0),.slice .full 5 [],.slice .full 7 []]),
 ⟨none,none,.st false 5 (.t 9) (.t 94)⟩]
def F14_r15:List AIns:=[ii 95 (.mv (.t 8)),
 ii 96 (.mv (.t 95)),
 ⟨some 97,(some (96,true)),.mv (.t 0)⟩,
 ⟨some 98,(some (96,true)),.ld false (some 5) (.t 9)⟩,
 ⟨some 99,(some (96,true)),.mv (.t 4)⟩,
 ⟨some 100,(some (96,true)),.ia 5 (.t 99) (.c (.lit (.int .i64 2)))⟩,
 ⟨some 101,(some (96,true)),.ld true (some 5) (.t 100)⟩,
 ⟨some 102,(some (96,true)),.bsl 5 [(.t 98),(.t 101)]⟩,
 ⟨some 103,(some (96,true)),.build [.lit (.int .i64 0),.lit (.int .i64 0),.lit (.int .i64 0),.slice .full 5 [],.slice .full 7 []] [(0,1,(.c (.lit (.int .i64 9)))),(3,1,(.t 102))]⟩,
 ⟨some 104,(some (96,true)),.mv (.t 0)⟩,
 ⟨some 105,(some (96,true)),.nck (.t 104)⟩,
 ⟨some 106,(some (96,true)),.fa 8 (.t 105)⟩,
 ⟨some 107,(some (96,true)),.ld true none (.t 106)⟩,
 ⟨some 108,(some (96,true)),.call (.f N31_) [(.t 97),(.t 103),(.t 107)]⟩,
 ii 109 (.pick (.t 96) (.t 108) (.c (.lit (.bool false)))),
 ii 2 (.mv (.t 109))]
def F14_r16:List AIns:=[ii 111 (.bin .eql (.t 74) (.c (.lit (.int .i64 11)))),
 ii 110 (.mv (.t 111))]
def F14_r17:List AIns:=[ii 112 (.mv (.t 5)),
 ii 113 (.bin .eql (.t 112) (.c (.lit (.int .i64 0))))]
def F14_r18:List AIns:=[ii 114 (.mv (.t 0)),
 ii 115 (.mv (.t 4)),
 ii 116 (.ia 5 (.t 115) (.c (.lit (.int .i64 1)))),
 ii 117 (.ld true (some 5) (.t 116)),
 ii 118 (.mv (.t 0)),
 ii 119 (.nck (.t 118)),
 ii 120 (.fa 8 (.t 119)),
 ii 121 (.ld true none (.t 120)),
 ii 122 (.call (.f N31_) [(.t 114),(.t 117),(.t 121)]),
 ii 2 (.mv (.t 122))]
def F14_r19:List AIns:=[ii 123 (.mv (.t 0)),
 ii 124 (.mv (.t 4)),
 ii 125 (.ia 5 (.t 124) (.c (.lit (.int .i64 2)))),
 ii 126 (.ld true (some 5) (.t 125)),
 ii 127 (.mv (.t 0)),
 ii 128 (.nck (.t 127)),
 ii 129 (.fa 8 (.t 128)),
 ii 130 (.ld true none (.t 129)),
 ii 131 (.call (.f N31_) [(.t 123),(.t 126),(.t 130)]),
 ii 2 (.mv (.t 131))]
def F14_r20:List AIns:=[ii 133 (.bin .eql (.t 74) (.c (.lit (.int .i64 12)))),
 ii 132 (.mv (.t 133))]
def F14_r21:List AIns:=[ii 134 (.mv (.t 0)),
 ii 135 (.mv (.t 0)),
 ii 136 (.nck (.t 135)),
 ii 137 (.fa 9 (.t 136)),
 ii 138 (.fa 2 (.t 137)),
 ii 139 (.ld true none (.t 138)),
 ii 140 (.mv (.t 5)),
 ii 141 (.bsl 1 [(.t 140)]),
 ii 142 (.app 1 8 (.t 139) (.t 141)),
 ii 143 (.nck (.t 134)),
 ii 144 (.fa 9 (.t 143)),
 ii 145 (.fa 2 (.t 144)),
 ⟨none,none,.st true 1 (.t 145) (.t 142)⟩]
def F14_r22:List AIns:=[ii 146 (.mv (.t 0)),
 ii 147 (.mv (.t 4)),
 ii 148 (.ia 5 (.t 147) (.c (.lit (.int .i64 1)))),
 ii 149 (.ld true (some 5) (.t 148)),
 ii 150 (.mv (.t 0)),
 ii 151 (.nck (.t 150)),
 ii 152 (.fa 8 (.t 151)),
 ii 153 (.ld true none (.t 152)),
 ii 154 (.call (.f N31_) [(.t 146),(.t 149),(.t 153)]),
 ii 2 (.mv (.t 154))]
def F14_r23:List AIns:=[ii 155 (.mv (.t 0)),
 ii 156 (.mv (.t 0)),
 ii 157 (.mv (.t 0)),
 ii 158 (.mv (.t 5)),
 ii 159 (.nck (.t 155)),
 ii 160 (.fa 9 (.t 159)),
 ii 161 (.fa 0 (.t 160)),
 ⟨none,none,.st true 1 (.t 161) (.c (.lit (.int .i64 0)))⟩,
 ii 162 (.nck (.t 156)),
 ii 163 (.fa 9 (.t 162)),
 ii 164 (.fa 1 (.t 163)),
 ⟨none,none,.st true 1 (.t 164) (.t 158)⟩,
 ii 165 (.nck (.t 157)),
 ii 166 (.fa 13 (.t 165)),
 ⟨none,none,.st true 1 (.t 166) (.c (.lit (.bool true)))⟩]
def F14_r24:List AIns:=[ii 167 (.mv (.t 0)),
 ii 168 (.mv (.t 0)),
 ii 169 (.mv (.t 5)),
 ii 170 (.build [.lit (.int .i64 0),.lit (.int .i64 0),.lit (.int .i64 0),.slice .full 5 [],.slice .full 7 []] [(0,1,(.c (.lit (.int .i64 1)))),(1,1,(.t 169))]),
 ii 171 (.bsl 5 [(.t 170)]),
 ii 172 (.build [.lit (.int .i64 0),.lit (.int .i64 0),.lit (.int .i64 0),.slice .full 5 [],.slice .full 7 []] [(0,1,(.c (.lit (.int .i64 14)))),(3,1,(.t 171))]),
 ii 173 (.nck (.t 167)),
 ii 174 (.fa 3 (.t 173)),
 ⟨none,none,.st true 5 (.t 174) (.t 172)⟩,
 ii 175 (.nck (.t 168)),
 ii 176 (.fa 8 (.t 175)),
 ⟨none,none,.st true 1 (.t 176) (.c (.lit (.pointer none)))⟩]
def F14_r25:List AIns:=[ii 2 (.mv (.c (.lit (.bool true))))]
def F14_:AFun:=⟨1,.seq (.reg F14_r0 [] [0] []) (.seq (.reg F14_r1 [] [0,3] [3]) (.seq (.reg F14_r2 [] [0,3,4] [3]) (.seq (.seq (.reg F14_r3 [] [0,3,4,17] [3]) (.block 0 (.seq (.reg F14_r4 [] [0,3,4,17,18] [3]) (.cond (.t 18) (.seq (.regd F14_r5 [] [2] [] [[],[],[1],[],[3],[4],[5],[],[7],[8],[6,9],[],[11],[12],[13],[],[15],[16],[14,17,10],[0,2,10,18,18],[19,19,0,1,2,3,4,5,6,7,8,9,10,11,12,13,14,15,16,17,18,19]]) (.ret)) (.seq (.reg F14_r6 [] [0,3,4,40] [3]) (.cond (.t 40) (.seq (.regd F14_r7 [] [2] [] [[],[],[1],[2],[3],[4],[],[6],[5,7],[8],[],[10],[11],[12],[],[13,14],[0,9,15,15],[16,16,0,1,2,3,4,5,6,7,8,9,10,11,12,13,14,15,16]]) (.ret)) (.skip))))))) (.seq (.reg F14_r8 [] [0,3,4,5,6] [3]) (.seq (.seq (.reg F14_r9 [] [0,3,4,5,72] [3]) (.cond (.t 72) (.seq (.reg F14_r10 [] [2] []) (.ret)) (.skip))) (.seq (.seq (.reg F14_r11 [] [0,3,4,5,74] [3]) (.block 1 (.seq (.reg F14_r12 [] [0,3,4,5,74,75] [3]) (.cond (.t 75) (.seq (.reg F14_r13 [] [0,3,4,5,7,8] [3]) (.seq (.reg F14_r14 [] [0,4,8,9] [9]) (.seq (.reg F14_r15 [] [2] []) (.ret)))) (.seq (.reg F14_r16 [] [0,4,5,74,110] []) (.cond (.t 110) (.seq (.seq (.reg F14_r17 [] [0,4,113] []) (.cond (.t 113) (.seq (.reg F14_r18 [] [2] []) (.ret)) (.skip))) (.seq (.reg F14_r19 [] [2] []) (.ret))) (.seq (.reg F14_r20 [] [0,4,5,132] []) (.cond (.t 132) (.seq (.reg F14_r21 [] [0,4] []) (.seq (.reg F14_r22 [] [2] []) (.ret))) (.skip))))))))) (.seq (.reg F14_r23 [] [0,5] []) (.seq (.reg F14_r24 [] [] []) (.seq (.reg F14_r25 [] [2] []) (.ret)))))))))),[.t 2]⟩
def F15_r0:List AIns:=[ii 4 (.mv (.c (.lit (.bool false))))]
def F15_r1:List AIns:=[ii 6 (.mv (.t 0)),
 ii 7 (.len false (.t 6)),
 ii 8 (.mv (.t 1)),
 ii 9 (.len false (.t 8)),
 ii 10 (.bin .neq (.t 7) (.t 9))]
def F15_r2:List AIns:=[ii 4 (.mv (.c (.lit (.bool false))))]
def F15_r3:List AIns:=[ii 11 (.mv (.t 0)),
 ii 12 (.len false (.t 11)),
 ii 13 (.mv (.c (.lit (.int .i64 0))))]
def F15_r4:List AIns:=[ii 14 (.bin .lss (.t 13) (.t 12))]
def F15_r5:List AIns:=[ii 15 (.mv (.t 13)),
 ii 5 (.mv (.t 15))]
def F15_r6:List AIns:=[ii 16 (.mv (.t 0)),
 ii 17 (.mv (.t 5)),
 ii 18 (.ia 1 (.t 16) (.t 17)),
 ii 19 (.ld true none (.t 18)),
 ii 20 (.mv (.t 1)),
 ii 21 (.mv (.t 5)),
 ii 22 (.ia 1 (.t 20) (.t 21)),
 ii 23 (.ld true none (.t 22)),
 ii 24 (.bin .neq (.t 19) (.t 23))]
def F15_r7:List AIns:=[ii 4 (.mv (.c (.lit (.bool false))))]
def F15_r8:List AIns:=[ii 25 (.bin .add (.t 13) (.c (.lit (.int .i64 1)))),
 ii 13 (.mv (.t 25))]
def F15_l1:AC:=.seq (.reg F15_r4 [] [0,1,12,13,14] []) (.seq (.cond (.t 14) (.skip) (.exit 0)) (.seq (.block 1 (.seq (.reg F15_r5 [] [0,1,5,12,13] []) (.seq (.reg F15_r6 [] [0,1,12,13,24] []) (.cond (.t 24) (.seq (.reg F15_r7 [] [4] []) (.ret)) (.skip))))) (.reg F15_r8 [] [0,1,12,13] [])))
def F15_r9:List AIns:=[ii 4 (.mv (.c (.lit (.bool true))))]
def F15_:AFun:=⟨2,.seq (.reg F15_r0 [] [0,1] []) (.seq (.seq (.reg F15_r1 [] [0,1,10] []) (.cond (.t 10) (.seq (.reg F15_r2 [] [4] []) (.ret)) (.skip))) (.seq (.seq (.reg F15_r3 [] [0,1,12,13] []) (.block 0 (.loop F15_l1))) (.seq (.reg F15_r9 [] [4] []) (.ret)))),[.t 4]⟩
def F16_r0:List AIns:=[ii 2 (.box true (.t 0)),
 ii 4 (.mv (.c (.lit (.int .i64 0))))]
def F16_r1:List AIns:=[ii 7 (.mv (.t 1)),
 ii 8 (.bin .sub (.t 7) (.c (.lit (.int .i64 1)))),
 ii 1 (.mv (.t 8))]
def F16_r2:List AIns:=[ii 5 (.mv (.c (.lit (.int .i64 0))))]
def F16_r3:List AIns:=[ii 9 (.mv (.t 5)),
 ii 10 (.fa 3 (.t 2)),
 ii 11 (.ld false none (.t 10)),
 ii 12 (.len false (.t 11)),
 ii 13 (.bin .lss (.t 9) (.t 12)),
 ii 14 (.mv (.t 13)),
 ⟨some 15,(some (14,true)),.mv (.t 1)⟩,
 ⟨some 16,(some (14,true)),.bin .gtr (.t 15) (.c (.lit (.int .i64 0)))⟩,
 ii 17 (.pick (.t 14) (.t 16) (.c (.lit (.bool false))))]
def F16_r5:List AIns:=[ii 20 (.fa 3 (.t 2)),
 ii 21 (.ld false none (.t 20)),
 ii 22 (.mv (.t 5)),
 ii 23 (.ia 5 (.t 21) (.t 22)),
 ii 24 (.ld true (some 5) (.t 23)),
 ii 25 (.mv (.t 1)),
 ii 26 (.call (.f N16_) [(.t 24),(.t 25)]),
 ii 1 (.mv (.t 26))]
def F16_r4:List AIns:=[ii 18 (.mv (.t 5)),
 ii 19 (.bin .add (.t 18) (.c (.lit (.int .i64 1)))),
 ii 5 (.mv (.t 19))]
def F16_l1:AC:=.seq (.seq (.reg F16_r3 [] [1,2,5,17] [2]) (.cond (.t 17) (.skip) (.exit 0))) (.seq (.block 1 (.reg F16_r5 [] [1,2,5] [2])) (.reg F16_r4 [] [1,2,5] [2]))
def F16_r6:List AIns:=[ii 6 (.mv (.c (.lit (.int .i64 0))))]
def F16_r7:List AIns:=[ii 27 (.mv (.t 6)),
 ii 28 (.fa 4 (.t 2)),
 ii 29 (.ld false none (.t 28)),
 ii 30 (.len false (.t 29)),
 ii 31 (.bin .lss (.t 27) (.t 30)),
 ii 32 (.mv (.t 31)),
 ⟨some 33,(some (32,true)),.mv (.t 1)⟩,
 ⟨some 34,(some (32,true)),.bin .gtr (.t 33) (.c (.lit (.int .i64 0)))⟩,
 ii 35 (.pick (.t 32) (.t 34) (.c (.lit (.bool false))))]
def F16_r9:List AIns:=[ii 38 (.fa 4 (.t 2)),
 ii 39 (.ld false none (.t 38)),
 ii 40 (.mv (.t 6)),
 ii 41 (.ia 7 (.t 39) (.t 40)),
 ii 42 (.fa 2 (.t 41)),
 ii 43 (.ld true (some 5) (.t 42)),
 ii 44 (.mv (.t 1)),
 ii 45 (.call (.f N16_) [(.t 43),(.t 44)]),
 ii 1 (.mv (.t 45))]
def F16_r8:List AIns:=[ii 36 (.mv (.t 6)),
 ii 37 (.bin .add (.t 36) (.c (.lit (.int .i64 1)))),
 ii 6 (.mv (.t 37))]
def F16_l2:AC:=.seq (.seq (.reg F16_r7 [] [1,2,6,35] [2]) (.cond (.t 35) (.skip) (.exit 2))) (.seq (.block 3 (.reg F16_r9 [] [1,2,6] [2])) (.reg F16_r8 [] [1,2,6] [2]))
def F16_r10:List AIns:=[ii 46 (.mv (.t 1)),
 ii 47 (.mmx true (.t 46) (.c (.lit (.int .i64 0)))),
 ii 4 (.mv (.t 47))]
def F16_:AFun:=⟨2,.seq (.reg F16_r0 [] [1,2] [2]) (.seq (.reg F16_r1 [] [1,2] [2]) (.seq (.seq (.reg F16_r2 [] [1,2,5] [2]) (.block 0 (.loop F16_l1))) (.seq (.seq (.reg F16_r6 [] [1,2,6] [2]) (.block 2 (.loop F16_l2))) (.seq (.reg F16_r10 [] [4] []) (.ret))))),[.t 4]⟩
def F17_r0:List AIns:=[ii 3 (.box true (.t 0)),
 ii 6 (.alloc true [.lit (.int .i64 0),.lit (.int .i64 0),.slice .full 1 [],.lit (.int .i64 0)]),
 ii 7 (.mv (.c (.lit (.int .i64 0))))]
def F17_r1:List AIns:=[ii 11 (.ld false (some 2) (.t 3)),
 ii 12 (.mv (.t 1)),
 ii 13 (.mv (.t 2)),
 ii 14 (.call (.f N19_) [(.t 11),(.t 12),(.t 13)]),
 ii 10 (.mv (.t 14)),
 ii 15 (.ext (.t 10) 0),
 ii 16 (.ext (.t 10) 1),
 ii 8 (.mv (.t 15)),
 ii 9 (.mv (.t 16))]
def F17_r2:List AIns:=[ii 17 (.mv (.t 9)),
 ii 18 (.bin .neq (.t 17) (.c (.lit (.int .i64 0))))]
def F17_r3:List AIns:=[ii 19 (.build [.lit (.int .i64 0),.lit (.int .i64 0),.slice .full 1 [],.lit (.int .i64 0)] []),
 ii 20 (.mv (.t 9)),
 ⟨none,none,.st false 4 (.t 6) (.t 19)⟩,
 ii 7 (.mv (.t 20))]
def F17_r4:List AIns:=[ii 21 (.mv (.t 8)),
 ii 22 (.call (.f N6_) [(.t 21)])]
def F17_l1:AC:=.seq (.seq (.reg F17_r4 [] [6,8,22] [6]) (.cond (.t 22) (.skip) (.exit 0))) (.block 1 (.skip))
def F17_r5:List AIns:=[ii 23 (.mv (.t 8)),
 ii 24 (.nck (.t 23)),
 ii 25 (.fa 9 (.t 24)),
 ii 26 (.ld true (some 4) (.t 25)),
 ⟨none,none,.st false 4 (.t 6) (.t 26)⟩,
 ii 7 (.mv (.c (.lit (.int .i64 0))))]
def F17_:AFun:=⟨3,.seq (.reg F17_r0 [] [1,2,3,6] [3,6]) (.seq (.reg F17_r1 [] [6,8,9] [6]) (.seq (.seq (.reg F17_r2 [] [6,8,9,18] [6]) (.cond (.t 18) (.seq (.reg F17_r3 [] [6,7] [6]) (.ret)) (.skip))) (.seq (.block 0 (.loop F17_l1)) (.seq (.reg F17_r5 [] [6,7] [6]) (.ret))))),[.cell (some 4) 6,.t 7]⟩
def F18_r0:List AIns:=[ii 0 (.alloc true [.slice .full 3 [],.slice .full 8 []])]
def F18_r1:List AIns:=[ii 4 (.build [.lit (.int .i64 0),.lit (.int .i64 0),.lit (.int .i64 0),.slice .full 5 [],.slice .full 7 []] [(0,1,(.c (.lit (.int .i64 0))))]),
 ii 5 (.build [.lit (.int .i64 0),.lit (.int .i64 0),.lit (.int .i64 0),.slice .full 5 [],.slice .full 7 []] [(0,1,(.c (.lit (.int .i64 1)))),(1,1,(.c (.lit (.int .i64 1))))]),
 ii 6 (.build [.lit (.int .i64 0),.lit (.int .i64 0),.lit (.int .i64 0),.slice .full 5 [],.slice .full 7 []] [(0,1,(.c (.lit (.int .i64 5))))]),
 ii 7 (.bsl 5 [(.t 4),(.t 5),(.t 6)]),
 ii 8 (.build [.lit (.int .i64 0),.lit (.int .i64 0),.lit (.int .i64 0),.slice .full 5 [],.slice .full 7 []] [(0,1,(.c (.lit (.int .i64 10)))),(3,1,(.t 7))]),
 ii 1 (.alloc true [.lit (.int .i64 0),.lit (.int .i64 0),.lit (.int .i64 0),.slice .full 5 [],.slice .full 7 []]),
 ⟨none,none,.st false 5 (.t 1) (.t 8)⟩]
def F18_r2:List AIns:=[ii 9 (.build [.lit (.int .i64 0),.lit (.int .i64 0),.lit (.int .i64 0),.slice .full 5 [],.slice .full 7 []] [(0,1,(.c (.lit (.int .i64 0)))),(1,1,(.c (.lit (.int .i64 1))))]),
 ii 10 (.bsl 5 [(.t 9)]),
 ii 11 (.build [.lit (.int .i64 0),.lit (.int .i64 0),.lit (.int .i64 0),.slice .full 5 [],.slice .full 7 []] [(0,1,(.c (.lit (.int .i64 14)))),(3,1,(.t 10))]),
 ii 2 (.alloc true [.lit (.int .i64 0),.lit (.int .i64 0),.lit (.int .i64 0),.slice .full 5 [],.slice .full 7 []]),
 ⟨none,none,.st false 5 (.t 2) (.t 11)⟩]
def F18_r3:List AIns:=[ii 12 (.ld false (some 5) (.t 1)),
 ii 13 (.bsl 5 [(.t 12)]),
 ii 14 (.build [.lit (.int .i64 0),.lit (.int .i64 0),.lit (.int .i64 0),.slice .full 5 [],.slice .full 7 []] [(0,1,(.c (.lit (.int .i64 3)))),(3,1,(.t 13))]),
 ii 15 (.ld false (some 5) (.t 2)),
 ii 16 (.bsl 5 [(.t 15)]),
 ii 17 (.build [.lit (.int .i64 0),.lit (.int .i64 0),.lit (.int .i64 0),.slice .full 5 [],.slice .full 7 []] [(0,1,(.c (.lit (.int .i64 7)))),(1,1,(.c (.lit (.int .i64 1)))),(3,1,(.t 16))]),
 ii 18 (.bsl 5 [(.t 14),(.t 17)]),
 ii 19 (.build [.lit (.int .i64 0),.lit (.int .i64 0),.lit (.int .i64 0),.slice .full 5 [],.slice .full 7 []] [(0,1,(.c (.lit (.int .i64 9)))),(3,1,(.t 18))]),
 ii 3 (.alloc true [.lit (.int .i64 0),.lit (.int .i64 0),.lit (.int .i64 0),.slice .full 5 [],.slice .full 7 []]),
 ⟨none,none,.st false 5 (.t 3) (.t 19)⟩]
def F18_r4:List AIns:=[ii 20 (.build [.lit (.int .i64 0),.lit (.bool false)] []),
 ii 21 (.bsl 2 [(.t 20)]),
 ii 22 (.bsl 1 [(.c (.lit (.int .i64 0)))]),
 ii 23 (.ld false (some 5) (.t 3)),
 ii 24 (.build [.lit (.string ⟨#[]⟩),.slice .full 2 [],.slice .full 1 [],.lit (.int .i64 0),.lit (.int .i64 0),.lit (.int .i64 0),.slice .full 5 [],.slice .full 7 []] [(0,1,(.c (.lit (.string ⟨#[109,97,105,110]⟩)))),(1,1,(.t 21)),(2,1,(.t 22)),(3,5,(.t 23))]),
 ii 25 (.bsl 8 [(.t 24)]),
 ii 26 (.build [.slice .full 3 [],.slice .full 8 []] [(1,1,(.t 25))]),
 ⟨none,none,.st false 2 (.t 0) (.t 26)⟩]
def F18_:AFun:=⟨0,.seq (.reg F18_r0 [] [0] [0]) (.seq (.reg F18_r1 [] [0,1] [0,1]) (.seq (.reg F18_r2 [] [0,1,2] [0,1,2]) (.seq (.reg F18_r3 [] [0,3] [0,3]) (.seq (.reg F18_r4 [] [0] [0]) (.ret))))),[.cell (some 2) 0]⟩
def F19_r0:List AIns:=[ii 3 (.box true (.t 0)),
 ii 6 (.mv (.c (.lit (.pointer none)))),
 ii 7 (.mv (.c (.lit (.int .i64 0))))]
def F19_r1:List AIns:=[ii 13 (.ld false (some 2) (.t 3)),
 ii 14 (.call (.f N32_) [(.t 13)]),
 ii 15 (.bin .neq (.t 14) (.c (.lit (.int .i64 0))))]
def F19_r2:List AIns:=[ii 6 (.mv (.c (.lit (.pointer none)))),
 ii 7 (.mv (.c (.lit (.int .i64 60))))]
def F19_r3:List AIns:=[ii 16 (.ld false (some 2) (.t 3)),
 ii 17 (.call (.f N33_) [(.t 16)]),
 ii 18 (.bin .neq (.t 17) (.c (.lit (.int .i64 0))))]
def F19_r4:List AIns:=[ii 6 (.mv (.c (.lit (.pointer none)))),
 ii 7 (.mv (.c (.lit (.int .i64 70))))]
def F19_r5:List AIns:=[ii 19 (.mv (.t 1)),
 ii 20 (.bin .lss (.t 19) (.c (.lit (.int .i64 0)))),
 ii 21 (.mv (.t 20)),
 ⟨some 22,(some (21,false)),.mv (.t 1)⟩,
 ⟨some 23,(some (21,false)),.bin .gtr (.t 22) (.c (.lit (.int .i64 20000)))⟩,
 ii 24 (.pick (.t 21) (.c (.lit (.bool true))) (.t 23)),
 ii 25 (.mv (.t 24)),
 ⟨some 26,(some (25,false)),.mv (.t 2)⟩,
 ⟨some 27,(some (25,false)),.len false (.t 26)⟩,
 ⟨some 28,(some (25,false)),.fa 1 (.t 3)⟩,
 ⟨some 29,(some (25,false)),.ld false none (.t 28)⟩,
 ⟨some 30,(some (25,false)),.ia 8 (.t 29) (.c (.lit (.int .i64 0)))⟩,
 ⟨some 31,(some (25,false)),.fa 1 (.t 30)⟩,
 ⟨some 32,(some (25,false)),.ld true none (.t 31)⟩,
 ⟨some 33,(some (25,false)),.len false (.t 32)⟩,
 ⟨some 34,(some (25,false)),.bin .neq (.t 27) (.t 33)⟩,
 ii 35 (.pick (.t 25) (.c (.lit (.bool true))) (.t 34))]
def F19_r6:List AIns:=[ii 6 (.mv (.c (.lit (.pointer none)))),
 ii 7 (.mv (.c (.lit (.int .i64 1))))]
def F19_r7:List AIns:=[ii 37 (.ld false (some 2) (.t 3)),
 ii 38 (.call (.f N34_) [(.t 37)]),
 ii 36 (.mv (.t 38)),
 ii 39 (.ext (.t 36) 0),
 ii 40 (.ext (.t 36) 1),
 ii 8 (.alloc true [.slice .full 3 [],.slice .full 8 []]),
 ⟨none,none,.st false 2 (.t 8) (.t 39)⟩,
 ii 9 (.mv (.t 40))]
def F19_r8:List AIns:=[ii 41 (.mv (.t 9)),
 ii 42 (.bin .neq (.t 41) (.c (.lit (.int .i64 0))))]
def F19_r9:List AIns:=[ii 43 (.mv (.t 9)),
 ii 6 (.mv (.c (.lit (.pointer none)))),
 ii 7 (.mv (.t 43))]
def F19_r10:List AIns:=[ii 44 (.ld false (some 2) (.t 8)),
 ii 45 (.mv (.t 1)),
 ii 46 (.fa 1 (.t 8)),
 ii 47 (.ld false none (.t 46)),
 ii 48 (.ia 8 (.t 47) (.c (.lit (.int .i64 0)))),
 ii 49 (.fa 3 (.t 48)),
 ii 50 (.ld true (some 5) (.t 49)),
 ii 51 (.build [.slice .full 3 [],.slice .full 8 [],.lit (.int .i64 0),.lit (.int .i64 0),.lit (.int .i64 0),.lit (.int .i64 0),.slice .full 5 [],.slice .full 7 [],.lit (.pointer none),.lit (.int .i64 0),.lit (.int .i64 0),.slice .full 1 [],.lit (.int .i64 0),.lit (.bool false)] [(0,2,(.t 44)),(2,1,(.t 45)),(3,5,(.t 50))]),
 ii 52 (.box false (.t 51)),
 ii 10 (.mv (.t 52))]
def F19_r11:List AIns:=[ii 53 (.mv (.t 2)),
 ii 54 (.len false (.t 53)),
 ii 55 (.mv (.c (.lit (.int .i64 0))))]
def F19_r12:List AIns:=[ii 56 (.bin .lss (.t 55) (.t 54))]
def F19_r13:List AIns:=[ii 57 (.mv (.t 55)),
 ii 58 (.ia 1 (.t 53) (.t 55)),
 ii 59 (.ld true none (.t 58)),
 ii 11 (.mv (.t 57)),
 ii 12 (.mv (.t 59))]
def F19_r14:List AIns:=[ii 60 (.mv (.t 10)),
 ii 61 (.mv (.t 10)),
 ii 62 (.nck (.t 61)),
 ii 63 (.fa 8 (.t 62)),
 ii 64 (.ld true none (.t 63)),
 ii 65 (.fa 1 (.t 8)),
 ii 66 (.ld false none (.t 65)),
 ii 67 (.ia 8 (.t 66) (.c (.lit (.int .i64 0)))),
 ii 68 (.fa 2 (.t 67)),
 ii 69 (.ld true none (.t 68)),
 ii 70 (.mv (.t 11)),
 ii 71 (.ia 1 (.t 69) (.t 70)),
 ii 72 (.ld true none (.t 71)),
 ii 73 (.mv (.t 12)),
 ii 74 (.wop (.mki 85) [(.t 73)]),
 ii 75 (.call (.f N35_) [(.t 64),(.t 72),(.c (.lit (.bool false))),(.t 74)]),
 ii 76 (.nck (.t 60)),
 ii 77 (.fa 8 (.t 76)),
 ⟨none,none,.st true 1 (.t 77) (.t 75)⟩]
def F19_r15:List AIns:=[ii 78 (.bin .add (.t 55) (.c (.lit (.int .i64 1)))),
 ii 55 (.mv (.t 78))]
def F19_l1:AC:=.seq (.reg F19_r12 [] [8,10,53,54,55,56] [8]) (.seq (.cond (.t 56) (.skip) (.exit 0)) (.seq (.block 1 (.seq (.reg F19_r13 [] [8,10,11,12,53,54,55] [8]) (.reg F19_r14 [] [8,10,53,54,55] [8]))) (.reg F19_r15 [] [8,10,53,54,55] [8])))
def F19_r16:List AIns:=[ii 79 (.mv (.t 10)),
 ii 6 (.mv (.t 79)),
 ii 7 (.mv (.c (.lit (.int .i64 0))))]
def F19_:AFun:=⟨3,.seq (.reg F19_r0 [] [1,2,3] [3]) (.seq (.seq (.reg F19_r1 [] [1,2,3,15] [3]) (.cond (.t 15) (.seq (.reg F19_r2 [] [6,7] []) (.ret)) (.skip))) (.seq (.seq (.reg F19_r3 [] [1,2,3,18] [3]) (.cond (.t 18) (.seq (.reg F19_r4 [] [6,7] []) (.ret)) (.skip))) (.seq (.seq (.reg F19_r5 [] [1,2,3,35] [3]) (.cond (.t 35) (.seq (.reg F19_r6 [] [6,7] []) (.ret)) (.skip))) (.seq (.reg F19_r7 [] [1,2,8,9] [8]) (.seq (.seq (.reg F19_r8 [] [1,2,8,9,42] [8]) (.cond (.t 42) (.seq (.reg F19_r9 [] [6,7] []) (.ret)) (.skip))) (.seq (.reg F19_r10 [] [2,8,10] [8]) (.seq (.seq (.reg F19_r11 [] [8,10,53,54,55] [8]) (.block 0 (.loop F19_l1))) (.seq (.reg F19_r16 [] [6,7] []) (.ret))))))))),[.t 6,.t 7]⟩
def F20_r0:List AIns:=[ii 6 (.mv (.c (.lit (.int .i64 0)))),
 ii 7 (.mv (.c (.lit (.bool false))))]
def F20_r1:List AIns:=[ii 8 (.mv (.t 0)),
 ii 9 (.peq true (.t 8) (.c (.lit (.pointer none))))]
def F20_r3:List AIns:=[ii 14 (.mv (.t 0)),
 ii 15 (.nck (.t 14)),
 ii 16 (.fa 0 (.t 15)),
 ii 17 (.ld true none (.t 16)),
 ii 18 (.mv (.t 1)),
 ii 19 (.bin .eql (.t 17) (.t 18)),
 ii 20 (.mv (.t 19)),
 ⟨some 21,(some (20,true)),.mv (.t 0)⟩,
 ⟨some 22,(some (20,true)),.nck (.t 21)⟩,
 ⟨some 23,(some (20,true)),.fa 2 (.t 22)⟩,
 ⟨some 24,(some (20,true)),.ld true none (.t 23)⟩,
 ⟨some 25,(some (20,true)),.mv (.t 2)⟩,
 ⟨some 26,(some (20,true)),.beq false (.t 24) (.t 25)⟩,
 ii 27 (.pick (.t 20) (.t 26) (.c (.lit (.bool false))))]
def F20_r4:List AIns:=[ii 28 (.mv (.t 0)),
 ii 29 (.nck (.t 28)),
 ii 30 (.fa 1 (.t 29)),
 ii 31 (.ld true none (.t 30)),
 ii 6 (.mv (.t 31)),
 ii 7 (.mv (.c (.lit (.bool true))))]
def F20_r2:List AIns:=[ii 10 (.mv (.t 0)),
 ii 11 (.nck (.t 10)),
 ii 12 (.fa 3 (.t 11)),
 ii 13 (.ld true none (.t 12)),
 ii 0 (.mv (.t 13))]
def F20_l1:AC:=.seq (.seq (.reg F20_r1 [] [0,1,2,9] []) (.cond (.t 9) (.skip) (.exit 0))) (.seq (.block 1 (.seq (.reg F20_r3 [] [0,1,2,27] []) (.cond (.t 27) (.seq (.reg F20_r4 [] [6,7] []) (.ret)) (.skip)))) (.reg F20_r2 [] [0,1,2] []))
def F20_r5:List AIns:=[ii 6 (.mv (.c (.lit (.int .i64 0)))),
 ii 7 (.mv (.c (.lit (.bool false))))]
def F20_:AFun:=⟨3,.seq (.reg F20_r0 [] [0,1,2] []) (.seq (.block 0 (.loop F20_l1)) (.seq (.reg F20_r5 [] [6,7] []) (.ret))),[.t 6,.t 7]⟩
def F21_r0:List AIns:=[ii 1 (.box false (.t 0)),
 ii 2 (.mv (.c (.lit .nilFunc)))]
def F21_r1:List AIns:=[ii 3 (.ld true none (.t 1)),
 ii 4 (.nck (.t 3)),
 ii 5 (.fa 0 (.t 4)),
 ii 6 (.ld true none (.t 5)),
 ii 7 (.bin .add (.t 6) (.c (.lit (.int .i64 1)))),
 ii 8 (.nck (.t 3)),
 ii 9 (.fa 0 (.t 8)),
 ⟨none,none,.st true 1 (.t 9) (.t 7)⟩]
def F21_r2:List AIns:=[ii 10 (.ld true none (.t 1)),
 ii 11 (.nck (.t 10)),
 ii 12 (.fa 1 (.t 11)),
 ii 13 (.ld true none (.t 12)),
 ii 14 (.bin .add (.t 13) (.c (.lit (.int .i64 1)))),
 ii 15 (.nck (.t 10)),
 ii 16 (.fa 1 (.t 15)),
 ⟨none,none,.st true 1 (.t 16) (.t 14)⟩]
def F21_r3:List AIns:=[ii 17 (.ld true none (.t 1)),
 ii 18 (.nck (.t 17)),
 ii 19 (.fa 0 (.t 18)),
 ii 20 (.ld true none (.t 19)),
 ii 21 (.bin .gtr (.t 20) (.c (.lit (.int .i64 30000)))),
 ii 22 (.mv (.t 21)),
 ⟨some 23,(some (22,false)),.ld true none (.t 1)⟩,
 ⟨some 24,(some (22,false)),.nck (.t 23)⟩,
 ⟨some 25,(some (22,false)),.fa 1 (.t 24)⟩,
 ⟨some 26,(some (22,false)),.ld true none (.t 25)⟩,
 ⟨some 27,(some (22,false)),.bin .gtr (.t 26) (.c (.lit (.int .i64 4000)))⟩,
 ii 28 (.pick (.t 22) (.c (.lit (.bool true))) (.t 27))]
def F21_r4:List AIns:=[ii 29 (.build [] []),
 ii 30 (.wop (.mki 48) [(.t 29)]),
 ⟨none,none,.wop .stop []⟩]
def F21_r5:List AIns:=[ii 31 (.mkf N36_ [] [(.t 1)]),
 ii 2 (.mv (.t 31))]
def F21_:AFun:=⟨1,.seq (.reg F21_r0 [] [1] []) (.seq (.reg F21_r1 [] [1] []) (.seq (.reg F21_r2 [] [1] []) (.seq (.seq (.reg F21_r3 [] [1,28] []) (.cond (.t 28) (.reg F21_r4 [] [1] []) (.skip))) (.seq (.reg F21_r5 [] [2] []) (.ret))))),[.t 2]⟩
def F22_r0:List AIns:=[ii 6 (.mv (.c (.lit .nilIface))),
 ii 7 (.mv (.c (.lit (.bool false))))]
def F22_r1:List AIns:=[ii 10 (.mv (.t 0)),
 ii 11 (.peq true (.t 10) (.c (.lit (.pointer none))))]
def F22_r3:List AIns:=[ii 17 (.mv (.t 0)),
 ii 18 (.nck (.t 17)),
 ii 19 (.fa 0 (.t 18)),
 ii 20 (.ld true none (.t 19)),
 ii 21 (.mv (.t 1)),
 ii 22 (.mv (.t 2)),
 ii 23 (.inv [(115,N146_),(116,N147_)] (.t 20) [(.t 21),(.t 22)]),
 ii 16 (.mv (.t 23)),
 ii 24 (.ext (.t 16) 0),
 ii 25 (.ext (.t 16) 1),
 ii 8 (.mv (.t 24)),
 ii 9 (.mv (.t 25))]
def F22_r4:List AIns:=[ii 26 (.mv (.t 9))]
def F22_r5:List AIns:=[ii 27 (.mv (.t 8)),
 ii 6 (.mv (.t 27)),
 ii 7 (.mv (.c (.lit (.bool true))))]
def F22_r2:List AIns:=[ii 12 (.mv (.t 0)),
 ii 13 (.nck (.t 12)),
 ii 14 (.fa 1 (.t 13)),
 ii 15 (.ld true none (.t 14)),
 ii 0 (.mv (.t 15))]
def F22_l1:AC:=.seq (.seq (.reg F22_r1 [] [0,1,2,11] []) (.cond (.t 11) (.skip) (.exit 0))) (.seq (.block 1 (.seq (.reg F22_r3 [] [0,1,2,8,9] []) (.seq (.reg F22_r4 [] [0,1,2,8,26] []) (.cond (.t 26) (.seq (.reg F22_r5 [] [6,7] []) (.ret)) (.skip))))) (.reg F22_r2 [] [0,1,2] []))
def F22_r6:List AIns:=[ii 6 (.mv (.c (.lit .nilIface))),
 ii 7 (.mv (.c (.lit (.bool false))))]
def F22_:AFun:=⟨3,.seq (.reg F22_r0 [] [0,1,2] []) (.seq (.block 0 (.loop F22_l1)) (.seq (.reg F22_r6 [] [6,7] []) (.ret))),[.t 6,.t 7]⟩
def F23_r0:List AIns:=[ii 4 (.alloc true [.lit (.int .i64 0),.lit (.int .i64 0),.lit (.int .i64 0),.slice .full 5 [],.slice .full 7 []])]
def F23_r1:List AIns:=[ii 10 (.mv (.t 1))]
def F23_r2:List AIns:=[ii 11 (.tas 100 (.agg [.lit (.int .i64 0),.lit (.int .i64 0),.lit (.int .i64 0),.slice .full 5 [],.slice .full 7 [],.lit (.pointer none)]) true (.t 10)),
 ii 12 (.ext (.t 11) 1),
 ii 13 (.ext (.t 11) 0)]
def F23_r3:List AIns:=[ii 5 (.alloc true [.lit (.int .i64 0),.lit (.int .i64 0),.lit (.int .i64 0),.slice .full 5 [],.slice .full 7 [],.lit (.pointer none)]),
 ⟨none,none,.st false 6 (.t 5) (.t 13)⟩]
def F23_r4:List AIns:=[ii 14 (.mv (.t 0)),
 ii 15 (.fa 0 (.t 5)),
 ii 16 (.ld false (some 5) (.t 15)),
 ii 17 (.fa 5 (.t 5)),
 ii 18 (.ld false none (.t 17)),
 ii 19 (.call (.f N13_) [(.t 14),(.t 16),(.t 18),(.c (.lit (.pointer none)))]),
 ⟨none,none,.st false 5 (.t 4) (.t 19)⟩]
def F23_r5:List AIns:=[ii 20 (.tas 102 (.agg [.lit (.int .i64 0),.lit (.int .i64 0),.lit (.int .i64 0),.slice .full 5 [],.slice .full 7 [],.slice .full 1 []]) true (.t 10)),
 ii 21 (.ext (.t 20) 1),
 ii 22 (.ext (.t 20) 0)]
def F23_r6:List AIns:=[ii 6 (.alloc true [.lit (.int .i64 0),.lit (.int .i64 0),.lit (.int .i64 0),.slice .full 5 [],.slice .full 7 [],.slice .full 1 []]),
 ⟨none,none,.st false 6 (.t 6) (.t 22)⟩]
def F23_r7:List AIns:=[ii 23 (.mv (.t 0)),
 ii 24 (.call (.f N21_) [(.t 23)]),
 ⟨none,none,.dfr (.t 24) []⟩]
def F23_r8:List AIns:=[ii 25 (.fa 0 (.t 6)),
 ii 26 (.ld false (some 5) (.t 25)),
 ii 7 (.alloc true [.lit (.int .i64 0),.lit (.int .i64 0),.lit (.int .i64 0),.slice .full 5 [],.slice .full 7 []]),
 ⟨none,none,.st false 5 (.t 7) (.t 26)⟩]
def F23_r9:List AIns:=[ii 27 (.fa 5 (.t 6)),
 ii 28 (.ld false none (.t 27)),
 ii 29 (.len false (.t 28)),
 ii 30 (.mv (.c (.lit (.int .i64 0))))]
def F23_r10:List AIns:=[ii 31 (.bin .lss (.t 30) (.t 29))]
def F23_r11:List AIns:=[ii 32 (.ia 1 (.t 28) (.t 30)),
 ii 33 (.ld true none (.t 32)),
 ii 9 (.mv (.t 33))]
def F23_r12:List AIns:=[ii 34 (.fa 3 (.t 7)),
 ii 35 (.ld false none (.t 34)),
 ii 36 (.mv (.t 0)),
 ii 37 (.mv (.t 9)),
 ii 38 (.call (.f N23_) [(.t 36),(.t 37)]),
 ii 39 (.bsl 5 [(.t 38)]),
 ii 40 (.wop (.appm 5 72) [(.t 35),(.t 39)]),
 ii 41 (.fa 3 (.t 7)),
 ⟨none,none,.st false 1 (.t 41) (.t 40)⟩]
def F23_r13:List AIns:=[ii 42 (.bin .add (.t 30) (.c (.lit (.int .i64 1)))),
 ii 30 (.mv (.t 42))]
def F23_l1:AC:=.seq (.reg F23_r10 [] [0,4,7,28,29,30,31] [4,7]) (.seq (.cond (.t 31) (.skip) (.exit 1)) (.seq (.block 2 (.seq (.reg F23_r11 [] [0,4,7,9,28,29,30] [4,7]) (.reg F23_r12 [] [0,4,7,28,29,30] [4,7]))) (.reg F23_r13 [] [0,4,7,28,29,30] [4,7])))
def F23_r14:List AIns:=[ii 43 (.ld false (some 5) (.t 7)),
 ⟨none,none,.st false 5 (.t 4) (.t 43)⟩]
def F23_r15:List AIns:=[ii 44 (.mv (.t 0)),
 ii 45 (.call (.f N21_) [(.t 44)]),
 ⟨none,none,.dfr (.t 45) []⟩]
def F23_r16:List AIns:=[ii 46 (.mv (.t 1)),
 ii 47 (.inv [(60,N13_),(85,N143_),(100,N144_),(102,N145_)] (.t 46) []),
 ⟨none,none,.st false 5 (.t 4) (.t 47)⟩]
def F23_:AFun:=⟨2,.seq (.reg F23_r0 [] [0,1,4] [4]) (.seq (.seq (.reg F23_r1 [] [0,1,4,10] [4]) (.block 0 (.seq (.reg F23_r2 [] [0,1,4,10,12,13] [4]) (.cond (.t 12) (.seq (.reg F23_r3 [] [0,4,5] [4,5]) (.seq (.reg F23_r4 [] [4] [4]) (.ret))) (.seq (.reg F23_r5 [] [0,1,4,21,22] [4]) (.cond (.t 21) (.seq (.reg F23_r6 [] [0,4,6] [4,6]) (.seq (.reg F23_r7 [] [0,4,6] [4,6]) (.seq (.reg F23_r8 [] [0,4,6,7] [4,6,7]) (.seq (.seq (.reg F23_r9 [] [0,4,7,28,29,30] [4,7]) (.block 1 (.loop F23_l1))) (.seq (.reg F23_r14 [] [4] [4]) (.ret)))))) (.skip))))))) (.seq (.reg F23_r15 [] [1,4] [4]) (.seq (.reg F23_r16 [] [4] [4]) (.ret)))),[.cell (some 5) 4]⟩
def F24_r0:List AIns:=[ii 1 (.box true (.t 0)),
 ii 2 (.alloc true [.lit (.int .i64 0),.lit (.int .i64 0),.lit (.int .i64 0),.slice .full 5 [],.slice .full 7 []])]
def F24_r1:List AIns:=[ii 3 (.fa 0 (.t 1)),
 ii 4 (.ld false none (.t 3)),
 ii 5 (.fa 1 (.t 1)),
 ii 6 (.ld false none (.t 5)),
 ii 7 (.fa 2 (.t 1)),
 ii 8 (.ld false none (.t 7)),
 ii 9 (.build [.lit (.int .i64 0),.lit (.int .i64 0),.lit (.int .i64 0),.slice .full 5 [],.slice .full 7 []] [(0,1,(.t 4)),(1,1,(.t 6)),(2,1,(.t 8))]),
 ⟨none,none,.st false 5 (.t 2) (.t 9)⟩]
def F24_:AFun:=⟨1,.seq (.reg F24_r0 [] [1,2] [1,2]) (.seq (.reg F24_r1 [] [2] [2]) (.ret)),[.cell (some 5) 2]⟩
def F25_r0:List AIns:=[ii 6 (.mv (.c (.lit (.pointer none))))]
def F25_r1:List AIns:=[ii 7 (.mv (.t 1)),
 ii 8 (.mv (.t 0)),
 ii 9 (.call (.f N37_) [(.t 8)]),
 ii 10 (.mv (.t 2)),
 ii 11 (.mv (.t 0)),
 ii 12 (.build [.lit (.int .i64 0),.lit (.int .i64 0),.lit (.bool false),.lit (.pointer none)] [(0,1,(.t 7)),(1,1,(.t 9)),(2,1,(.t 10)),(3,1,(.t 11))]),
 ii 13 (.box false (.t 12)),
 ii 6 (.mv (.t 13))]
def F25_:AFun:=⟨3,.seq (.reg F25_r0 [] [0,1,2] []) (.seq (.reg F25_r1 [] [6] []) (.ret)),[.t 6]⟩
def F26_r0:List AIns:=[ii 8 (.mv (.c (.lit (.bool false))))]
def F26_r1:List AIns:=[ii 18 (.mv (.t 0)),
 ii 19 (.nck (.t 18)),
 ii 20 (.fa 0 (.t 19)),
 ii 21 (.fa 0 (.t 20)),
 ii 22 (.ld true none (.t 21)),
 ii 23 (.mv (.t 1)),
 ii 24 (.call (.f N38_) [(.t 22),(.t 23)]),
 ii 9 (.mv (.t 24))]
def F26_r2:List AIns:=[ii 26 (.mv (.t 2)),
 ii 27 (.call (.f N39_) [(.t 26),(.c (.lit (.int .i64 3)))]),
 ii 25 (.mv (.t 27)),
 ii 28 (.ext (.t 25) 0),
 ii 29 (.ext (.t 25) 1),
 ii 10 (.alloc true [.lit (.int .i64 0),.lit (.int .i64 0),.lit (.int .i64 0),.slice .full 5 [],.slice .full 7 [],.lit (.pointer none)]),
 ⟨none,none,.st false 6 (.t 10) (.t 28)⟩,
 ii 11 (.mv (.t 29))]
def F26_r3:List AIns:=[ii 31 (.mv (.t 3)),
 ii 32 (.call (.f N39_) [(.t 31),(.c (.lit (.int .i64 7)))]),
 ii 30 (.mv (.t 32)),
 ii 33 (.ext (.t 30) 0),
 ii 34 (.ext (.t 30) 1),
 ii 12 (.alloc true [.lit (.int .i64 0),.lit (.int .i64 0),.lit (.int .i64 0),.slice .full 5 [],.slice .full 7 [],.lit (.pointer none)]),
 ⟨none,none,.st false 6 (.t 12) (.t 33)⟩,
 ii 13 (.mv (.t 34))]
def F26_r4:List AIns:=[ii 36 (.mv (.t 11)),
 ii 37 (.mv (.t 36)),
 ⟨some 38,(some (37,true)),.mv (.t 9)⟩,
 ⟨some 39,(some (37,true)),.mv (.t 38)⟩,
 ⟨some 40,(some (39,false)),.mv (.t 13)⟩,
 ⟨some 41,(some (39,false)),.unot (.t 40)⟩,
 ⟨some 42,(some (37,true)),.pick (.t 39) (.c (.lit (.bool true))) (.t 41)⟩,
 ii 43 (.pick (.t 37) (.t 42) (.c (.lit (.bool false)))),
 ii 35 (.mv (.t 43))]
def F26_r5:List AIns:=[ii 44 (.mv (.t 0)),
 ii 45 (.fa 0 (.t 10)),
 ii 46 (.fa 3 (.t 45)),
 ii 47 (.ld false none (.t 46)),
 ii 48 (.ia 5 (.t 47) (.c (.lit (.int .i64 0)))),
 ii 49 (.ld true (some 5) (.t 48)),
 ii 50 (.fa 5 (.t 10)),
 ii 51 (.ld false none (.t 50)),
 ii 52 (.fa 0 (.t 10)),
 ii 53 (.fa 1 (.t 52)),
 ii 54 (.ld false none (.t 53)),
 ii 55 (.mv (.t 3)),
 ii 56 (.call (.f N35_) [(.t 51),(.t 54),(.c (.lit (.bool true))),(.t 55)]),
 ii 57 (.call (.f N31_) [(.t 44),(.t 49),(.t 56)]),
 ii 8 (.mv (.t 57))]
def F26_r6:List AIns:=[ii 59 (.mv (.t 13)),
 ii 58 (.mv (.t 59))]
def F26_r7:List AIns:=[ii 60 (.mv (.t 0)),
 ii 61 (.fa 0 (.t 12)),
 ii 62 (.fa 3 (.t 61)),
 ii 63 (.ld false none (.t 62)),
 ii 64 (.ia 5 (.t 63) (.c (.lit (.int .i64 0)))),
 ii 65 (.ld true (some 5) (.t 64)),
 ii 66 (.fa 5 (.t 12)),
 ii 67 (.ld false none (.t 66)),
 ii 68 (.fa 0 (.t 12)),
 ii 69 (.fa 1 (.t 68)),
 ii 70 (.ld false none (.t 69)),
 ii 71 (.mv (.t 2)),
 ii 72 (.call (.f N35_) [(.t 67),(.t 70),(.c (.lit (.bool false))),(.t 71)]),
 ii 73 (.call (.f N31_) [(.t 60),(.t 65),(.t 72)]),
 ii 8 (.mv (.t 73))]
def F26_r8:List AIns:=[ii 75 (.mv (.t 3)),
 ii 76 (.call (.f N39_) [(.t 75),(.c (.lit (.int .i64 8)))]),
 ii 74 (.mv (.t 76)),
 ii 77 (.ext (.t 74) 0),
 ii 78 (.ext (.t 74) 1),
 ii 14 (.alloc true [.lit (.int .i64 0),.lit (.int .i64 0),.lit (.int .i64 0),.slice .full 5 [],.slice .full 7 [],.lit (.pointer none)]),
 ⟨none,none,.st false 6 (.t 14) (.t 77)⟩,
 ii 15 (.mv (.t 78))]
def F26_r9:List AIns:=[ii 79 (.mv (.t 15))]
def F26_r10:List AIns:=[ii 80 (.mv (.t 0)),
 ii 81 (.ld false (some 6) (.t 14)),
 ii 82 (.mv (.t 2)),
 ii 83 (.call (.f N40_) [(.t 80),(.t 81),(.t 82)]),
 ii 8 (.mv (.t 83))]
def F26_r11:List AIns:=[ii 85 (.mv (.t 2)),
 ii 86 (.call (.f N39_) [(.t 85),(.c (.lit (.int .i64 4)))]),
 ii 84 (.mv (.t 86)),
 ii 87 (.ext (.t 84) 0),
 ii 88 (.ext (.t 84) 1),
 ii 16 (.alloc true [.lit (.int .i64 0),.lit (.int .i64 0),.lit (.int .i64 0),.slice .full 5 [],.slice .full 7 [],.lit (.pointer none)]),
 ⟨none,none,.st false 6 (.t 16) (.t 87)⟩,
 ii 17 (.mv (.t 88))]
def F26_r12:List AIns:=[ii 89 (.mv (.t 17))]
def F26_r13:List AIns:=[ii 90 (.mv (.t 0)),
 ii 91 (.ld false (some 6) (.t 16)),
 ii 92 (.mv (.t 3)),
 ii 93 (.call (.f N40_) [(.t 90),(.t 91),(.t 92)]),
 ii 8 (.mv (.t 93))]
def F26_r14:List AIns:=[ii 8 (.mv (.c (.lit (.bool false))))]
def F26_:AFun:=⟨4,.seq (.reg F26_r0 [] [0,1,2,3] []) (.seq (.reg F26_r1 [] [0,2,3,9] []) (.seq (.reg F26_r2 [] [0,2,3,9,10,11] [10]) (.seq (.reg F26_r3 [] [0,2,3,9,10,11,12,13] [10,12]) (.seq (.block 0 (.seq (.reg F26_r4 [] [0,2,3,10,12,13,35] [10,12]) (.cond (.t 35) (.seq (.regd F26_r5 [] [8] [] [[],[],[1],[2],[3],[4],[],[6],[],[8],[9],[],[7,10,11],[0,5,12,12],[13,13,0,1,2,3,4,5,6,7,8,9,10,11,12,13]]) (.ret)) (.seq (.reg F26_r6 [] [0,2,3,12,58] [12]) (.cond (.t 58) (.seq (.regd F26_r7 [] [8] [] [[],[],[1],[2],[3],[4],[],[6],[],[8],[9],[],[7,10,11],[0,5,12,12],[13,13,0,1,2,3,4,5,6,7,8,9,10,11,12,13]]) (.ret)) (.skip)))))) (.seq (.seq (.reg F26_r8 [] [0,2,3,14,15] [14]) (.seq (.reg F26_r9 [] [0,2,3,14,79] [14]) (.cond (.t 79) (.seq (.reg F26_r10 [] [8] []) (.ret)) (.skip)))) (.seq (.seq (.reg F26_r11 [] [0,3,16,17] [16]) (.seq (.reg F26_r12 [] [0,3,16,89] [16]) (.cond (.t 89) (.seq (.reg F26_r13 [] [8] []) (.ret)) (.skip)))) (.seq (.reg F26_r14 [] [8] []) (.ret)))))))),[.t 8]⟩
def F27_r0:List AIns:=[ii 3 (.box true (.t 1)),
 ii 4 (.mv (.c (.lit .nilIface)))]
def F27_r1:List AIns:=[ii 7 (.fa 0 (.t 3)),
 ii 8 (.ld false none (.t 7))]
def F27_r2:List AIns:=[ii 10 (.bin .eql (.t 8) (.c (.lit (.int .i64 0)))),
 ii 9 (.mv (.t 10))]
def F27_r3:List AIns:=[ii 11 (.bin .eql (.t 8) (.c (.lit (.int .i64 5)))),
 ii 9 (.mv (.t 11))]
def F27_r4:List AIns:=[ii 13 (.mv (.t 0)),
 ii 14 (.fa 1 (.t 3)),
 ii 15 (.ld false none (.t 14)),
 ii 16 (.fa 0 (.t 3)),
 ii 17 (.ld false none (.t 16)),
 ii 18 (.bin .eql (.t 17) (.c (.lit (.int .i64 5)))),
 ii 19 (.call (.f N22_) [(.t 13),(.t 15),(.t 18)]),
 ii 12 (.mv (.t 19)),
 ii 20 (.ext (.t 12) 0),
 ii 21 (.ext (.t 12) 1),
 ii 5 (.mv (.t 20)),
 ii 6 (.mv (.t 21))]
def F27_r5:List AIns:=[ii 22 (.mv (.t 5)),
 ii 4 (.mv (.t 22))]
def F27_r6:List AIns:=[ii 24 (.bin .eql (.t 8) (.c (.lit (.int .i64 1)))),
 ii 23 (.mv (.t 24))]
def F27_r7:List AIns:=[ii 25 (.fa 1 (.t 3)),
 ii 26 (.ld false none (.t 25)),
 ii 27 (.wop (.mki 85) [(.t 26)]),
 ii 4 (.mv (.t 27))]
def F27_r8:List AIns:=[ii 29 (.bin .eql (.t 8) (.c (.lit (.int .i64 2)))),
 ii 28 (.mv (.t 29))]
def F27_r9:List AIns:=[ii 30 (.bin .eql (.t 8) (.c (.lit (.int .i64 6)))),
 ii 28 (.mv (.t 30))]
def F27_r10:List AIns:=[ii 31 (.ld false (some 5) (.t 3)),
 ii 32 (.call (.f N24_) [(.t 31)]),
 ii 33 (.mv (.t 0)),
 ii 34 (.fa 3 (.t 3)),
 ii 35 (.ld false none (.t 34)),
 ii 36 (.call (.f N29_) [(.t 33),(.t 35)]),
 ii 37 (.build [.lit (.int .i64 0),.lit (.int .i64 0),.lit (.int .i64 0),.slice .full 5 [],.slice .full 7 [],.slice .full 1 []] [(0,5,(.t 32)),(5,1,(.t 36))]),
 ii 38 (.wop (.mki 102) [(.t 37)]),
 ii 4 (.mv (.t 38))]
def F27_r11:List AIns:=[ii 39 (.ld false (some 5) (.t 3)),
 ii 40 (.mv (.t 0)),
 ii 41 (.build [.lit (.int .i64 0),.lit (.int .i64 0),.lit (.int .i64 0),.slice .full 5 [],.slice .full 7 [],.lit (.pointer none)] [(0,5,(.t 39)),(5,1,(.t 40))]),
 ii 42 (.wop (.mki 100) [(.t 41)]),
 ii 4 (.mv (.t 42))]
def F27_:AFun:=⟨2,.seq (.reg F27_r0 [] [0,3] [3]) (.seq (.seq (.reg F27_r1 [] [0,3,8] [3]) (.block 0 (.seq (.seq (.reg F27_r2 [] [0,3,8,9] [3]) (.cond (.t 9) (.skip) (.reg F27_r3 [] [0,3,8,9] [3]))) (.cond (.t 9) (.seq (.reg F27_r4 [] [5] []) (.seq (.reg F27_r5 [] [4] []) (.ret))) (.seq (.reg F27_r6 [] [0,3,8,23] [3]) (.cond (.t 23) (.seq (.reg F27_r7 [] [4] []) (.ret)) (.seq (.seq (.reg F27_r8 [] [0,3,8,28] [3]) (.cond (.t 28) (.skip) (.reg F27_r9 [] [0,3,28] [3]))) (.cond (.t 28) (.seq (.reg F27_r10 [] [4] []) (.ret)) (.skip))))))))) (.seq (.reg F27_r11 [] [4] []) (.ret))),[.t 4]⟩
def F28_r0:List AIns:=[ii 4 (.box true (.t 1)),
 ii 6 (.mv (.c (.lit (.bool false))))]
def F28_r1:List AIns:=[ii 7 (.mv (.c (.lit (.pointer none))))]
def F28_r2:List AIns:=[ii 10 (.mv (.t 2)),
 ii 11 (.len false (.t 10)),
 ii 12 (.mv (.c (.lit (.int .i64 0))))]
def F28_r3:List AIns:=[ii 13 (.bin .lss (.t 12) (.t 11))]
def F28_r4:List AIns:=[ii 14 (.mv (.t 12)),
 ii 15 (.ia 1 (.t 10) (.t 12)),
 ii 16 (.ld true none (.t 15)),
 ii 8 (.mv (.t 14)),
 ii 9 (.mv (.t 16))]
def F28_r5:List AIns:=[ii 17 (.mv (.t 7)),
 ii 18 (.fa 2 (.t 4)),
 ii 19 (.ld false none (.t 18)),
 ii 20 (.mv (.t 8)),
 ii 21 (.ia 1 (.t 19) (.t 20)),
 ii 22 (.ld true none (.t 21)),
 ii 23 (.fa 1 (.t 4)),
 ii 24 (.ld false none (.t 23)),
 ii 25 (.mv (.t 8)),
 ii 26 (.ia 2 (.t 24) (.t 25)),
 ii 27 (.fa 1 (.t 26)),
 ii 28 (.ld true none (.t 27)),
 ii 29 (.mv (.t 9)),
 ii 30 (.call (.f N35_) [(.t 17),(.t 22),(.t 28),(.t 29)]),
 ii 7 (.mv (.t 30))]
def F28_r6:List AIns:=[ii 31 (.bin .add (.t 12) (.c (.lit (.int .i64 1)))),
 ii 12 (.mv (.t 31))]
def F28_l1:AC:=.seq (.reg F28_r3 [] [0,4,7,10,11,12,13] [4]) (.seq (.cond (.t 13) (.skip) (.exit 0)) (.seq (.block 1 (.seq (.reg F28_r4 [] [0,4,7,8,9,10,11,12] [4]) (.reg F28_r5 [] [0,4,7,10,11,12] [4]))) (.reg F28_r6 [] [0,4,7,10,11,12] [4])))
def F28_r7:List AIns:=[ii 32 (.mv (.t 0)),
 ii 33 (.fa 3 (.t 4)),
 ii 34 (.ld false (some 5) (.t 33)),
 ii 35 (.mv (.t 7)),
 ii 36 (.call (.f N31_) [(.t 32),(.t 34),(.t 35)]),
 ii 6 (.mv (.t 36))]
def F28_:AFun:=⟨3,.seq (.reg F28_r0 [] [0,2,4] [4]) (.seq (.reg F28_r1 [] [0,2,4,7] [4]) (.seq (.seq (.reg F28_r2 [] [0,4,7,10,11,12] [4]) (.block 0 (.loop F28_l1))) (.seq (.reg F28_r7 [] [6] []) (.ret)))),[.t 6]⟩
def F29_r0:List AIns:=[ii 4 (.mv (.c (.slice .full 1 [])))]
def F29_r1:List AIns:=[ii 5 (.mv (.c (.slice .full 1 [])))]
def F29_r2:List AIns:=[ii 8 (.mv (.t 1)),
 ii 9 (.len false (.t 8)),
 ii 10 (.mv (.c (.lit (.int .i64 0))))]
def F29_r3:List AIns:=[ii 11 (.bin .lss (.t 10) (.t 9))]
def F29_r4:List AIns:=[ii 12 (.ia 5 (.t 8) (.t 10)),
 ii 13 (.ld true (some 5) (.t 12)),
 ii 7 (.alloc true [.lit (.int .i64 0),.lit (.int .i64 0),.lit (.int .i64 0),.slice .full 5 [],.slice .full 7 []]),
 ⟨none,none,.st false 5 (.t 7) (.t 13)⟩]
def F29_r5:List AIns:=[ii 14 (.mv (.t 5)),
 ii 15 (.mv (.t 0)),
 ii 16 (.ld false (some 5) (.t 7)),
 ii 17 (.call (.f N27_) [(.t 15),(.t 16)]),
 ii 18 (.bsl 1 [(.t 17)]),
 ii 19 (.app 1 16 (.t 14) (.t 18)),
 ii 5 (.mv (.t 19))]
def F29_r6:List AIns:=[ii 20 (.bin .add (.t 10) (.c (.lit (.int .i64 1)))),
 ii 10 (.mv (.t 20))]
def F29_l1:AC:=.seq (.reg F29_r3 [] [0,5,8,9,10,11] []) (.seq (.cond (.t 11) (.skip) (.exit 0)) (.seq (.block 1 (.seq (.reg F29_r4 [] [0,5,7,8,9,10] [7]) (.reg F29_r5 [] [0,5,8,9,10] []))) (.reg F29_r6 [] [0,5,8,9,10] [])))
def F29_r7:List AIns:=[ii 21 (.mv (.t 5)),
 ii 4 (.mv (.t 21))]
def F29_:AFun:=⟨2,.seq (.reg F29_r0 [] [0,1] []) (.seq (.reg F29_r1 [] [0,1,5] []) (.seq (.seq (.reg F29_r2 [] [0,5,8,9,10] []) (.block 0 (.loop F29_l1))) (.seq (.reg F29_r7 [] [4] []) (.ret)))),[.t 4]⟩
def F30_r0:List AIns:=[ii 6 (.mv (.c (.lit (.int .i64 0))))]
def F30_r1:List AIns:=[ii 7 (.mv (.c (.lit (.int .i64 0))))]
def F30_r2:List AIns:=[ii 9 (.mv (.t 2)),
 ii 10 (.bin .neq (.t 9) (.c (.lit (.int .i64 0))))]
def F30_r3:List AIns:=[ii 11 (.mv (.t 1)),
 ii 12 (.mv (.t 2)),
 ii 13 (.bin .quo (.t 11) (.t 12)),
 ii 7 (.mv (.t 13))]
def F30_r4:List AIns:=[ii 8 (.mv (.c (.lit (.bool false))))]
def F30_r5:List AIns:=[ii 14 (.mv (.t 0))]
def F30_r7:List AIns:=[ii 19 (.bin .eql (.t 14) (.c (.lit (.int .i64 0)))),
 ii 18 (.mv (.t 19))]
def F30_r8:List AIns:=[ii 20 (.mv (.t 1)),
 ii 21 (.mv (.t 2)),
 ii 22 (.bin .add (.t 20) (.t 21)),
 ii 6 (.mv (.t 22))]
def F30_r9:List AIns:=[ii 24 (.bin .eql (.t 14) (.c (.lit (.int .i64 1)))),
 ii 23 (.mv (.t 24))]
def F30_r10:List AIns:=[ii 25 (.mv (.t 1)),
 ii 26 (.mv (.t 2)),
 ii 27 (.bin .sub (.t 25) (.t 26)),
 ii 6 (.mv (.t 27))]
def F30_r11:List AIns:=[ii 29 (.bin .eql (.t 14) (.c (.lit (.int .i64 2)))),
 ii 28 (.mv (.t 29))]
def F30_r12:List AIns:=[ii 30 (.mv (.t 1)),
 ii 31 (.mv (.t 2)),
 ii 32 (.bin .mul (.t 30) (.t 31)),
 ii 6 (.mv (.t 32))]
def F30_r13:List AIns:=[ii 34 (.bin .eql (.t 14) (.c (.lit (.int .i64 3)))),
 ii 33 (.mv (.t 34))]
def F30_r14:List AIns:=[ii 35 (.mv (.t 7)),
 ii 6 (.mv (.t 35))]
def F30_r15:List AIns:=[ii 37 (.bin .eql (.t 14) (.c (.lit (.int .i64 4)))),
 ii 36 (.mv (.t 37))]
def F30_r16:List AIns:=[ii 38 (.mv (.t 1)),
 ii 39 (.mv (.t 2)),
 ii 40 (.mv (.t 7)),
 ii 41 (.bin .mul (.t 39) (.t 40)),
 ii 42 (.bin .sub (.t 38) (.t 41)),
 ii 6 (.mv (.t 42))]
def F30_r17:List AIns:=[ii 44 (.bin .eql (.t 14) (.c (.lit (.int .i64 5)))),
 ii 43 (.mv (.t 44))]
def F30_r18:List AIns:=[ii 45 (.mv (.t 1)),
 ii 46 (.mv (.t 2)),
 ii 47 (.bin .eql (.t 45) (.t 46)),
 ii 8 (.mv (.t 47))]
def F30_r6:List AIns:=[ii 15 (.mv (.t 1)),
 ii 16 (.mv (.t 2)),
 ii 17 (.bin .lss (.t 15) (.t 16)),
 ii 8 (.mv (.t 17))]
def F30_r19:List AIns:=[ii 48 (.mv (.t 8))]
def F30_r20:List AIns:=[ii 6 (.mv (.c (.lit (.int .i64 1))))]
def F30_r21:List AIns:=[ii 6 (.mv (.c (.lit (.int .i64 0))))]
def F30_:AFun:=⟨3,.seq (.reg F30_r0 [] [0,1,2] []) (.seq (.reg F30_r1 [] [0,1,2,7] []) (.seq (.seq (.reg F30_r2 [] [0,1,2,7,10] []) (.cond (.t 10) (.reg F30_r3 [] [0,1,2,7] []) (.skip))) (.seq (.reg F30_r4 [] [0,1,2,7] []) (.seq (.seq (.reg F30_r5 [] [1,2,7,14] []) (.block 0 (.seq (.reg F30_r7 [] [1,2,7,14,18] []) (.cond (.t 18) (.seq (.reg F30_r8 [] [6] []) (.ret)) (.seq (.reg F30_r9 [] [1,2,7,14,23] []) (.cond (.t 23) (.seq (.reg F30_r10 [] [6] []) (.ret)) (.seq (.reg F30_r11 [] [1,2,7,14,28] []) (.cond (.t 28) (.seq (.reg F30_r12 [] [6] []) (.ret)) (.seq (.reg F30_r13 [] [1,2,7,14,33] []) (.cond (.t 33) (.seq (.reg F30_r14 [] [6] []) (.ret)) (.seq (.reg F30_r15 [] [1,2,7,14,36] []) (.cond (.t 36) (.seq (.reg F30_r16 [] [6] []) (.ret)) (.seq (.reg F30_r17 [] [1,2,43] []) (.cond (.t 43) (.reg F30_r18 [] [8] []) (.reg F30_r6 [] [8] []))))))))))))))) (.seq (.seq (.reg F30_r19 [] [48] []) (.cond (.t 48) (.seq (.reg F30_r20 [] [6] []) (.ret)) (.skip))) (.seq (.reg F30_r21 [] [6] []) (.ret))))))),[.t 6]⟩
def F31_r0:List AIns:=[ii 4 (.box true (.t 1)),
 ii 6 (.mv (.c (.lit (.bool false))))]
def F31_r1:List AIns:=[ii 7 (.mv (.t 0)),
 ii 8 (.mv (.t 0)),
 ii 9 (.ld false (some 5) (.t 4)),
 ii 10 (.mv (.t 2)),
 ii 11 (.nck (.t 7)),
 ii 12 (.fa 3 (.t 11)),
 ⟨none,none,.st true 5 (.t 12) (.t 9)⟩,
 ii 13 (.nck (.t 8)),
 ii 14 (.fa 8 (.t 13)),
 ⟨none,none,.st true 1 (.t 14) (.t 10)⟩]
def F31_r2:List AIns:=[ii 6 (.mv (.c (.lit (.bool true))))]
def F31_:AFun:=⟨3,.seq (.reg F31_r0 [] [0,2,4] [4]) (.seq (.reg F31_r1 [] [] []) (.seq (.reg F31_r2 [] [6] []) (.ret))),[.t 6]⟩
def F32_r0:List AIns:=[ii 1 (.box true (.t 0)),
 ii 2 (.mv (.c (.lit (.int .i64 0))))]
def F32_r1:List AIns:=[ii 3 (.ld false (some 2) (.t 1)),
 ii 4 (.call (.f N41_) [(.t 3)]),
 ii 5 (.unot (.t 4))]
def F32_r2:List AIns:=[ii 2 (.mv (.c (.lit (.int .i64 60))))]
def F32_r3:List AIns:=[ii 2 (.mv (.c (.lit (.int .i64 0))))]
def F32_:AFun:=⟨1,.seq (.reg F32_r0 [] [1] [1]) (.seq (.seq (.reg F32_r1 [] [5] []) (.cond (.t 5) (.seq (.reg F32_r2 [] [2] []) (.ret)) (.skip))) (.seq (.reg F32_r3 [] [2] []) (.ret))),[.t 2]⟩
def F33_r0:List AIns:=[ii 1 (.box true (.t 0)),
 ii 2 (.mv (.c (.lit (.int .i64 0))))]
def F33_r1:List AIns:=[ii 3 (.ld false (some 2) (.t 1)),
 ii 4 (.call (.f N41_) [(.t 3)]),
 ii 5 (.unot (.t 4))]
def F33_r2:List AIns:=[ii 2 (.mv (.c (.lit (.int .i64 60))))]
def F33_r3:List AIns:=[ii 6 (.ld false (some 2) (.t 1)),
 ii 7 (.call (.f N42_) [(.t 6)]),
 ii 8 (.unot (.t 7))]
def F33_r4:List AIns:=[ii 2 (.mv (.c (.lit (.int .i64 70))))]
def F33_r5:List AIns:=[ii 2 (.mv (.c (.lit (.int .i64 0))))]
def F33_:AFun:=⟨1,.seq (.reg F33_r0 [] [1] [1]) (.seq (.seq (.reg F33_r1 [] [1,5] [1]) (.cond (.t 5) (.seq (.reg F33_r2 [] [2] []) (.ret)) (.skip))) (.seq (.seq (.reg F33_r3 [] [8] []) (.cond (.t 8) (.seq (.reg F33_r4 [] [2] []) (.ret)) (.skip))) (.seq (.reg F33_r5 [] [2] []) (.ret)))),[.t 2]⟩
def F34_r0:List AIns:=[ii 1 (.box true (.t 0)),
 ii 2 (.alloc true [.slice .full 3 [],.slice .full 8 []]),
 ii 3 (.mv (.c (.lit (.int .i64 0))))]
def F34_r1:List AIns:=[ii 7 (.ld false (some 2) (.t 1)),
 ii 8 (.call (.f N43_) [(.t 7)]),
 ii 4 (.mv (.t 8))]
def F34_r2:List AIns:=[ii 9 (.mv (.t 4)),
 ii 10 (.bin .neq (.t 9) (.c (.lit (.int .i64 0))))]
def F34_r3:List AIns:=[ii 11 (.build [.slice .full 3 [],.slice .full 8 []] []),
 ii 12 (.mv (.t 4)),
 ⟨none,none,.st false 2 (.t 2) (.t 11)⟩,
 ii 3 (.mv (.t 12))]
def F34_r4:List AIns:=[ii 14 (.ld false (some 2) (.t 1)),
 ii 15 (.call (.f N44_) [(.t 14)]),
 ii 13 (.mv (.t 15)),
 ii 16 (.ext (.t 13) 0),
 ii 17 (.ext (.t 13) 1),
 ii 5 (.alloc true [.slice .full 3 [],.slice .full 8 []]),
 ⟨none,none,.st false 2 (.t 5) (.t 16)⟩,
 ii 6 (.mv (.t 17))]
def F34_r5:List AIns:=[ii 18 (.mv (.t 6)),
 ii 19 (.unot (.t 18))]
def F34_r6:List AIns:=[ii 20 (.build [.slice .full 3 [],.slice .full 8 []] []),
 ⟨none,none,.st false 2 (.t 2) (.t 20)⟩,
 ii 3 (.mv (.c (.lit (.int .i64 2))))]
def F34_r7:List AIns:=[ii 21 (.ld false (some 2) (.t 5)),
 ⟨none,none,.st false 2 (.t 2) (.t 21)⟩,
 ii 3 (.mv (.c (.lit (.int .i64 0))))]
def F34_:AFun:=⟨1,.seq (.reg F34_r0 [] [1,2] [1,2]) (.seq (.seq (.reg F34_r1 [] [1,2,4] [1,2]) (.seq (.reg F34_r2 [] [1,2,4,10] [1,2]) (.cond (.t 10) (.seq (.reg F34_r3 [] [2,3] [2]) (.ret)) (.skip)))) (.seq (.reg F34_r4 [] [2,5,6] [2,5]) (.seq (.seq (.reg F34_r5 [] [2,5,19] [2,5]) (.cond (.t 19) (.seq (.reg F34_r6 [] [2,3] [2]) (.ret)) (.skip))) (.seq (.reg F34_r7 [] [2,3] [2]) (.ret))))),[.cell (some 2) 2,.t 3]⟩
def F35_r0:List AIns:=[ii 8 (.mv (.c (.lit (.pointer none))))]
def F35_r1:List AIns:=[ii 9 (.mv (.t 2))]
def F35_r2:List AIns:=[ii 10 (.mv (.t 1)),
 ii 11 (.mv (.t 3)),
 ii 12 (.build [.lit (.int .i64 0),.lit .nilIface] [(0,1,(.t 10)),(1,1,(.t 11))]),
 ii 13 (.build [.lit (.int .i64 0),.lit .nilIface] [(0,2,(.t 12))]),
 ii 14 (.wop (.mki 115) [(.t 13)]),
 ii 15 (.mv (.t 0)),
 ii 16 (.build [.lit .nilIface,.lit (.pointer none)] [(0,1,(.t 14)),(1,1,(.t 15))]),
 ii 17 (.box false (.t 16)),
 ii 8 (.mv (.t 17))]
def F35_r3:List AIns:=[ii 18 (.mv (.t 1)),
 ii 19 (.mv (.t 3)),
 ii 20 (.build [.lit (.int .i64 0),.lit .nilIface] [(0,1,(.t 18)),(1,1,(.t 19))]),
 ii 21 (.build [.lit (.int .i64 0),.lit .nilIface] [(0,2,(.t 20))]),
 ii 22 (.wop (.mki 116) [(.t 21)]),
 ii 23 (.mv (.t 0)),
 ii 24 (.build [.lit .nilIface,.lit (.pointer none)] [(0,1,(.t 22)),(1,1,(.t 23))]),
 ii 25 (.box false (.t 24)),
 ii 8 (.mv (.t 25))]
def F35_:AFun:=⟨4,.seq (.reg F35_r0 [] [0,1,2,3] []) (.seq (.seq (.reg F35_r1 [] [0,1,3,9] []) (.cond (.t 9) (.seq (.reg F35_r2 [] [8] []) (.ret)) (.skip))) (.seq (.reg F35_r3 [] [8] []) (.ret))),[.t 8]⟩
def F36_r0:List AIns:=[ii 1 (.ld true none (.t 0)),
 ii 2 (.nck (.t 1)),
 ii 3 (.fa 1 (.t 2)),
 ii 4 (.ld true none (.t 3)),
 ii 5 (.bin .sub (.t 4) (.c (.lit (.int .i64 1)))),
 ii 6 (.nck (.t 1)),
 ii 7 (.fa 1 (.t 6)),
 ⟨none,none,.st true 1 (.t 7) (.t 5)⟩]
def F36_:AFun:=⟨1,.reg F36_r0 [] [] [],[]⟩
def F37_r0:List AIns:=[ii 2 (.mv (.c (.lit (.int .i64 0))))]
def F37_r1:List AIns:=[ii 3 (.mv (.t 0)),
 ii 4 (.peq false (.t 3) (.c (.lit (.pointer none))))]
def F37_r2:List AIns:=[ii 2 (.mv (.c (.lit (.int .i64 0))))]
def F37_r3:List AIns:=[ii 5 (.mv (.t 0)),
 ii 6 (.nck (.t 5)),
 ii 7 (.fa 1 (.t 6)),
 ii 8 (.ld true none (.t 7)),
 ii 9 (.bin .add (.t 8) (.c (.lit (.int .i64 1)))),
 ii 2 (.mv (.t 9))]
def F37_:AFun:=⟨1,.seq (.reg F37_r0 [] [0] []) (.seq (.seq (.reg F37_r1 [] [0,4] []) (.cond (.t 4) (.seq (.reg F37_r2 [] [2] []) (.ret)) (.skip))) (.seq (.reg F37_r3 [] [2] []) (.ret))),[.t 2]⟩
def F38_r0:List AIns:=[ii 4 (.mv (.c (.lit (.bool false))))]
def F38_r1:List AIns:=[ii 5 (.mv (.t 1)),
 ii 6 (.bin .eql (.t 5) (.c (.lit (.int .i64 0)))),
 ii 7 (.mv (.t 6)),
 ⟨some 8,(some (7,false)),.mv (.t 0)⟩,
 ⟨some 9,(some (7,false)),.mv (.t 1)⟩,
 ⟨some 10,(some (7,false)),.bin .sub (.t 9) (.c (.lit (.int .i64 1)))⟩,
 ⟨some 11,(some (7,false)),.ia 3 (.t 8) (.t 10)⟩,
 ⟨some 12,(some (7,false)),.fa 1 (.t 11)⟩,
 ⟨some 13,(some (7,false)),.ld true none (.t 12)⟩,
 ⟨some 14,(some (7,false)),.unot (.t 13)⟩,
 ii 15 (.pick (.t 7) (.c (.lit (.bool true))) (.t 14)),
 ii 4 (.mv (.t 15))]
def F38_:AFun:=⟨2,.seq (.reg F38_r0 [] [0,1] []) (.seq (.reg F38_r1 [] [4] []) (.ret)),[.t 4]⟩
def F39_r0:List AIns:=[ii 4 (.alloc true [.lit (.int .i64 0),.lit (.int .i64 0),.lit (.int .i64 0),.slice .full 5 [],.slice .full 7 [],.lit (.pointer none)]),
 ii 5 (.mv (.c (.lit (.bool false))))]
def F39_r1:List AIns:=[ii 9 (.mv (.t 0)),
 ii 10 (.tas 100 (.agg [.lit (.int .i64 0),.lit (.int .i64 0),.lit (.int .i64 0),.slice .full 5 [],.slice .full 7 [],.lit (.pointer none)]) true (.t 9)),
 ii 8 (.mv (.t 10)),
 ii 11 (.ext (.t 8) 0),
 ii 12 (.ext (.t 8) 1),
 ii 6 (.alloc true [.lit (.int .i64 0),.lit (.int .i64 0),.lit (.int .i64 0),.slice .full 5 [],.slice .full 7 [],.lit (.pointer none)]),
 ⟨none,none,.st false 6 (.t 6) (.t 11)⟩,
 ii 7 (.mv (.t 12))]
def F39_r2:List AIns:=[ii 13 (.ld false (some 6) (.t 6)),
 ii 14 (.mv (.t 7)),
 ii 15 (.mv (.t 14)),
 ⟨some 16,(some (15,true)),.fa 0 (.t 6)⟩,
 ⟨some 17,(some (15,true)),.fa 0 (.t 16)⟩,
 ⟨some 18,(some (15,true)),.ld false none (.t 17)⟩,
 ⟨some 19,(some (15,true)),.mv (.t 1)⟩,
 ⟨some 20,(some (15,true)),.bin .eql (.t 18) (.t 19)⟩,
 ii 21 (.pick (.t 15) (.t 20) (.c (.lit (.bool false)))),
 ⟨none,none,.st false 6 (.t 4) (.t 13)⟩,
 ii 5 (.mv (.t 21))]
def F39_:AFun:=⟨2,.seq (.reg F39_r0 [] [0,1,4] [4]) (.seq (.reg F39_r1 [] [1,4,6,7] [4,6]) (.seq (.regd F39_r2 [] [4,5] [4] [[],[],[1],[2],[3,2],[4,2],[2],[5,6,2],[2,7],[0,2,0],[8,9,0,1,2,3,4,5,6,7,8,9]]) (.ret))),[.cell (some 6) 4,.t 5]⟩
def F40_r0:List AIns:=[ii 4 (.box true (.t 1)),
 ii 6 (.mv (.c (.lit (.bool false))))]
def F40_r1:List AIns:=[ii 14 (.mv (.t 2)),
 ii 15 (.tas 102 (.agg [.lit (.int .i64 0),.lit (.int .i64 0),.lit (.int .i64 0),.slice .full 5 [],.slice .full 7 [],.slice .full 1 []]) true (.t 14)),
 ii 13 (.mv (.t 15)),
 ii 16 (.ext (.t 13) 0),
 ii 17 (.ext (.t 13) 1),
 ii 7 (.alloc true [.lit (.int .i64 0),.lit (.int .i64 0),.lit (.int .i64 0),.slice .full 5 [],.slice .full 7 [],.slice .full 1 []]),
 ⟨none,none,.st false 6 (.t 7) (.t 16)⟩,
 ii 8 (.mv (.t 17))]
def F40_r2:List AIns:=[ii 18 (.mv (.t 8)),
 ii 19 (.unot (.t 18)),
 ii 20 (.mv (.t 19)),
 ⟨some 21,(some (20,false)),.fa 0 (.t 7)⟩,
 ⟨some 22,(some (20,false)),.fa 1 (.t 21)⟩,
 ⟨some 23,(some (20,false)),.ld false none (.t 22)⟩,
 ⟨some 24,(some (20,false)),.fa 0 (.t 4)⟩,
 ⟨some 25,(some (20,false)),.fa 4 (.t 24)⟩,
 ⟨some 26,(some (20,false)),.ld false none (.t 25)⟩,
 ⟨some 27,(some (20,false)),.len false (.t 26)⟩,
 ⟨some 28,(some (20,false)),.bin .geq (.t 23) (.t 27)⟩,
 ii 29 (.pick (.t 20) (.c (.lit (.bool true))) (.t 28))]
def F40_r3:List AIns:=[ii 6 (.mv (.c (.lit (.bool false))))]
def F40_r4:List AIns:=[ii 30 (.fa 0 (.t 4)),
 ii 31 (.fa 4 (.t 30)),
 ii 32 (.ld false none (.t 31)),
 ii 33 (.fa 0 (.t 7)),
 ii 34 (.fa 1 (.t 33)),
 ii 35 (.ld false none (.t 34)),
 ii 36 (.ia 7 (.t 32) (.t 35)),
 ii 37 (.ld true (some 7) (.t 36)),
 ii 9 (.alloc true [.slice .full 1 [],.slice .full 1 [],.lit (.int .i64 0),.lit (.int .i64 0),.lit (.int .i64 0),.slice .full 5 [],.slice .full 7 []]),
 ⟨none,none,.st false 7 (.t 9) (.t 37)⟩]
def F40_r5:List AIns:=[ii 38 (.fa 5 (.t 4)),
 ii 39 (.ld false none (.t 38)),
 ii 10 (.mv (.t 39))]
def F40_r6:List AIns:=[ii 40 (.fa 5 (.t 7)),
 ii 41 (.ld false none (.t 40)),
 ii 42 (.len false (.t 41)),
 ii 43 (.mv (.c (.lit (.int .i64 0))))]
def F40_r7:List AIns:=[ii 44 (.bin .lss (.t 43) (.t 42))]
def F40_r8:List AIns:=[ii 45 (.mv (.t 43)),
 ii 46 (.ia 1 (.t 41) (.t 43)),
 ii 47 (.ld true none (.t 46)),
 ii 11 (.mv (.t 45)),
 ii 12 (.mv (.t 47))]
def F40_r9:List AIns:=[ii 48 (.mv (.t 10)),
 ii 49 (.fa 0 (.t 9)),
 ii 50 (.ld false none (.t 49)),
 ii 51 (.mv (.t 11)),
 ii 52 (.ia 1 (.t 50) (.t 51)),
 ii 53 (.ld true none (.t 52)),
 ii 54 (.fa 1 (.t 9)),
 ii 55 (.ld false none (.t 54)),
 ii 56 (.mv (.t 11)),
 ii 57 (.ia 1 (.t 55) (.t 56)),
 ii 58 (.ld true none (.t 57)),
 ii 59 (.mv (.t 12)),
 ii 60 (.call (.f N35_) [(.t 48),(.t 53),(.t 58),(.t 59)]),
 ii 10 (.mv (.t 60))]
def F40_r10:List AIns:=[ii 61 (.bin .add (.t 43) (.c (.lit (.int .i64 1)))),
 ii 43 (.mv (.t 61))]
def F40_l1:AC:=.seq (.reg F40_r7 [] [0,9,10,41,42,43,44] [9]) (.seq (.cond (.t 44) (.skip) (.exit 0)) (.seq (.block 1 (.seq (.reg F40_r8 [] [0,9,10,11,12,41,42,43] [9]) (.reg F40_r9 [] [0,9,10,41,42,43] [9]))) (.reg F40_r10 [] [0,9,10,41,42,43] [9])))
def F40_r11:List AIns:=[ii 62 (.mv (.t 0)),
 ii 63 (.fa 2 (.t 9)),
 ii 64 (.ld false (some 5) (.t 63)),
 ii 65 (.mv (.t 10)),
 ii 66 (.call (.f N31_) [(.t 62),(.t 64),(.t 65)]),
 ii 6 (.mv (.t 66))]
def F40_:AFun:=⟨3,.seq (.reg F40_r0 [] [0,2,4] [4]) (.seq (.reg F40_r1 [] [0,4,7,8] [4,7]) (.seq (.seq (.reg F40_r2 [] [0,4,7,29] [4,7]) (.cond (.t 29) (.seq (.reg F40_r3 [] [6] []) (.ret)) (.skip))) (.seq (.reg F40_r4 [] [0,4,7,9] [4,7,9]) (.seq (.reg F40_r5 [] [0,7,9,10] [7,9]) (.seq (.seq (.reg F40_r6 [] [0,9,10,41,42,43] [9]) (.block 0 (.loop F40_l1))) (.seq (.reg F40_r11 [] [6] []) (.ret))))))),[.t 6]⟩
def F41_r0:List AIns:=[ii 1 (.box true (.t 0)),
 ii 2 (.mv (.c (.lit (.bool false))))]
def F41_r1:List AIns:=[ii 13 (.fa 0 (.t 1)),
 ii 14 (.ld false none (.t 13)),
 ii 15 (.call (.f N45_) [(.t 14)]),
 ii 16 (.unot (.t 15)),
 ii 17 (.mv (.t 16)),
 ⟨some 18,(some (17,false)),.fa 1 (.t 1)⟩,
 ⟨some 19,(some (17,false)),.ld false none (.t 18)⟩,
 ⟨some 20,(some (17,false)),.len false (.t 19)⟩,
 ⟨some 21,(some (17,false)),.bin .lss (.t 20) (.c (.lit (.int .i64 1)))⟩,
 ii 22 (.pick (.t 17) (.c (.lit (.bool true))) (.t 21)),
 ii 23 (.mv (.t 22)),
 ⟨some 24,(some (23,false)),.fa 1 (.t 1)⟩,
 ⟨some 25,(some (23,false)),.ld false none (.t 24)⟩,
 ⟨some 26,(some (23,false)),.len false (.t 25)⟩,
 ⟨some 27,(some (23,false)),.bin .gtr (.t 26) (.c (.lit (.int .i64 12)))⟩,
 ii 28 (.pick (.t 23) (.c (.lit (.bool true))) (.t 27))]
def F41_r2:List AIns:=[ii 2 (.mv (.c (.lit (.bool false))))]
def F41_r3:List AIns:=[ii 29 (.mkm .str),
 ii 3 (.mv (.t 29))]
def F41_r4:List AIns:=[ii 30 (.fa 0 (.t 1)),
 ii 31 (.ld false none (.t 30)),
 ii 32 (.fa 1 (.t 1)),
 ii 33 (.ld false none (.t 32)),
 ii 34 (.build [.slice .full 3 [],.slice .full 8 [],.lit (.int .i64 0)] [(0,1,(.t 31)),(1,1,(.t 33)),(2,1,(.c (.lit (.int .i64 30000))))]),
 ii 35 (.box false (.t 34)),
 ii 4 (.mv (.t 35))]
def F41_r5:List AIns:=[ii 36 (.fa 1 (.t 1)),
 ii 37 (.ld false none (.t 36)),
 ii 38 (.len false (.t 37)),
 ii 39 (.mv (.c (.lit (.int .i64 0))))]
def F41_r6:List AIns:=[ii 40 (.bin .lss (.t 39) (.t 38))]
def F41_r7:List AIns:=[ii 41 (.mv (.t 39)),
 ii 42 (.ia 8 (.t 37) (.t 39)),
 ii 43 (.ld true (some 8) (.t 42)),
 ii 6 (.alloc true [.lit (.string ⟨#[]⟩),.slice .full 2 [],.slice .full 1 [],.lit (.int .i64 0),.lit (.int .i64 0),.lit (.int .i64 0),.slice .full 5 [],.slice .full 7 []]),
 ii 5 (.mv (.t 41)),
 ⟨none,none,.st false 8 (.t 6) (.t 43)⟩]
def F41_r8:List AIns:=[ii 44 (.fa 0 (.t 6)),
 ii 45 (.ld false none (.t 44)),
 ii 46 (.call (.f N46_) [(.t 45)]),
 ii 47 (.unot (.t 46)),
 ii 48 (.mv (.t 47)),
 ⟨some 49,(some (48,false)),.mv (.t 3)⟩,
 ⟨some 50,(some (48,false)),.fa 0 (.t 6)⟩,
 ⟨some 51,(some (48,false)),.ld false none (.t 50)⟩,
 ⟨some 52,(some (48,false)),.lk .str (.lit (.bool false)) false (.t 49) (.t 51)⟩,
 ii 53 (.pick (.t 48) (.c (.lit (.bool true))) (.t 52)),
 ii 54 (.mv (.t 53)),
 ⟨some 55,(some (54,false)),.fa 1 (.t 6)⟩,
 ⟨some 56,(some (54,false)),.ld false none (.t 55)⟩,
 ⟨some 57,(some (54,false)),.len false (.t 56)⟩,
 ⟨some 58,(some (54,false)),.bin .gtr (.t 57) (.c (.lit (.int .i64 6)))⟩,
 ii 59 (.pick (.t 54) (.c (.lit (.bool true))) (.t 58)),
 ii 60 (.mv (.t 59)),
 ⟨some 61,(some (60,false)),.fa 2 (.t 6)⟩,
 ⟨some 62,(some (60,false)),.ld false none (.t 61)⟩,
 ⟨some 63,(some (60,false)),.len false (.t 62)⟩,
 ⟨some 64,(some (60,false)),.fa 1 (.t 6)⟩,
 ⟨some 65,(some (60,false)),.ld false none (.t 64)⟩,
 ⟨some 66,(some (60,false)),.len false (.t 65)⟩,
 ⟨some 67,(some (60,false)),.bin .neq (.t 63) (.t 66)⟩,
 ii 68 (.pick (.t 60) (.c (.lit (.bool true))) (.t 67))]
def F41_r9:List AIns:=[ii 2 (.mv (.c (.lit (.bool false))))]
def F41_r10:List AIns:=[ii 69 (.mv (.t 3)),
 ii 70 (.fa 0 (.t 6)),
 ii 71 (.ld false none (.t 70)),
 ⟨none,none,.mu .str (.t 69) (.t 71) (.c (.lit (.bool true)))⟩]
def F41_r11:List AIns:=[ii 7 (.mv (.c (.slice .full 1 [])))]
def F41_r12:List AIns:=[ii 72 (.fa 1 (.t 6)),
 ii 73 (.ld false none (.t 72)),
 ii 74 (.len false (.t 73)),
 ii 75 (.mv (.c (.lit (.int .i64 0))))]
def F41_r13:List AIns:=[ii 76 (.bin .lss (.t 75) (.t 74))]
def F41_r14:List AIns:=[ii 77 (.ia 2 (.t 73) (.t 75)),
 ii 78 (.ld true (some 2) (.t 77)),
 ii 9 (.alloc true [.lit (.int .i64 0),.lit (.bool false)]),
 ⟨none,none,.st false 2 (.t 9) (.t 78)⟩]
def F41_r15:List AIns:=[ii 79 (.fa 0 (.t 9)),
 ii 80 (.ld false none (.t 79)),
 ii 81 (.bin .lss (.t 80) (.c (.lit (.int .i64 0)))),
 ii 82 (.mv (.t 81)),
 ⟨some 83,(some (82,false)),.fa 0 (.t 9)⟩,
 ⟨some 84,(some (82,false)),.ld false none (.t 83)⟩,
 ⟨some 85,(some (82,false)),.fa 0 (.t 1)⟩,
 ⟨some 86,(some (82,false)),.ld false none (.t 85)⟩,
 ⟨some 87,(some (82,false)),.len false (.t 86)⟩,
 ⟨some 88,(some (82,false)),.bin .gtr (.t 84) (.t 87)⟩,
 ii 89 (.pick (.t 82) (.c (.lit (.bool true))) (.t 88)),
 ii 90 (.mv (.t 89)),
 ⟨some 91,(some (90,false)),.mv (.t 5)⟩,
 ⟨some 92,(some (90,false)),.bin .eql (.t 91) (.c (.lit (.int .i64 0)))⟩,
 ⟨some 93,(some (90,false)),.mv (.t 92)⟩,
 ⟨some 94,(some (93,true)),.fa 1 (.t 9)⟩,
 ⟨some 95,(some (93,true)),.ld false none (.t 94)⟩,
 ⟨some 96,(some (93,true)),.mv (.t 95)⟩,
 ⟨some 97,(some (96,false)),.fa 0 (.t 9)⟩,
 ⟨some 98,(some (96,false)),.ld false none (.t 97)⟩,
 ⟨some 99,(some (96,false)),.bin .neq (.t 98) (.c (.lit (.int .i64 0)))⟩,
 ⟨some 100,(some (93,true)),.pick (.t 96) (.c (.lit (.bool true))) (.t 99)⟩,
 ⟨some 101,(some (90,false)),.pick (.t 93) (.t 100) (.c (.lit (.bool false)))⟩,
 ii 102 (.pick (.t 90) (.c (.lit (.bool true))) (.t 101))]
def F41_r16:List AIns:=[ii 2 (.mv (.c (.lit (.bool false))))]
def F41_r17:List AIns:=[ii 103 (.mv (.t 7)),
 ii 104 (.fa 1 (.t 9)),
 ii 105 (.ld false none (.t 104)),
 ii 106 (.bsl 1 [(.t 105)]),
 ii 107 (.app 1 1 (.t 103) (.t 106)),
 ii 7 (.mv (.t 107))]
def F41_r18:List AIns:=[ii 108 (.bin .add (.t 75) (.c (.lit (.int .i64 1)))),
 ii 75 (.mv (.t 108))]
def F41_l2:AC:=.seq (.reg F41_r13 [] [1,3,4,5,6,7,37,38,39,73,74,75,76] [1,6]) (.seq (.cond (.t 76) (.skip) (.exit 2)) (.seq (.block 3 (.seq (.reg F41_r14 [] [1,3,4,5,6,7,9,37,38,39,73,74,75] [1,6,9]) (.seq (.seq (.reg F41_r15 [] [1,3,4,5,6,7,9,37,38,39,73,74,75,102] [1,6,9]) (.cond (.t 102) (.seq (.reg F41_r16 [] [2] []) (.ret)) (.skip))) (.reg F41_r17 [] [1,3,4,5,6,7,37,38,39,73,74,75] [1,6])))) (.reg F41_r18 [] [1,3,4,5,6,7,37,38,39,73,74,75] [1,6])))
def F41_r19:List AIns:=[ii 109 (.fa 2 (.t 6)),
 ii 110 (.ld false none (.t 109)),
 ii 111 (.mv (.t 7)),
 ii 112 (.call (.f N47_) [(.t 110),(.t 111)]),
 ii 113 (.unot (.t 112))]
def F41_r20:List AIns:=[ii 2 (.mv (.c (.lit (.bool false))))]
def F41_r21:List AIns:=[ii 114 (.bin .add (.t 39) (.c (.lit (.int .i64 1)))),
 ii 39 (.mv (.t 114))]
def F41_l1:AC:=.seq (.reg F41_r6 [] [1,3,4,37,38,39,40] [1]) (.seq (.cond (.t 40) (.skip) (.exit 0)) (.seq (.block 1 (.seq (.reg F41_r7 [] [1,3,4,5,6,37,38,39] [1,6]) (.seq (.seq (.reg F41_r8 [] [1,3,4,5,6,37,38,39,68] [1,6]) (.cond (.t 68) (.seq (.reg F41_r9 [] [2] []) (.ret)) (.skip))) (.seq (.reg F41_r10 [] [1,3,4,5,6,37,38,39] [1,6]) (.seq (.reg F41_r11 [] [1,3,4,5,6,7,37,38,39] [1,6]) (.seq (.seq (.reg F41_r12 [] [1,3,4,5,6,7,37,38,39,73,74,75] [1,6]) (.block 2 (.loop F41_l2))) (.seq (.reg F41_r19 [] [1,3,4,37,38,39,113] [1]) (.cond (.t 113) (.seq (.reg F41_r20 [] [2] []) (.ret)) (.skip))))))))) (.reg F41_r21 [] [1,3,4,37,38,39] [1])))
def F41_r22:List AIns:=[ii 115 (.fa 1 (.t 1)),
 ii 116 (.ld false none (.t 115)),
 ii 117 (.len false (.t 116)),
 ii 118 (.mv (.c (.lit (.int .i64 0))))]
def F41_r23:List AIns:=[ii 119 (.bin .lss (.t 118) (.t 117))]
def F41_r24:List AIns:=[ii 120 (.ia 8 (.t 116) (.t 118)),
 ii 121 (.ld true (some 8) (.t 120)),
 ii 11 (.alloc true [.lit (.string ⟨#[]⟩),.slice .full 2 [],.slice .full 1 [],.lit (.int .i64 0),.lit (.int .i64 0),.lit (.int .i64 0),.slice .full 5 [],.slice .full 7 []]),
 ⟨none,none,.st false 8 (.t 11) (.t 121)⟩]
def F41_r25:List AIns:=[ii 122 (.call (.f N48_) [(.c (.slice .full 1 [])),(.c (.slice .full 1 []))]),
 ii 12 (.alloc true [.lit (.map none),.lit (.map none)]),
 ⟨none,none,.st false 2 (.t 12) (.t 122)⟩]
def F41_r26:List AIns:=[ii 123 (.ld false (some 2) (.t 12)),
 ii 124 (.fa 2 (.t 11)),
 ii 125 (.ld false none (.t 124)),
 ii 126 (.fa 1 (.t 11)),
 ii 127 (.ld false none (.t 126)),
 ii 128 (.call (.f N50_) [(.t 127)]),
 ii 129 (.call (.f N49_) [(.t 123),(.t 125),(.t 128)])]
def F41_r27:List AIns:=[ii 130 (.fa 3 (.t 11)),
 ii 131 (.fa 0 (.t 130)),
 ii 132 (.ld false none (.t 131)),
 ii 133 (.call (.f N51_) [(.t 132)]),
 ii 134 (.bin .neq (.t 133) (.c (.lit (.int .i64 2)))),
 ii 135 (.mv (.t 134)),
 ⟨some 136,(some (135,false)),.mv (.t 4)⟩,
 ⟨some 137,(some (135,false)),.ld false (some 2) (.t 12)⟩,
 ⟨some 138,(some (135,false)),.fa 3 (.t 11)⟩,
 ⟨some 139,(some (135,false)),.ld false (some 5) (.t 138)⟩,
 ⟨some 140,(some (135,false)),.call (.f N52_) [(.t 136),(.t 137),(.t 139),(.c (.lit (.int .i64 1)))]⟩,
 ⟨some 141,(some (135,false)),.unot (.t 140)⟩,
 ii 142 (.pick (.t 135) (.c (.lit (.bool true))) (.t 141))]
def F41_r28:List AIns:=[ii 2 (.mv (.c (.lit (.bool false))))]
def F41_r29:List AIns:=[ii 143 (.bin .add (.t 118) (.c (.lit (.int .i64 1)))),
 ii 118 (.mv (.t 143))]
def F41_l3:AC:=.seq (.reg F41_r23 [] [4,116,117,118,119] []) (.seq (.cond (.t 119) (.skip) (.exit 4)) (.seq (.block 5 (.seq (.reg F41_r24 [] [4,11,116,117,118] [11]) (.seq (.reg F41_r25 [] [4,11,12,116,117,118] [11,12]) (.seq (.reg F41_r26 [] [4,11,12,116,117,118] [11,12]) (.seq (.reg F41_r27 [] [4,116,117,118,142] []) (.cond (.t 142) (.seq (.reg F41_r28 [] [2] []) (.ret)) (.skip))))))) (.reg F41_r29 [] [4,116,117,118] [])))
def F41_r30:List AIns:=[ii 2 (.mv (.c (.lit (.bool true))))]
def F41_:AFun:=⟨1,.seq (.reg F41_r0 [] [1] [1]) (.seq (.seq (.reg F41_r1 [] [1,28] [1]) (.cond (.t 28) (.seq (.reg F41_r2 [] [2] []) (.ret)) (.skip))) (.seq (.reg F41_r3 [] [1,3] [1]) (.seq (.reg F41_r4 [] [1,3,4] [1]) (.seq (.seq (.reg F41_r5 [] [1,3,4,37,38,39] [1]) (.block 0 (.loop F41_l1))) (.seq (.seq (.reg F41_r22 [] [4,116,117,118] []) (.block 4 (.loop F41_l3))) (.seq (.reg F41_r30 [] [2] []) (.ret))))))),[.t 2]⟩
def F42_r0:List AIns:=[ii 1 (.box true (.t 0)),
 ii 2 (.mv (.c (.lit (.bool false))))]
def F42_r1:List AIns:=[ii 8 (.fa 1 (.t 1)),
 ii 9 (.ld false none (.t 8)),
 ii 10 (.len false (.t 9)),
 ii 11 (.mv (.c (.lit (.int .i64 0))))]
def F42_r2:List AIns:=[ii 12 (.bin .lss (.t 11) (.t 10))]
def F42_r3:List AIns:=[ii 13 (.ia 8 (.t 9) (.t 11)),
 ii 14 (.ld true (some 8) (.t 13)),
 ii 4 (.alloc true [.lit (.string ⟨#[]⟩),.slice .full 2 [],.slice .full 1 [],.lit (.int .i64 0),.lit (.int .i64 0),.lit (.int .i64 0),.slice .full 5 [],.slice .full 7 []]),
 ⟨none,none,.st false 8 (.t 4) (.t 14)⟩]
def F42_r4:List AIns:=[ii 15 (.ld false (some 2) (.t 1)),
 ii 16 (.call (.f N53_) [(.t 15)]),
 ii 5 (.mv (.t 16))]
def F42_r5:List AIns:=[ii 17 (.mv (.t 5)),
 ii 18 (.fa 2 (.t 4)),
 ii 19 (.ld false none (.t 18)),
 ii 20 (.fa 1 (.t 4)),
 ii 21 (.ld false none (.t 20)),
 ii 22 (.call (.f N54_) [(.t 17),(.t 19),(.t 21)])]
def F42_r6:List AIns:=[ii 24 (.mv (.t 5)),
 ii 25 (.fa 3 (.t 4)),
 ii 26 (.ld false (some 5) (.t 25)),
 ii 27 (.call (.f N55_) [(.t 24),(.t 26)]),
 ii 23 (.mv (.t 27)),
 ii 28 (.ext (.t 23) 0),
 ii 29 (.ext (.t 23) 1),
 ii 6 (.mv (.t 28)),
 ii 7 (.mv (.t 29))]
def F42_r7:List AIns:=[ii 30 (.mv (.t 7)),
 ii 31 (.unot (.t 30))]
def F42_r8:List AIns:=[ii 2 (.mv (.c (.lit (.bool false))))]
def F42_r9:List AIns:=[ii 32 (.bin .add (.t 11) (.c (.lit (.int .i64 1)))),
 ii 11 (.mv (.t 32))]
def F42_l1:AC:=.seq (.reg F42_r2 [] [1,9,10,11,12] [1]) (.seq (.cond (.t 12) (.skip) (.exit 0)) (.seq (.block 1 (.seq (.reg F42_r3 [] [1,4,9,10,11] [1,4]) (.seq (.reg F42_r4 [] [1,4,5,9,10,11] [1,4]) (.seq (.reg F42_r5 [] [1,4,5,9,10,11] [1,4]) (.seq (.reg F42_r6 [] [1,7,9,10,11] [1]) (.seq (.reg F42_r7 [] [1,9,10,11,31] [1]) (.cond (.t 31) (.seq (.reg F42_r8 [] [2] []) (.ret)) (.skip)))))))) (.reg F42_r9 [] [1,9,10,11] [1])))
def F42_r10:List AIns:=[ii 2 (.mv (.c (.lit (.bool true))))]
def F42_:AFun:=⟨1,.seq (.reg F42_r0 [] [1] [1]) (.seq (.seq (.reg F42_r1 [] [1,9,10,11] [1]) (.block 0 (.loop F42_l1))) (.seq (.reg F42_r10 [] [2] []) (.ret))),[.t 2]⟩
def F43_r0:List AIns:=[ii 1 (.box true (.t 0)),
 ii 2 (.mv (.c (.lit (.int .i64 0))))]
def F43_r1:List AIns:=[ii 3 (.ld false (some 2) (.t 1)),
 ii 4 (.call (.f N33_) [(.t 3)]),
 ii 2 (.mv (.t 4))]
def F43_:AFun:=⟨1,.seq (.reg F43_r0 [] [1] [1]) (.seq (.reg F43_r1 [] [2] []) (.ret)),[.t 2]⟩
def F44_r0:List AIns:=[ii 1 (.box true (.t 0)),
 ii 2 (.alloc true [.slice .full 3 [],.slice .full 8 []]),
 ii 3 (.mv (.c (.lit (.bool false))))]
def F44_r1:List AIns:=[ii 16 (.build [.slice .full 3 [],.slice .full 8 []] []),
 ii 4 (.alloc true [.slice .full 3 [],.slice .full 8 []]),
 ⟨none,none,.st false 2 (.t 4) (.t 16)⟩]
def F44_r2:List AIns:=[ii 17 (.fa 0 (.t 1)),
 ii 18 (.ld false none (.t 17)),
 ii 19 (.len false (.t 18)),
 ii 20 (.mv (.c (.lit (.int .i64 0))))]
def F44_r3:List AIns:=[ii 21 (.bin .lss (.t 20) (.t 19))]
def F44_r4:List AIns:=[ii 22 (.ia 3 (.t 18) (.t 20)),
 ii 23 (.ld true (some 3) (.t 22)),
 ii 6 (.alloc true [.lit (.string ⟨#[]⟩),.lit (.bool false),.slice .full 2 []]),
 ⟨none,none,.st false 3 (.t 6) (.t 23)⟩]
def F44_r5:List AIns:=[ii 24 (.fa 0 (.t 6)),
 ii 25 (.ld false none (.t 24)),
 ii 26 (.fa 1 (.t 6)),
 ii 27 (.ld false none (.t 26)),
 ii 28 (.build [.lit (.string ⟨#[]⟩),.lit (.bool false),.slice .full 2 []] [(0,1,(.t 25)),(1,1,(.t 27))]),
 ii 7 (.alloc true [.lit (.string ⟨#[]⟩),.lit (.bool false),.slice .full 2 []]),
 ⟨none,none,.st false 3 (.t 7) (.t 28)⟩]
def F44_r6:List AIns:=[ii 29 (.fa 2 (.t 6)),
 ii 30 (.ld false none (.t 29)),
 ii 31 (.len false (.t 30)),
 ii 32 (.mv (.c (.lit (.int .i64 0))))]
def F44_r7:List AIns:=[ii 33 (.bin .lss (.t 32) (.t 31))]
def F44_r8:List AIns:=[ii 34 (.ia 2 (.t 30) (.t 32)),
 ii 35 (.ld true (some 2) (.t 34)),
 ii 9 (.alloc true [.lit (.string ⟨#[]⟩),.slice .full 2 []]),
 ⟨none,none,.st false 2 (.t 9) (.t 35)⟩]
def F44_r9:List AIns:=[ii 36 (.fa 2 (.t 7)),
 ii 37 (.ld false none (.t 36)),
 ii 38 (.fa 0 (.t 9)),
 ii 39 (.ld false none (.t 38)),
 ii 40 (.fa 1 (.t 9)),
 ii 41 (.ld false none (.t 40)),
 ii 42 (.app 2 16 (.c (.slice .full 2 [])) (.t 41)),
 ii 43 (.build [.lit (.string ⟨#[]⟩),.slice .full 2 []] [(0,1,(.t 39)),(1,1,(.t 42))]),
 ii 44 (.bsl 2 [(.t 43)]),
 ii 45 (.app 2 40 (.t 37) (.t 44)),
 ii 46 (.fa 2 (.t 7)),
 ⟨none,none,.st false 1 (.t 46) (.t 45)⟩]
def F44_r10:List AIns:=[ii 47 (.bin .add (.t 32) (.c (.lit (.int .i64 1)))),
 ii 32 (.mv (.t 47))]
def F44_l2:AC:=.seq (.reg F44_r7 [] [1,2,4,7,18,19,20,30,31,32,33] [1,2,4,7]) (.seq (.cond (.t 33) (.skip) (.exit 2)) (.seq (.block 3 (.seq (.reg F44_r8 [] [1,2,4,7,9,18,19,20,30,31,32] [1,2,4,7,9]) (.reg F44_r9 [] [1,2,4,7,18,19,20,30,31,32] [1,2,4,7]))) (.reg F44_r10 [] [1,2,4,7,18,19,20,30,31,32] [1,2,4,7])))
def F44_r11:List AIns:=[ii 48 (.fa 0 (.t 4)),
 ii 49 (.ld false none (.t 48)),
 ii 50 (.ld false (some 3) (.t 7)),
 ii 51 (.bsl 3 [(.t 50)]),
 ii 52 (.app 3 48 (.t 49) (.t 51)),
 ii 53 (.fa 0 (.t 4)),
 ⟨none,none,.st false 1 (.t 53) (.t 52)⟩]
def F44_r12:List AIns:=[ii 54 (.bin .add (.t 20) (.c (.lit (.int .i64 1)))),
 ii 20 (.mv (.t 54))]
def F44_l1:AC:=.seq (.reg F44_r3 [] [1,2,4,18,19,20,21] [1,2,4]) (.seq (.cond (.t 21) (.skip) (.exit 0)) (.seq (.block 1 (.seq (.reg F44_r4 [] [1,2,4,6,18,19,20] [1,2,4,6]) (.seq (.reg F44_r5 [] [1,2,4,6,7,18,19,20] [1,2,4,6,7]) (.seq (.seq (.reg F44_r6 [] [1,2,4,7,18,19,20,30,31,32] [1,2,4,7]) (.block 2 (.loop F44_l2))) (.reg F44_r11 [] [1,2,4,18,19,20] [1,2,4]))))) (.reg F44_r12 [] [1,2,4,18,19,20] [1,2,4])))
def F44_r13:List AIns:=[ii 55 (.fa 1 (.t 1)),
 ii 56 (.ld false none (.t 55)),
 ii 57 (.len false (.t 56)),
 ii 58 (.mv (.c (.lit (.int .i64 0))))]
def F44_r14:List AIns:=[ii 59 (.bin .lss (.t 58) (.t 57))]
def F44_r15:List AIns:=[ii 60 (.ia 8 (.t 56) (.t 58)),
 ii 61 (.ld true (some 8) (.t 60)),
 ii 11 (.alloc true [.lit (.string ⟨#[]⟩),.slice .full 2 [],.slice .full 1 [],.lit (.int .i64 0),.lit (.int .i64 0),.lit (.int .i64 0),.slice .full 5 [],.slice .full 7 []]),
 ⟨none,none,.st false 8 (.t 11) (.t 61)⟩]
def F44_r16:List AIns:=[ii 62 (.ld false (some 8) (.t 11)),
 ii 63 (.call (.f N56_) [(.t 62)]),
 ⟨none,none,.st false 8 (.t 11) (.t 63)⟩]
def F44_r17:List AIns:=[ii 64 (.ld false (some 2) (.t 1)),
 ii 65 (.fa 3 (.t 11)),
 ii 66 (.ld false (some 5) (.t 65)),
 ii 67 (.call (.f N57_) [(.t 66)]),
 ii 68 (.build [.slice .full 3 [],.slice .full 8 [],.lit (.int .i64 0),.lit (.int .i64 0)] [(0,2,(.t 64)),(2,2,(.t 67))]),
 ii 69 (.box false (.t 68)),
 ii 12 (.mv (.t 69))]
def F44_r18:List AIns:=[ii 70 (.fa 2 (.t 11)),
 ii 71 (.ld false none (.t 70)),
 ii 72 (.len false (.t 71)),
 ii 73 (.mv (.c (.lit (.int .i64 0))))]
def F44_r19:List AIns:=[ii 74 (.bin .lss (.t 73) (.t 72))]
def F44_r20:List AIns:=[ii 75 (.mv (.t 73)),
 ii 76 (.ia 1 (.t 71) (.t 73)),
 ii 77 (.ld true none (.t 76)),
 ii 13 (.mv (.t 75)),
 ii 14 (.mv (.t 77))]
def F44_r21:List AIns:=[ii 15 (.mv (.c (.lit (.int .i64 0))))]
def F44_r22:List AIns:=[ii 78 (.fa 1 (.t 11)),
 ii 79 (.ld false none (.t 78)),
 ii 80 (.mv (.t 13)),
 ii 81 (.ia 2 (.t 79) (.t 80)),
 ii 82 (.fa 1 (.t 81)),
 ii 83 (.ld true none (.t 82))]
def F44_r23:List AIns:=[ii 15 (.mv (.c (.lit (.int .i64 1))))]
def F44_r24:List AIns:=[ii 84 (.mv (.t 12)),
 ii 85 (.mv (.t 15)),
 ii 86 (.mv (.t 12)),
 ii 87 (.mv (.t 15)),
 ii 88 (.nck (.t 86)),
 ii 89 (.fa 2 (.t 88)),
 ii 90 (.iaa 2 1 (.t 89) (.t 87)),
 ii 91 (.ld true none (.t 90)),
 ii 92 (.mv (.t 14)),
 ii 93 (.bin .add (.t 92) (.c (.lit (.int .i64 1)))),
 ii 94 (.mmx true (.t 91) (.t 93)),
 ii 95 (.nck (.t 84)),
 ii 96 (.fa 2 (.t 95)),
 ii 97 (.iaa 2 1 (.t 96) (.t 85)),
 ⟨none,none,.st true 1 (.t 97) (.t 94)⟩]
def F44_r25:List AIns:=[ii 98 (.bin .add (.t 73) (.c (.lit (.int .i64 1)))),
 ii 73 (.mv (.t 98))]
def F44_l4:AC:=.seq (.reg F44_r19 [] [1,2,4,11,12,56,57,58,71,72,73,74] [1,2,4,11]) (.seq (.cond (.t 74) (.skip) (.exit 6)) (.seq (.block 7 (.seq (.reg F44_r20 [] [1,2,4,11,12,13,14,56,57,58,71,72,73] [1,2,4,11]) (.seq (.reg F44_r21 [] [1,2,4,11,12,13,14,15,56,57,58,71,72,73] [1,2,4,11]) (.seq (.seq (.reg F44_r22 [] [1,2,4,11,12,14,15,56,57,58,71,72,73,83] [1,2,4,11]) (.cond (.t 83) (.reg F44_r23 [] [1,2,4,11,12,14,15,56,57,58,71,72,73] [1,2,4,11]) (.skip))) (.reg F44_r24 [] [1,2,4,11,12,56,57,58,71,72,73] [1,2,4,11]))))) (.reg F44_r25 [] [1,2,4,11,12,56,57,58,71,72,73] [1,2,4,11])))
def F44_r26:List AIns:=[ii 99 (.fa 1 (.t 11)),
 ii 100 (.ld false none (.t 99)),
 ii 101 (.app 2 16 (.c (.slice .full 2 [])) (.t 100)),
 ii 102 (.fa 1 (.t 11)),
 ⟨none,none,.st false 1 (.t 102) (.t 101)⟩]
def F44_r27:List AIns:=[ii 103 (.mv (.t 12)),
 ii 104 (.fa 3 (.t 11)),
 ii 105 (.ld false (some 5) (.t 104)),
 ii 106 (.call (.f N58_) [(.t 103),(.t 105)]),
 ii 107 (.fa 3 (.t 11)),
 ⟨none,none,.st false 5 (.t 107) (.t 106)⟩]
def F44_r28:List AIns:=[ii 108 (.fa 1 (.t 4)),
 ii 109 (.ld false none (.t 108)),
 ii 110 (.ld false (some 8) (.t 11)),
 ii 111 (.bsl 8 [(.t 110)]),
 ii 112 (.app 8 136 (.t 109) (.t 111)),
 ii 113 (.fa 1 (.t 4)),
 ⟨none,none,.st false 1 (.t 113) (.t 112)⟩]
def F44_r29:List AIns:=[ii 114 (.bin .add (.t 58) (.c (.lit (.int .i64 1)))),
 ii 58 (.mv (.t 114))]
def F44_l3:AC:=.seq (.reg F44_r14 [] [1,2,4,56,57,58,59] [1,2,4]) (.seq (.cond (.t 59) (.skip) (.exit 4)) (.seq (.block 5 (.seq (.reg F44_r15 [] [1,2,4,11,56,57,58] [1,2,4,11]) (.seq (.reg F44_r16 [] [1,2,4,11,56,57,58] [1,2,4,11]) (.seq (.reg F44_r17 [] [1,2,4,11,12,56,57,58] [1,2,4,11]) (.seq (.seq (.reg F44_r18 [] [1,2,4,11,12,56,57,58,71,72,73] [1,2,4,11]) (.block 6 (.loop F44_l4))) (.seq (.reg F44_r26 [] [1,2,4,11,12,56,57,58] [1,2,4,11]) (.seq (.reg F44_r27 [] [1,2,4,11,56,57,58] [1,2,4,11]) (.reg F44_r28 [] [1,2,4,56,57,58] [1,2,4])))))))) (.reg F44_r29 [] [1,2,4,56,57,58] [1,2,4])))
def F44_r30:List AIns:=[ii 115 (.ld false (some 2) (.t 4)),
 ii 116 (.ld false (some 2) (.t 4)),
 ii 117 (.call (.f N41_) [(.t 116)]),
 ⟨none,none,.st false 2 (.t 2) (.t 115)⟩,
 ii 3 (.mv (.t 117))]
def F44_:AFun:=⟨1,.seq (.reg F44_r0 [] [1,2] [1,2]) (.seq (.reg F44_r1 [] [1,2,4] [1,2,4]) (.seq (.seq (.reg F44_r2 [] [1,2,4,18,19,20] [1,2,4]) (.block 0 (.loop F44_l1))) (.seq (.seq (.reg F44_r13 [] [1,2,4,56,57,58] [1,2,4]) (.block 4 (.loop F44_l3))) (.seq (.reg F44_r30 [] [2,3] [2]) (.ret))))),[.cell (some 2) 2,.t 3]⟩
def F45_r0:List AIns:=[ii 1 (.box false (.t 0)),
 ii 2 (.mv (.c (.lit (.bool false))))]
def F45_r1:List AIns:=[ii 10 (.ld true none (.t 1)),
 ii 11 (.len false (.t 10)),
 ii 12 (.bin .gtr (.t 11) (.c (.lit (.int .i64 8))))]
def F45_r2:List AIns:=[ii 2 (.mv (.c (.lit (.bool false))))]
def F45_r3:List AIns:=[ii 13 (.mkm .str),
 ii 14 (.mkm .str),
 ii 4 (.alloc false [.lit (.map none)]),
 ii 3 (.mv (.t 13)),
 ⟨none,none,.st true 1 (.t 4) (.t 14)⟩]
def F45_r4:List AIns:=[ii 15 (.mkf N59_ [] [(.t 4),(.t 1)]),
 ii 5 (.mv (.t 15))]
def F45_r5:List AIns:=[ii 16 (.ld true none (.t 1)),
 ii 17 (.len false (.t 16)),
 ii 18 (.mv (.c (.lit (.int .i64 0))))]
def F45_r6:List AIns:=[ii 19 (.bin .lss (.t 18) (.t 17))]
def F45_r7:List AIns:=[ii 20 (.ia 3 (.t 16) (.t 18)),
 ii 21 (.ld true (some 3) (.t 20)),
 ii 7 (.alloc true [.lit (.string ⟨#[]⟩),.lit (.bool false),.slice .full 2 []]),
 ⟨none,none,.st false 3 (.t 7) (.t 21)⟩]
def F45_r8:List AIns:=[ii 22 (.fa 0 (.t 7)),
 ii 23 (.ld false none (.t 22)),
 ii 24 (.call (.f N46_) [(.t 23)]),
 ii 25 (.unot (.t 24)),
 ii 26 (.mv (.t 25)),
 ⟨some 27,(some (26,false)),.mv (.t 3)⟩,
 ⟨some 28,(some (26,false)),.fa 0 (.t 7)⟩,
 ⟨some 29,(some (26,false)),.ld false none (.t 28)⟩,
 ⟨some 30,(some (26,false)),.lk .str (.lit (.bool false)) false (.t 27) (.t 29)⟩,
 ii 31 (.pick (.t 26) (.c (.lit (.bool true))) (.t 30)),
 ii 32 (.mv (.t 31)),
 ⟨some 33,(some (32,false)),.fa 2 (.t 7)⟩,
 ⟨some 34,(some (32,false)),.ld false none (.t 33)⟩,
 ⟨some 35,(some (32,false)),.len false (.t 34)⟩,
 ⟨some 36,(some (32,false)),.bin .lss (.t 35) (.c (.lit (.int .i64 1)))⟩,
 ii 37 (.pick (.t 32) (.c (.lit (.bool true))) (.t 36)),
 ii 38 (.mv (.t 37)),
 ⟨some 39,(some (38,false)),.fa 2 (.t 7)⟩,
 ⟨some 40,(some (38,false)),.ld false none (.t 39)⟩,
 ⟨some 41,(some (38,false)),.len false (.t 40)⟩,
 ⟨some 42,(some (38,false)),.bin .gtr (.t 41) (.c (.lit (.int .i64 6)))⟩,
 ii 43 (.pick (.t 38) (.c (.lit (.bool true))) (.t 42))]
def F45_r9:List AIns:=[ii 2 (.mv (.c (.lit (.bool false))))]
def F45_r10:List AIns:=[ii 44 (.mv (.t 3)),
 ii 45 (.fa 0 (.t 7)),
 ii 46 (.ld false none (.t 45)),
 ⟨none,none,.mu .str (.t 44) (.t 46) (.c (.lit (.bool true)))⟩]
def F45_r11:List AIns:=[ii 47 (.fa 2 (.t 7)),
 ii 48 (.ld false none (.t 47)),
 ii 49 (.len false (.t 48)),
 ii 50 (.mv (.c (.lit (.int .i64 0))))]
def F45_r12:List AIns:=[ii 51 (.bin .lss (.t 50) (.t 49))]
def F45_r13:List AIns:=[ii 52 (.ia 2 (.t 48) (.t 50)),
 ii 53 (.ld true (some 2) (.t 52)),
 ii 9 (.alloc true [.lit (.string ⟨#[]⟩),.slice .full 2 []]),
 ⟨none,none,.st false 2 (.t 9) (.t 53)⟩]
def F45_r14:List AIns:=[ii 54 (.mv (.t 5)),
 ii 55 (.ld false (some 2) (.t 9)),
 ii 56 (.call (.t 54) [(.t 55)]),
 ii 57 (.unot (.t 56))]
def F45_r15:List AIns:=[ii 2 (.mv (.c (.lit (.bool false))))]
def F45_r16:List AIns:=[ii 58 (.bin .add (.t 50) (.c (.lit (.int .i64 1)))),
 ii 50 (.mv (.t 58))]
def F45_l2:AC:=.seq (.reg F45_r12 [] [3,5,16,17,18,48,49,50,51] []) (.seq (.cond (.t 51) (.skip) (.exit 2)) (.seq (.block 3 (.seq (.reg F45_r13 [] [3,5,9,16,17,18,48,49,50] [9]) (.seq (.reg F45_r14 [] [3,5,16,17,18,48,49,50,57] []) (.cond (.t 57) (.seq (.reg F45_r15 [] [2] []) (.ret)) (.skip))))) (.reg F45_r16 [] [3,5,16,17,18,48,49,50] [])))
def F45_r17:List AIns:=[ii 59 (.bin .add (.t 18) (.c (.lit (.int .i64 1)))),
 ii 18 (.mv (.t 59))]
def F45_l1:AC:=.seq (.reg F45_r6 [] [3,5,16,17,18,19] []) (.seq (.cond (.t 19) (.skip) (.exit 0)) (.seq (.block 1 (.seq (.reg F45_r7 [] [3,5,7,16,17,18] [7]) (.seq (.seq (.reg F45_r8 [] [3,5,7,16,17,18,43] [7]) (.cond (.t 43) (.seq (.reg F45_r9 [] [2] []) (.ret)) (.skip))) (.seq (.reg F45_r10 [] [3,5,7,16,17,18] [7]) (.seq (.reg F45_r11 [] [3,5,16,17,18,48,49,50] []) (.block 2 (.loop F45_l2))))))) (.reg F45_r17 [] [3,5,16,17,18] [])))
def F45_r18:List AIns:=[ii 2 (.mv (.c (.lit (.bool true))))]
def F45_:AFun:=⟨1,.seq (.reg F45_r0 [] [1] []) (.seq (.seq (.reg F45_r1 [] [1,12] []) (.cond (.t 12) (.seq (.reg F45_r2 [] [2] []) (.ret)) (.skip))) (.seq (.reg F45_r3 [] [1,3,4] []) (.seq (.reg F45_r4 [] [1,3,5] []) (.seq (.seq (.reg F45_r5 [] [3,5,16,17,18] []) (.block 0 (.loop F45_l1))) (.seq (.reg F45_r18 [] [2] []) (.ret)))))),[.t 2]⟩
def F46_r0:List AIns:=[ii 2 (.mv (.c (.lit (.bool false))))]
def F46_r1:List AIns:=[ii 3 (.mv (.t 0)),
 ii 4 (.len true (.t 3)),
 ii 5 (.bin .geq (.t 4) (.c (.lit (.int .i64 1)))),
 ii 6 (.mv (.t 5)),
 ⟨some 7,(some (6,true)),.mv (.t 0)⟩,
 ⟨some 8,(some (6,true)),.len true (.t 7)⟩,
 ⟨some 9,(some (6,true)),.bin .leq (.t 8) (.c (.lit (.int .i64 10)))⟩,
 ii 10 (.pick (.t 6) (.t 9) (.c (.lit (.bool false)))),
 ii 11 (.mv (.t 10)),
 ⟨some 12,(some (11,true)),.mv (.t 0)⟩,
 ⟨some 13,(some (11,true)),.ixs (.t 12) (.c (.lit (.int .i64 0)))⟩,
 ⟨some 14,(some (11,true)),.call (.f N61_) [(.t 13)]⟩,
 ii 15 (.pick (.t 11) (.t 14) (.c (.lit (.bool false)))),
 ii 16 (.mv (.t 15)),
 ⟨some 17,(some (16,true)),.mv (.t 0)⟩,
 ⟨some 18,(some (16,true)),.call (.f N62_) [(.t 17)]⟩,
 ii 19 (.pick (.t 16) (.t 18) (.c (.lit (.bool false)))),
 ii 20 (.mv (.t 19)),
 ⟨some 21,(some (20,true)),.mv (.t 0)⟩,
 ⟨some 22,(some (20,true)),.bin .add (.c (.lit (.string ⟨#[32]⟩))) (.t 21)⟩,
 ⟨some 23,(some (20,true)),.bin .add (.t 22) (.c (.lit (.string ⟨#[32]⟩)))⟩,
 ⟨some 24,(some (20,true)),.call (.f N63_) [(.c (.lit (.string ⟨#[32,100,97,116,97,32,99,111,100,97,116,97,32,102,117,110,32,105,110,116,32,105,102,122,32,99,97,115,101,32,99,111,99,97,115,101,32,108,101,116,32,101,109,105,116,32,108,97,98,101,108,32,103,111,116,111,32]⟩))),(.t 23)]⟩,
 ⟨some 25,(some (20,true)),.unot (.t 24)⟩,
 ii 26 (.pick (.t 20) (.t 25) (.c (.lit (.bool false)))),
 ii 2 (.mv (.t 26))]
def F46_:AFun:=⟨1,.seq (.reg F46_r0 [] [0] []) (.seq (.reg F46_r1 [] [2] []) (.ret)),[.t 2]⟩
def F47_r0:List AIns:=[ii 4 (.mv (.c (.lit (.bool false))))]
def F47_r1:List AIns:=[ii 9 (.mv (.t 0)),
 ii 10 (.len false (.t 9)),
 ii 11 (.mv (.t 1)),
 ii 12 (.len false (.t 11)),
 ii 13 (.bin .neq (.t 10) (.t 12))]
def F47_r2:List AIns:=[ii 4 (.mv (.c (.lit (.bool false))))]
def F47_r3:List AIns:=[ii 14 (.mkm (.int2 .i64)),
 ii 5 (.mv (.t 14))]
def F47_r4:List AIns:=[ii 15 (.mv (.t 0)),
 ii 16 (.len false (.t 15)),
 ii 17 (.mv (.c (.lit (.int .i64 0))))]
def F47_r5:List AIns:=[ii 18 (.bin .lss (.t 17) (.t 16))]
def F47_r6:List AIns:=[ii 19 (.mv (.t 17)),
 ii 20 (.ia 1 (.t 15) (.t 17)),
 ii 21 (.ld true none (.t 20)),
 ii 6 (.mv (.t 19)),
 ii 7 (.mv (.t 21))]
def F47_r7:List AIns:=[ii 22 (.mv (.t 1)),
 ii 23 (.mv (.t 6)),
 ii 24 (.ia 1 (.t 22) (.t 23)),
 ii 25 (.ld true none (.t 24)),
 ii 26 (.call (.f N64_) [(.t 25)]),
 ii 27 (.mv (.t 7)),
 ii 28 (.build [.lit (.int .i64 0),.lit (.int .i64 0)] [(0,1,(.t 26)),(1,1,(.t 27))]),
 ii 8 (.alloc true [.lit (.int .i64 0),.lit (.int .i64 0)]),
 ⟨none,none,.st false 2 (.t 8) (.t 28)⟩]
def F47_r8:List AIns:=[ii 29 (.mv (.t 7)),
 ii 30 (.call (.f N65_) [(.t 29)]),
 ii 31 (.unot (.t 30)),
 ii 32 (.mv (.t 31)),
 ⟨some 33,(some (32,false)),.mv (.t 5)⟩,
 ⟨some 34,(some (32,false)),.ld false (some 2) (.t 8)⟩,
 ⟨some 35,(some (32,false)),.lk (.int2 .i64) (.lit (.bool false)) false (.t 33) (.t 34)⟩,
 ii 36 (.pick (.t 32) (.c (.lit (.bool true))) (.t 35))]
def F47_r9:List AIns:=[ii 4 (.mv (.c (.lit (.bool false))))]
def F47_r10:List AIns:=[ii 37 (.mv (.t 5)),
 ii 38 (.ld false (some 2) (.t 8)),
 ⟨none,none,.mu (.int2 .i64) (.t 37) (.t 38) (.c (.lit (.bool true)))⟩]
def F47_r11:List AIns:=[ii 39 (.bin .add (.t 17) (.c (.lit (.int .i64 1)))),
 ii 17 (.mv (.t 39))]
def F47_l1:AC:=.seq (.reg F47_r5 [] [1,5,15,16,17,18] []) (.seq (.cond (.t 18) (.skip) (.exit 0)) (.seq (.block 1 (.seq (.reg F47_r6 [] [1,5,6,7,15,16,17] []) (.seq (.reg F47_r7 [] [1,5,7,8,15,16,17] [8]) (.seq (.seq (.reg F47_r8 [] [1,5,8,15,16,17,36] [8]) (.cond (.t 36) (.seq (.reg F47_r9 [] [4] []) (.ret)) (.skip))) (.reg F47_r10 [] [1,5,15,16,17] []))))) (.reg F47_r11 [] [1,5,15,16,17] [])))
def F47_r12:List AIns:=[ii 4 (.mv (.c (.lit (.bool true))))]
def F47_:AFun:=⟨2,.seq (.reg F47_r0 [] [0,1] []) (.seq (.seq (.reg F47_r1 [] [0,1,13] []) (.cond (.t 13) (.seq (.reg F47_r2 [] [4] []) (.ret)) (.skip))) (.seq (.reg F47_r3 [] [0,1,5] []) (.seq (.seq (.reg F47_r4 [] [1,5,15,16,17] []) (.block 0 (.loop F47_l1))) (.seq (.reg F47_r12 [] [4] []) (.ret))))),[.t 4]⟩
def F48_r0:List AIns:=[ii 4 (.alloc true [.lit (.map none),.lit (.map none)])]
def F48_r1:List AIns:=[ii 10 (.mkm (.int .i64)),
 ii 11 (.mkm (.int .i64)),
 ii 12 (.build [.lit (.map none),.lit (.map none)] [(0,1,(.t 10)),(1,1,(.t 11))]),
 ii 5 (.alloc true [.lit (.map none),.lit (.map none)]),
 ⟨none,none,.st false 2 (.t 5) (.t 12)⟩]
def F48_r2:List AIns:=[ii 13 (.mv (.t 0)),
 ii 14 (.len false (.t 13)),
 ii 15 (.mv (.c (.lit (.int .i64 0))))]
def F48_r3:List AIns:=[ii 16 (.bin .lss (.t 15) (.t 14))]
def F48_r4:List AIns:=[ii 17 (.ia 1 (.t 13) (.t 15)),
 ii 18 (.ld true none (.t 17)),
 ii 7 (.mv (.t 18))]
def F48_r5:List AIns:=[ii 19 (.iaa 2 1 (.t 5) (.c (.lit (.int .i64 0)))),
 ii 20 (.ld false none (.t 19)),
 ii 21 (.mv (.t 7)),
 ⟨none,none,.mu (.int .i64) (.t 20) (.t 21) (.c (.lit (.bool true)))⟩]
def F48_r6:List AIns:=[ii 22 (.bin .add (.t 15) (.c (.lit (.int .i64 1)))),
 ii 15 (.mv (.t 22))]
def F48_l1:AC:=.seq (.reg F48_r3 [] [1,4,5,13,14,15,16] [4,5]) (.seq (.cond (.t 16) (.skip) (.exit 0)) (.seq (.block 1 (.seq (.reg F48_r4 [] [1,4,5,7,13,14,15] [4,5]) (.reg F48_r5 [] [1,4,5,13,14,15] [4,5]))) (.reg F48_r6 [] [1,4,5,13,14,15] [4,5])))
def F48_r7:List AIns:=[ii 23 (.mv (.t 1)),
 ii 24 (.len false (.t 23)),
 ii 25 (.mv (.c (.lit (.int .i64 0))))]
def F48_r8:List AIns:=[ii 26 (.bin .lss (.t 25) (.t 24))]
def F48_r9:List AIns:=[ii 27 (.ia 1 (.t 23) (.t 25)),
 ii 28 (.ld true none (.t 27)),
 ii 9 (.mv (.t 28))]
def F48_r10:List AIns:=[ii 29 (.iaa 2 1 (.t 5) (.c (.lit (.int .i64 1)))),
 ii 30 (.ld false none (.t 29)),
 ii 31 (.mv (.t 9)),
 ⟨none,none,.mu (.int .i64) (.t 30) (.t 31) (.c (.lit (.bool true)))⟩]
def F48_r11:List AIns:=[ii 32 (.bin .add (.t 25) (.c (.lit (.int .i64 1)))),
 ii 25 (.mv (.t 32))]
def F48_l2:AC:=.seq (.reg F48_r8 [] [4,5,23,24,25,26] [4,5]) (.seq (.cond (.t 26) (.skip) (.exit 2)) (.seq (.block 3 (.seq (.reg F48_r9 [] [4,5,9,23,24,25] [4,5]) (.reg F48_r10 [] [4,5,23,24,25] [4,5]))) (.reg F48_r11 [] [4,5,23,24,25] [4,5])))
def F48_r12:List AIns:=[ii 33 (.ld false (some 2) (.t 5)),
 ⟨none,none,.st false 2 (.t 4) (.t 33)⟩]
def F48_:AFun:=⟨2,.seq (.reg F48_r0 [] [0,1,4] [4]) (.seq (.reg F48_r1 [] [0,1,4,5] [4,5]) (.seq (.seq (.reg F48_r2 [] [1,4,5,13,14,15] [4,5]) (.block 0 (.loop F48_l1))) (.seq (.seq (.reg F48_r7 [] [4,5,23,24,25] [4,5]) (.block 2 (.loop F48_l2))) (.seq (.reg F48_r12 [] [4] [4]) (.ret))))),[.cell (some 2) 4]⟩
def F49_r0:List AIns:=[ii 3 (.box false (.t 0)),
 ii 6 (.mv (.c (.lit .nilFunc)))]
def F49_r1:List AIns:=[ii 7 (.alloc false [.slice .full 2 []])]
def F49_r2:List AIns:=[ii 11 (.mv (.t 1)),
 ii 12 (.len false (.t 11)),
 ii 13 (.mv (.c (.lit (.int .i64 0))))]
def F49_r3:List AIns:=[ii 14 (.bin .lss (.t 13) (.t 12))]
def F49_r4:List AIns:=[ii 15 (.mv (.t 13)),
 ii 16 (.ia 1 (.t 11) (.t 13)),
 ii 17 (.ld true none (.t 16)),
 ii 8 (.mv (.t 15)),
 ii 9 (.mv (.t 17))]
def F49_r5:List AIns:=[ii 18 (.mv (.t 2)),
 ii 19 (.mv (.t 8)),
 ii 20 (.ia 1 (.t 18) (.t 19)),
 ii 21 (.ld true none (.t 20)),
 ii 22 (.call (.f N64_) [(.t 21)]),
 ii 10 (.mv (.t 22))]
def F49_r6:List AIns:=[ii 23 (.mv (.t 10)),
 ii 24 (.iaa 2 1 (.t 3) (.t 23)),
 ii 25 (.ld true none (.t 24)),
 ii 26 (.mv (.t 9)),
 ii 27 (.lk (.int .i64) (.lit (.bool false)) false (.t 25) (.t 26)),
 ii 28 (.unot (.t 27))]
def F49_r7:List AIns:=[ii 29 (.mv (.t 10)),
 ii 30 (.iaa 2 1 (.t 3) (.t 29)),
 ii 31 (.ld true none (.t 30)),
 ii 32 (.mv (.t 9)),
 ⟨none,none,.mu (.int .i64) (.t 31) (.t 32) (.c (.lit (.bool true)))⟩]
def F49_r8:List AIns:=[ii 33 (.ld true none (.t 7)),
 ii 34 (.mv (.t 10)),
 ii 35 (.mv (.t 9)),
 ii 36 (.build [.lit (.int .i64 0),.lit (.int .i64 0)] [(0,1,(.t 34)),(1,1,(.t 35))]),
 ii 37 (.bsl 2 [(.t 36)]),
 ii 38 (.app 2 16 (.t 33) (.t 37)),
 ⟨none,none,.st true 1 (.t 7) (.t 38)⟩]
def F49_r9:List AIns:=[ii 39 (.bin .add (.t 13) (.c (.lit (.int .i64 1)))),
 ii 13 (.mv (.t 39))]
def F49_l1:AC:=.seq (.reg F49_r3 [] [2,3,7,11,12,13,14] []) (.seq (.cond (.t 14) (.skip) (.exit 0)) (.seq (.block 1 (.seq (.reg F49_r4 [] [2,3,7,8,9,11,12,13] []) (.seq (.reg F49_r5 [] [2,3,7,9,10,11,12,13] []) (.seq (.reg F49_r6 [] [2,3,7,9,10,11,12,13,28] []) (.cond (.t 28) (.seq (.reg F49_r7 [] [2,3,7,9,10,11,12,13] []) (.reg F49_r8 [] [2,3,7,11,12,13] [])) (.skip)))))) (.reg F49_r9 [] [2,3,7,11,12,13] [])))
def F49_r10:List AIns:=[ii 40 (.mkf N66_ [] [(.t 7),(.t 3)]),
 ii 6 (.mv (.t 40))]
def F49_:AFun:=⟨3,.seq (.reg F49_r0 [] [1,2,3] []) (.seq (.reg F49_r1 [] [1,2,3,7] []) (.seq (.seq (.reg F49_r2 [] [2,3,7,11,12,13] []) (.block 0 (.loop F49_l1))) (.seq (.reg F49_r10 [] [6] []) (.ret)))),[.t 6]⟩
def F50_r0:List AIns:=[ii 2 (.mv (.c (.slice .full 1 [])))]
def F50_r1:List AIns:=[ii 3 (.mv (.c (.slice .full 1 [])))]
def F50_r2:List AIns:=[ii 6 (.mv (.t 0)),
 ii 7 (.len false (.t 6)),
 ii 8 (.mv (.c (.lit (.int .i64 0))))]
def F50_r3:List AIns:=[ii 9 (.bin .lss (.t 8) (.t 7))]
def F50_r4:List AIns:=[ii 10 (.ia 2 (.t 6) (.t 8)),
 ii 11 (.ld true (some 2) (.t 10)),
 ii 5 (.alloc true [.lit (.int .i64 0),.lit (.bool false)]),
 ⟨none,none,.st false 2 (.t 5) (.t 11)⟩]
def F50_r5:List AIns:=[ii 12 (.mv (.t 3)),
 ii 13 (.fa 1 (.t 5)),
 ii 14 (.ld false none (.t 13)),
 ii 15 (.bsl 1 [(.t 14)]),
 ii 16 (.app 1 1 (.t 12) (.t 15)),
 ii 3 (.mv (.t 16))]
def F50_r6:List AIns:=[ii 17 (.bin .add (.t 8) (.c (.lit (.int .i64 1)))),
 ii 8 (.mv (.t 17))]
def F50_l1:AC:=.seq (.reg F50_r3 [] [3,6,7,8,9] []) (.seq (.cond (.t 9) (.skip) (.exit 0)) (.seq (.block 1 (.seq (.reg F50_r4 [] [3,5,6,7,8] [5]) (.reg F50_r5 [] [3,6,7,8] []))) (.reg F50_r6 [] [3,6,7,8] [])))
def F50_r7:List AIns:=[ii 18 (.mv (.t 3)),
 ii 2 (.mv (.t 18))]
def F50_:AFun:=⟨1,.seq (.reg F50_r0 [] [0] []) (.seq (.reg F50_r1 [] [0,3] []) (.seq (.seq (.reg F50_r2 [] [3,6,7,8] []) (.block 0 (.loop F50_l1))) (.seq (.reg F50_r7 [] [2] []) (.ret)))),[.t 2]⟩
def F51_r0:List AIns:=[ii 2 (.mv (.c (.lit (.int .i64 0))))]
def F51_r1:List AIns:=[ii 4 (.mv (.t 0)),
 ii 5 (.bin .lss (.t 4) (.c (.lit (.int .i64 0)))),
 ii 6 (.mv (.t 5)),
 ⟨some 7,(some (6,false)),.mv (.t 0)⟩,
 ⟨some 8,(some (6,false)),.bin .gtr (.t 7) (.c (.lit (.int .i64 14)))⟩,
 ii 9 (.pick (.t 6) (.c (.lit (.bool true))) (.t 8)),
 ii 3 (.mv (.t 9))]
def F51_r2:List AIns:=[ii 2 (.mv (.c (.lit (.int .i64 (-1)))))]
def F51_r3:List AIns:=[ii 11 (.mv (.t 0)),
 ii 12 (.bin .leq (.t 11) (.c (.lit (.int .i64 4)))),
 ii 10 (.mv (.t 12))]
def F51_r4:List AIns:=[ii 2 (.mv (.c (.lit (.int .i64 0))))]
def F51_r5:List AIns:=[ii 14 (.mv (.t 0)),
 ii 15 (.bin .leq (.t 14) (.c (.lit (.int .i64 8)))),
 ii 13 (.mv (.t 15))]
def F51_r6:List AIns:=[ii 2 (.mv (.c (.lit (.int .i64 1))))]
def F51_r7:List AIns:=[ii 2 (.mv (.c (.lit (.int .i64 2))))]
def F51_:AFun:=⟨1,.seq (.reg F51_r0 [] [0] []) (.seq (.block 0 (.seq (.reg F51_r1 [] [0,3] []) (.cond (.t 3) (.seq (.reg F51_r2 [] [2] []) (.ret)) (.seq (.reg F51_r3 [] [0,10] []) (.cond (.t 10) (.seq (.reg F51_r4 [] [2] []) (.ret)) (.seq (.reg F51_r5 [] [13] []) (.cond (.t 13) (.seq (.reg F51_r6 [] [2] []) (.ret)) (.skip)))))))) (.seq (.reg F51_r7 [] [2] []) (.ret))),[.t 2]⟩
def F52_r0:List AIns:=[ii 5 (.box true (.t 1)),
 ii 6 (.box true (.t 2)),
 ii 8 (.mv (.c (.lit (.bool false))))]
def F52_r1:List AIns:=[ii 14 (.mv (.t 0)),
 ii 15 (.nck (.t 14)),
 ii 16 (.fa 2 (.t 15)),
 ii 17 (.ld true none (.t 16)),
 ii 18 (.bin .sub (.t 17) (.c (.lit (.int .i64 1)))),
 ii 19 (.nck (.t 14)),
 ii 20 (.fa 2 (.t 19)),
 ⟨none,none,.st true 1 (.t 20) (.t 18)⟩]
def F52_r2:List AIns:=[ii 21 (.mv (.t 0)),
 ii 22 (.nck (.t 21)),
 ii 23 (.fa 2 (.t 22)),
 ii 24 (.ld true none (.t 23)),
 ii 25 (.bin .lss (.t 24) (.c (.lit (.int .i64 0)))),
 ii 26 (.mv (.t 25)),
 ⟨some 27,(some (26,false)),.mv (.t 3)⟩,
 ⟨some 28,(some (26,false)),.bin .gtr (.t 27) (.c (.lit (.int .i64 4000)))⟩,
 ii 29 (.pick (.t 26) (.c (.lit (.bool true))) (.t 28))]
def F52_r3:List AIns:=[ii 8 (.mv (.c (.lit (.bool false))))]
def F52_r4:List AIns:=[ii 30 (.fa 0 (.t 6)),
 ii 31 (.ld false none (.t 30)),
 ii 32 (.bin .neq (.t 31) (.c (.lit (.int .i64 4)))),
 ii 33 (.mv (.t 32)),
 ⟨some 34,(some (33,true)),.fa 0 (.t 6)⟩,
 ⟨some 35,(some (33,true)),.ld false none (.t 34)⟩,
 ⟨some 36,(some (33,true)),.bin .neq (.t 35) (.c (.lit (.int .i64 8)))⟩,
 ii 37 (.pick (.t 33) (.t 36) (.c (.lit (.bool false)))),
 ii 38 (.mv (.t 37)),
 ⟨some 39,(some (38,true)),.fa 4 (.t 6)⟩,
 ⟨some 40,(some (38,true)),.ld false none (.t 39)⟩,
 ⟨some 41,(some (38,true)),.len false (.t 40)⟩,
 ⟨some 42,(some (38,true)),.bin .neq (.t 41) (.c (.lit (.int .i64 0)))⟩,
 ii 43 (.pick (.t 38) (.t 42) (.c (.lit (.bool false))))]
def F52_r5:List AIns:=[ii 8 (.mv (.c (.lit (.bool false))))]
def F52_r6:List AIns:=[ii 44 (.fa 2 (.t 6)),
 ii 45 (.ld false none (.t 44)),
 ii 46 (.bin .geq (.t 45) (.c (.lit (.int .i64 0)))),
 ii 47 (.mv (.t 46)),
 ⟨some 48,(some (47,true)),.fa 2 (.t 6)⟩,
 ⟨some 49,(some (47,true)),.ld false none (.t 48)⟩,
 ⟨some 50,(some (47,true)),.mv (.t 0)⟩,
 ⟨some 51,(some (47,true)),.nck (.t 50)⟩,
 ⟨some 52,(some (47,true)),.fa 0 (.t 51)⟩,
 ⟨some 53,(some (47,true)),.ld true none (.t 52)⟩,
 ⟨some 54,(some (47,true)),.len false (.t 53)⟩,
 ⟨some 55,(some (47,true)),.bin .leq (.t 49) (.t 54)⟩,
 ii 56 (.pick (.t 47) (.t 55) (.c (.lit (.bool false)))),
 ii 9 (.mv (.t 56))]
def F52_r7:List AIns:=[ii 57 (.fa 0 (.t 6)),
 ii 58 (.ld false none (.t 57))]
def F52_r8:List AIns:=[ii 60 (.bin .eql (.t 58) (.c (.lit (.int .i64 0)))),
 ii 59 (.mv (.t 60))]
def F52_r9:List AIns:=[ii 61 (.bin .eql (.t 58) (.c (.lit (.int .i64 5)))),
 ii 59 (.mv (.t 61))]
def F52_r10:List AIns:=[ii 62 (.fa 2 (.t 6)),
 ii 63 (.ld false none (.t 62)),
 ii 64 (.bin .eql (.t 63) (.c (.lit (.int .i64 0)))),
 ii 65 (.mv (.t 64)),
 ⟨some 66,(some (65,true)),.fa 3 (.t 6)⟩,
 ⟨some 67,(some (65,true)),.ld false none (.t 66)⟩,
 ⟨some 68,(some (65,true)),.len false (.t 67)⟩,
 ⟨some 69,(some (65,true)),.bin .eql (.t 68) (.c (.lit (.int .i64 0)))⟩,
 ii 70 (.pick (.t 65) (.t 69) (.c (.lit (.bool false)))),
 ii 71 (.mv (.t 70)),
 ⟨some 72,(some (71,true)),.fa 1 (.t 6)⟩,
 ⟨some 73,(some (71,true)),.ld false none (.t 72)⟩,
 ⟨some 74,(some (71,true)),.call (.f N65_) [(.t 73)]⟩,
 ii 75 (.pick (.t 71) (.t 74) (.c (.lit (.bool false)))),
 ii 76 (.mv (.t 75)),
 ⟨some 77,(some (76,true)),.fa 0 (.t 6)⟩,
 ⟨some 78,(some (76,true)),.ld false none (.t 77)⟩,
 ⟨some 79,(some (76,true)),.call (.f N51_) [(.t 78)]⟩,
 ⟨some 80,(some (76,true)),.iaa 2 1 (.t 5) (.t 79)⟩,
 ⟨some 81,(some (76,true)),.ld false none (.t 80)⟩,
 ⟨some 82,(some (76,true)),.fa 1 (.t 6)⟩,
 ⟨some 83,(some (76,true)),.ld false none (.t 82)⟩,
 ⟨some 84,(some (76,true)),.lk (.int .i64) (.lit (.bool false)) false (.t 81) (.t 83)⟩,
 ii 85 (.pick (.t 76) (.t 84) (.c (.lit (.bool false)))),
 ii 8 (.mv (.t 85))]
def F52_r11:List AIns:=[ii 87 (.bin .eql (.t 58) (.c (.lit (.int .i64 1)))),
 ii 86 (.mv (.t 87))]
def F52_r12:List AIns:=[ii 88 (.fa 2 (.t 6)),
 ii 89 (.ld false none (.t 88)),
 ii 90 (.bin .eql (.t 89) (.c (.lit (.int .i64 0)))),
 ii 91 (.mv (.t 90)),
 ⟨some 92,(some (91,true)),.fa 3 (.t 6)⟩,
 ⟨some 93,(some (91,true)),.ld false none (.t 92)⟩,
 ⟨some 94,(some (91,true)),.len false (.t 93)⟩,
 ⟨some 95,(some (91,true)),.bin .eql (.t 94) (.c (.lit (.int .i64 0)))⟩,
 ii 96 (.pick (.t 91) (.t 95) (.c (.lit (.bool false)))),
 ii 8 (.mv (.t 96))]
def F52_r13:List AIns:=[ii 98 (.bin .eql (.t 58) (.c (.lit (.int .i64 2)))),
 ii 97 (.mv (.t 98))]
def F52_r14:List AIns:=[ii 99 (.bin .eql (.t 58) (.c (.lit (.int .i64 6)))),
 ii 97 (.mv (.t 99))]
def F52_r15:List AIns:=[ii 101 (.mv (.t 0)),
 ii 102 (.fa 2 (.t 6)),
 ii 103 (.ld false none (.t 102)),
 ii 104 (.fa 1 (.t 6)),
 ii 105 (.ld false none (.t 104)),
 ii 106 (.fa 0 (.t 6)),
 ii 107 (.ld false none (.t 106)),
 ii 108 (.bin .eql (.t 107) (.c (.lit (.int .i64 6)))),
 ii 109 (.call (.f N67_) [(.t 101),(.t 103),(.t 105),(.t 108)]),
 ii 100 (.mv (.t 109)),
 ii 110 (.ext (.t 100) 0),
 ii 111 (.ext (.t 100) 1),
 ii 10 (.alloc true [.lit (.string ⟨#[]⟩),.slice .full 2 []]),
 ⟨none,none,.st false 2 (.t 10) (.t 110)⟩,
 ii 11 (.mv (.t 111))]
def F52_r16:List AIns:=[ii 112 (.mv (.t 11)),
 ii 113 (.mv (.t 112)),
 ⟨some 114,(some (113,true)),.mv (.t 0)⟩,
 ⟨some 115,(some (113,true)),.ld false (some 2) (.t 5)⟩,
 ⟨some 116,(some (113,true)),.fa 3 (.t 6)⟩,
 ⟨some 117,(some (113,true)),.ld false none (.t 116)⟩,
 ⟨some 118,(some (113,true)),.fa 1 (.t 10)⟩,
 ⟨some 119,(some (113,true)),.ld false none (.t 118)⟩,
 ⟨some 120,(some (113,true)),.mv (.t 3)⟩,
 ⟨some 121,(some (113,true)),.call (.f N68_) [(.t 114),(.t 115),(.t 117),(.t 119),(.t 120)]⟩,
 ii 122 (.pick (.t 113) (.t 121) (.c (.lit (.bool false)))),
 ii 8 (.mv (.t 122))]
def F52_r17:List AIns:=[ii 124 (.bin .eql (.t 58) (.c (.lit (.int .i64 3)))),
 ii 123 (.mv (.t 124))]
def F52_r18:List AIns:=[ii 125 (.bin .eql (.t 58) (.c (.lit (.int .i64 7)))),
 ii 123 (.mv (.t 125))]
def F52_r19:List AIns:=[ii 126 (.mv (.t 9)),
 ii 127 (.unot (.t 126)),
 ii 128 (.mv (.t 127)),
 ⟨some 129,(some (128,false)),.fa 1 (.t 6)⟩,
 ⟨some 130,(some (128,false)),.ld false none (.t 129)⟩,
 ⟨some 131,(some (128,false)),.call (.f N65_) [(.t 130)]⟩,
 ⟨some 132,(some (128,false)),.unot (.t 131)⟩,
 ii 133 (.pick (.t 128) (.c (.lit (.bool true))) (.t 132))]
def F52_r20:List AIns:=[ii 8 (.mv (.c (.lit (.bool false))))]
def F52_r21:List AIns:=[ii 134 (.ld false (some 2) (.t 5)),
 ii 135 (.fa 1 (.t 6)),
 ii 136 (.ld false none (.t 135)),
 ii 137 (.bsl 1 [(.t 136)]),
 ii 138 (.fa 0 (.t 6)),
 ii 139 (.ld false none (.t 138)),
 ii 140 (.bin .eql (.t 139) (.c (.lit (.int .i64 3)))),
 ii 141 (.bsl 1 [(.t 140)]),
 ii 142 (.call (.f N49_) [(.t 134),(.t 137),(.t 141)]),
 ii 12 (.mv (.t 142))]
def F52_r22:List AIns:=[ii 143 (.mv (.t 0)),
 ii 144 (.ld false (some 2) (.t 5)),
 ii 145 (.fa 3 (.t 6)),
 ii 146 (.ld false none (.t 145)),
 ii 147 (.mv (.t 3)),
 ii 148 (.bsl 1 [(.c (.lit (.int .i64 2)))]),
 ii 149 (.call (.f N69_) [(.t 143),(.t 144),(.t 146),(.t 147),(.t 148)]),
 ii 13 (.mv (.t 149))]
def F52_r23:List AIns:=[ii 150 (.mv (.t 12)),
 ii 151 (.call (.t 150) [])]
def F52_r24:List AIns:=[ii 152 (.mv (.t 13)),
 ii 8 (.mv (.t 152))]
def F52_r25:List AIns:=[ii 154 (.bin .eql (.t 58) (.c (.lit (.int .i64 4)))),
 ii 153 (.mv (.t 154))]
def F52_r26:List AIns:=[ii 155 (.bin .eql (.t 58) (.c (.lit (.int .i64 8)))),
 ii 153 (.mv (.t 155))]
def F52_r27:List AIns:=[ii 156 (.fa 1 (.t 6)),
 ii 157 (.ld false none (.t 156)),
 ii 158 (.bin .eql (.t 157) (.c (.lit (.int .i64 0)))),
 ii 159 (.mv (.t 158)),
 ⟨some 160,(some (159,true)),.fa 3 (.t 6)⟩,
 ⟨some 161,(some (159,true)),.ld false none (.t 160)⟩,
 ⟨some 162,(some (159,true)),.len false (.t 161)⟩,
 ⟨some 163,(some (159,true)),.bin .eql (.t 162) (.c (.lit (.int .i64 0)))⟩,
 ii 164 (.pick (.t 159) (.t 163) (.c (.lit (.bool false)))),
 ii 165 (.mv (.t 164)),
 ⟨some 166,(some (165,true)),.fa 2 (.t 6)⟩,
 ⟨some 167,(some (165,true)),.ld false none (.t 166)⟩,
 ⟨some 168,(some (165,true)),.bin .geq (.t 167) (.c (.lit (.int .i64 1)))⟩,
 ii 169 (.pick (.t 165) (.t 168) (.c (.lit (.bool false)))),
 ii 170 (.mv (.t 169)),
 ⟨some 171,(some (170,true)),.mv (.t 9)⟩,
 ii 172 (.pick (.t 170) (.t 171) (.c (.lit (.bool false)))),
 ii 173 (.mv (.t 172)),
 ⟨some 174,(some (173,true)),.mv (.t 0)⟩,
 ⟨some 175,(some (173,true)),.nck (.t 174)⟩,
 ⟨some 176,(some (173,true)),.fa 0 (.t 175)⟩,
 ⟨some 177,(some (173,true)),.ld true none (.t 176)⟩,
 ⟨some 178,(some (173,true)),.fa 2 (.t 6)⟩,
 ⟨some 179,(some (173,true)),.ld false none (.t 178)⟩,
 ⟨some 180,(some (173,true)),.bin .sub (.t 179) (.c (.lit (.int .i64 1)))⟩,
 ⟨some 181,(some (173,true)),.ia 3 (.t 177) (.t 180)⟩,
 ⟨some 182,(some (173,true)),.fa 1 (.t 181)⟩,
 ⟨some 183,(some (173,true)),.ld true none (.t 182)⟩,
 ⟨some 184,(some (173,true)),.fa 0 (.t 6)⟩,
 ⟨some 185,(some (173,true)),.ld false none (.t 184)⟩,
 ⟨some 186,(some (173,true)),.bin .eql (.t 185) (.c (.lit (.int .i64 4)))⟩,
 ⟨some 187,(some (173,true)),.beq false (.t 183) (.t 186)⟩,
 ii 188 (.pick (.t 173) (.t 187) (.c (.lit (.bool false)))),
 ii 189 (.mv (.t 188)),
 ⟨some 190,(some (189,true)),.mv (.t 0)⟩,
 ⟨some 191,(some (189,true)),.ld false (some 2) (.t 5)⟩,
 ⟨some 192,(some (189,true)),.ld false (some 5) (.t 6)⟩,
 ⟨some 193,(some (189,true)),.mv (.t 3)⟩,
 ⟨some 194,(some (189,true)),.call (.f N70_) [(.t 190),(.t 191),(.t 192),(.t 193)]⟩,
 ii 195 (.pick (.t 189) (.t 194) (.c (.lit (.bool false)))),
 ii 8 (.mv (.t 195))]
def F52_r28:List AIns:=[ii 197 (.bin .eql (.t 58) (.c (.lit (.int .i64 9)))),
 ii 196 (.mv (.t 197))]
def F52_r29:List AIns:=[ii 198 (.fa 1 (.t 6)),
 ii 199 (.ld false none (.t 198)),
 ii 200 (.bin .eql (.t 199) (.c (.lit (.int .i64 0)))),
 ii 201 (.mv (.t 200)),
 ⟨some 202,(some (201,true)),.mv (.t 9)⟩,
 ii 203 (.pick (.t 201) (.t 202) (.c (.lit (.bool false)))),
 ii 204 (.mv (.t 203)),
 ⟨some 205,(some (204,true)),.mv (.t 0)⟩,
 ⟨some 206,(some (204,true)),.ld false (some 2) (.t 5)⟩,
 ⟨some 207,(some (204,true)),.fa 3 (.t 6)⟩,
 ⟨some 208,(some (204,true)),.ld false none (.t 207)⟩,
 ⟨some 209,(some (204,true)),.mv (.t 3)⟩,
 ⟨some 210,(some (204,true)),.bsl 1 [(.c (.lit (.int .i64 0))),(.c (.lit (.int .i64 1)))]⟩,
 ⟨some 211,(some (204,true)),.call (.f N69_) [(.t 205),(.t 206),(.t 208),(.t 209),(.t 210)]⟩,
 ii 212 (.pick (.t 204) (.t 211) (.c (.lit (.bool false)))),
 ii 8 (.mv (.t 212))]
def F52_r30:List AIns:=[ii 214 (.bin .eql (.t 58) (.c (.lit (.int .i64 10)))),
 ii 213 (.mv (.t 214))]
def F52_r31:List AIns:=[ii 215 (.fa 2 (.t 6)),
 ii 216 (.ld false none (.t 215)),
 ii 217 (.bin .eql (.t 216) (.c (.lit (.int .i64 0)))),
 ii 218 (.mv (.t 217)),
 ⟨some 219,(some (218,true)),.fa 1 (.t 6)⟩,
 ⟨some 220,(some (218,true)),.ld false none (.t 219)⟩,
 ⟨some 221,(some (218,true)),.bin .geq (.t 220) (.c (.lit (.int .i64 0)))⟩,
 ii 222 (.pick (.t 218) (.t 221) (.c (.lit (.bool false)))),
 ii 223 (.mv (.t 222)),
 ⟨some 224,(some (223,true)),.fa 1 (.t 6)⟩,
 ⟨some 225,(some (223,true)),.ld false none (.t 224)⟩,
 ⟨some 226,(some (223,true)),.bin .leq (.t 225) (.c (.lit (.int .i64 6)))⟩,
 ii 227 (.pick (.t 223) (.t 226) (.c (.lit (.bool false)))),
 ii 228 (.mv (.t 227)),
 ⟨some 229,(some (228,true)),.mv (.t 0)⟩,
 ⟨some 230,(some (228,true)),.ld false (some 2) (.t 5)⟩,
 ⟨some 231,(some (228,true)),.fa 3 (.t 6)⟩,
 ⟨some 232,(some (228,true)),.ld false none (.t 231)⟩,
 ⟨some 233,(some (228,true)),.mv (.t 3)⟩,
 ⟨some 234,(some (228,true)),.bsl 1 [(.c (.lit (.int .i64 0))),(.c (.lit (.int .i64 0))),(.c (.lit (.int .i64 1)))]⟩,
 ⟨some 235,(some (228,true)),.call (.f N69_) [(.t 229),(.t 230),(.t 232),(.t 233),(.t 234)]⟩,
 ii 236 (.pick (.t 228) (.t 235) (.c (.lit (.bool false)))),
 ii 8 (.mv (.t 236))]
def F52_r32:List AIns:=[ii 238 (.bin .eql (.t 58) (.c (.lit (.int .i64 11)))),
 ii 237 (.mv (.t 238))]
def F52_r33:List AIns:=[ii 239 (.fa 2 (.t 6)),
 ii 240 (.ld false none (.t 239)),
 ii 241 (.bin .eql (.t 240) (.c (.lit (.int .i64 0)))),
 ii 242 (.mv (.t 241)),
 ⟨some 243,(some (242,true)),.fa 1 (.t 6)⟩,
 ⟨some 244,(some (242,true)),.ld false none (.t 243)⟩,
 ⟨some 245,(some (242,true)),.bin .eql (.t 244) (.c (.lit (.int .i64 0)))⟩,
 ii 246 (.pick (.t 242) (.t 245) (.c (.lit (.bool false)))),
 ii 247 (.mv (.t 246)),
 ⟨some 248,(some (247,true)),.mv (.t 0)⟩,
 ⟨some 249,(some (247,true)),.ld false (some 2) (.t 5)⟩,
 ⟨some 250,(some (247,true)),.fa 3 (.t 6)⟩,
 ⟨some 251,(some (247,true)),.ld false none (.t 250)⟩,
 ⟨some 252,(some (247,true)),.mv (.t 3)⟩,
 ⟨some 253,(some (247,true)),.bsl 1 [(.c (.lit (.int .i64 0))),(.c (.lit (.int .i64 2))),(.c (.lit (.int .i64 2)))]⟩,
 ⟨some 254,(some (247,true)),.call (.f N69_) [(.t 248),(.t 249),(.t 251),(.t 252),(.t 253)]⟩,
 ii 255 (.pick (.t 247) (.t 254) (.c (.lit (.bool false)))),
 ii 8 (.mv (.t 255))]
def F52_r34:List AIns:=[ii 257 (.bin .eql (.t 58) (.c (.lit (.int .i64 12)))),
 ii 256 (.mv (.t 257))]
def F52_r35:List AIns:=[ii 258 (.fa 2 (.t 6)),
 ii 259 (.ld false none (.t 258)),
 ii 260 (.bin .eql (.t 259) (.c (.lit (.int .i64 0)))),
 ii 261 (.mv (.t 260)),
 ⟨some 262,(some (261,true)),.fa 1 (.t 6)⟩,
 ⟨some 263,(some (261,true)),.ld false none (.t 262)⟩,
 ⟨some 264,(some (261,true)),.bin .eql (.t 263) (.c (.lit (.int .i64 0)))⟩,
 ii 265 (.pick (.t 261) (.t 264) (.c (.lit (.bool false)))),
 ii 266 (.mv (.t 265)),
 ⟨some 267,(some (266,true)),.mv (.t 0)⟩,
 ⟨some 268,(some (266,true)),.ld false (some 2) (.t 5)⟩,
 ⟨some 269,(some (266,true)),.fa 3 (.t 6)⟩,
 ⟨some 270,(some (266,true)),.ld false none (.t 269)⟩,
 ⟨some 271,(some (266,true)),.mv (.t 3)⟩,
 ⟨some 272,(some (266,true)),.bsl 1 [(.c (.lit (.int .i64 0))),(.c (.lit (.int .i64 2)))]⟩,
 ⟨some 273,(some (266,true)),.call (.f N69_) [(.t 267),(.t 268),(.t 270),(.t 271),(.t 272)]⟩,
 ii 274 (.pick (.t 266) (.t 273) (.c (.lit (.bool false)))),
 ii 8 (.mv (.t 274))]
def F52_r36:List AIns:=[ii 276 (.bin .eql (.t 58) (.c (.lit (.int .i64 13)))),
 ii 275 (.mv (.t 276))]
def F52_r37:List AIns:=[ii 277 (.fa 2 (.t 6)),
 ii 278 (.ld false none (.t 277)),
 ii 279 (.bin .eql (.t 278) (.c (.lit (.int .i64 0)))),
 ii 280 (.mv (.t 279)),
 ⟨some 281,(some (280,true)),.fa 1 (.t 6)⟩,
 ⟨some 282,(some (280,true)),.ld false none (.t 281)⟩,
 ⟨some 283,(some (280,true)),.bin .geq (.t 282) (.c (.lit (.int .i64 0)))⟩,
 ii 284 (.pick (.t 280) (.t 283) (.c (.lit (.bool false)))),
 ii 285 (.mv (.t 284)),
 ⟨some 286,(some (285,true)),.fa 1 (.t 6)⟩,
 ⟨some 287,(some (285,true)),.ld false none (.t 286)⟩,
 ⟨some 288,(some (285,true)),.mv (.t 0)⟩,
 ⟨some 289,(some (285,true)),.nck (.t 288)⟩,
 ⟨some 290,(some (285,true)),.fa 1 (.t 289)⟩,
 ⟨some 291,(some (285,true)),.ld true none (.t 290)⟩,
 ⟨some 292,(some (285,true)),.len false (.t 291)⟩,
 ⟨some 293,(some (285,true)),.bin .lss (.t 287) (.t 292)⟩,
 ii 294 (.pick (.t 285) (.t 293) (.c (.lit (.bool false)))),
 ii 295 (.mv (.t 294)),
 ⟨some 296,(some (295,true)),.mv (.t 0)⟩,
 ⟨some 297,(some (295,true)),.ld false (some 2) (.t 5)⟩,
 ⟨some 298,(some (295,true)),.fa 3 (.t 6)⟩,
 ⟨some 299,(some (295,true)),.ld false none (.t 298)⟩,
 ⟨some 300,(some (295,true)),.mv (.t 0)⟩,
 ⟨some 301,(some (295,true)),.nck (.t 300)⟩,
 ⟨some 302,(some (295,true)),.fa 1 (.t 301)⟩,
 ⟨some 303,(some (295,true)),.ld true none (.t 302)⟩,
 ⟨some 304,(some (295,true)),.fa 1 (.t 6)⟩,
 ⟨some 305,(some (295,true)),.ld false none (.t 304)⟩,
 ⟨some 306,(some (295,true)),.ia 8 (.t 303) (.t 305)⟩,
 ⟨some 307,(some (295,true)),.fa 1 (.t 306)⟩,
 ⟨some 308,(some (295,true)),.ld true none (.t 307)⟩,
 ⟨some 309,(some (295,true)),.mv (.t 3)⟩,
 ⟨some 310,(some (295,true)),.call (.f N68_) [(.t 296),(.t 297),(.t 299),(.t 308),(.t 309)]⟩,
 ii 311 (.pick (.t 295) (.t 310) (.c (.lit (.bool false)))),
 ii 8 (.mv (.t 311))]
def F52_r38:List AIns:=[ii 313 (.bin .eql (.t 58) (.c (.lit (.int .i64 14)))),
 ii 312 (.mv (.t 313))]
def F52_r39:List AIns:=[ii 314 (.fa 2 (.t 6)),
 ii 315 (.ld false none (.t 314)),
 ii 316 (.bin .eql (.t 315) (.c (.lit (.int .i64 0)))),
 ii 317 (.mv (.t 316)),
 ⟨some 318,(some (317,true)),.fa 1 (.t 6)⟩,
 ⟨some 319,(some (317,true)),.ld false none (.t 318)⟩,
 ⟨some 320,(some (317,true)),.bin .eql (.t 319) (.c (.lit (.int .i64 0)))⟩,
 ii 321 (.pick (.t 317) (.t 320) (.c (.lit (.bool false)))),
 ii 322 (.mv (.t 321)),
 ⟨some 323,(some (322,true)),.mv (.t 0)⟩,
 ⟨some 324,(some (322,true)),.ld false (some 2) (.t 5)⟩,
 ⟨some 325,(some (322,true)),.fa 3 (.t 6)⟩,
 ⟨some 326,(some (322,true)),.ld false none (.t 325)⟩,
 ⟨some 327,(some (322,true)),.mv (.t 3)⟩,
 ⟨some 328,(some (322,true)),.bsl 1 [(.c (.lit (.int .i64 0)))]⟩,
 ⟨some 329,(some (322,true)),.call (.f N69_) [(.t 323),(.t 324),(.t 326),(.t 327),(.t 328)]⟩,
 ii 330 (.pick (.t 322) (.t 329) (.c (.lit (.bool false)))),
 ii 8 (.mv (.t 330))]
def F52_r40:List AIns:=[ii 8 (.mv (.c (.lit (.bool false))))]
def F52_:AFun:=⟨4,.seq (.reg F52_r0 [] [0,3,5,6] [5,6]) (.seq (.reg F52_r1 [] [0,3,5,6] [5,6]) (.seq (.seq (.reg F52_r2 [] [0,3,5,6,29] [5,6]) (.cond (.t 29) (.seq (.reg F52_r3 [] [8] []) (.ret)) (.skip))) (.seq (.seq (.reg F52_r4 [] [0,3,5,6,43] [5,6]) (.cond (.t 43) (.seq (.reg F52_r5 [] [8] []) (.ret)) (.skip))) (.seq (.reg F52_r6 [] [0,3,5,6,9] [5,6]) (.seq (.seq (.reg F52_r7 [] [0,3,5,6,9,58] [5,6]) (.block 0 (.seq (.seq (.reg F52_r8 [] [0,3,5,6,9,58,59] [5,6]) (.cond (.t 59) (.skip) (.reg F52_r9 [] [0,3,5,6,9,58,59] [5,6]))) (.cond (.t 59) (.seq (.reg F52_r10 [] [8] []) (.ret)) (.seq (.reg F52_r11 [] [0,3,5,6,9,58,86] [5,6]) (.cond (.t 86) (.seq (.reg F52_r12 [] [8] []) (.ret)) (.seq (.seq (.reg F52_r13 [] [0,3,5,6,9,58,97] [5,6]) (.cond (.t 97) (.skip) (.reg F52_r14 [] [0,3,5,6,9,58,97] [5,6]))) (.cond (.t 97) (.seq (.reg F52_r15 [] [0,3,5,6,10,11] [5,6,10]) (.seq (.reg F52_r16 [] [8] []) (.ret))) (.seq (.seq (.reg F52_r17 [] [0,3,5,6,9,58,123] [5,6]) (.cond (.t 123) (.skip) (.reg F52_r18 [] [0,3,5,6,9,58,123] [5,6]))) (.cond (.t 123) (.seq (.seq (.reg F52_r19 [] [0,3,5,6,133] [5,6]) (.cond (.t 133) (.seq (.reg F52_r20 [] [8] []) (.ret)) (.skip))) (.seq (.reg F52_r21 [] [0,3,5,6,12] [5,6]) (.seq (.reg F52_r22 [] [12,13] []) (.seq (.reg F52_r23 [] [13] []) (.seq (.reg F52_r24 [] [8] []) (.ret)))))) (.seq (.seq (.reg F52_r25 [] [0,3,5,6,9,58,153] [5,6]) (.cond (.t 153) (.skip) (.reg F52_r26 [] [0,3,5,6,9,58,153] [5,6]))) (.cond (.t 153) (.seq (.reg F52_r27 [] [8] []) (.ret)) (.seq (.reg F52_r28 [] [0,3,5,6,9,58,196] [5,6]) (.cond (.t 196) (.seq (.reg F52_r29 [] [8] []) (.ret)) (.seq (.reg F52_r30 [] [0,3,5,6,58,213] [5,6]) (.cond (.t 213) (.seq (.reg F52_r31 [] [8] []) (.ret)) (.seq (.reg F52_r32 [] [0,3,5,6,58,237] [5,6]) (.cond (.t 237) (.seq (.reg F52_r33 [] [8] []) (.ret)) (.seq (.reg F52_r34 [] [0,3,5,6,58,256] [5,6]) (.cond (.t 256) (.seq (.reg F52_r35 [] [8] []) (.ret)) (.seq (.reg F52_r36 [] [0,3,5,6,58,275] [5,6]) (.cond (.t 275) (.seq (.reg F52_r37 [] [8] []) (.ret)) (.seq (.reg F52_r38 [] [0,3,5,6,312] [5,6]) (.cond (.t 312) (.seq (.reg F52_r39 [] [8] []) (.ret)) (.skip))))))))))))))))))))))))) (.seq (.reg F52_r40 [] [8] []) (.ret))))))),[.t 8]⟩
def F53_r0:List AIns:=[ii 1 (.box true (.t 0)),
 ii 2 (.mv (.c (.lit (.pointer none))))]
def F53_r1:List AIns:=[ii 4 (.ld false (some 2) (.t 1)),
 ii 5 (.mkm (.int .i64)),
 ii 6 (.mkm (.int .i64)),
 ii 7 (.build [.lit (.map none),.lit (.map none)] [(0,1,(.t 5)),(1,1,(.t 6))]),
 ii 8 (.build [.slice .full 3 [],.slice .full 8 [],.lit (.map none),.lit (.map none),.lit .nilFunc,.lit .nilFunc,.lit .nilFunc,.lit .nilFunc,.lit .nilFunc,.lit .nilFunc,.lit .nilFunc,.lit .nilFunc,.lit .nilFunc,.lit .nilFunc,.lit .nilFunc,.lit .nilFunc,.lit .nilFunc,.lit .nilFunc,.lit .nilFunc] [(0,2,(.t 4)),(2,2,(.t 7))]),
 ii 9 (.box false (.t 8)),
 ii 3 (.mv (.t 9))]
def F53_r2:List AIns:=[ii 10 (.mv (.t 3)),
 ii 11 (.mv (.t 3)),
 ii 12 (.mkf N71_ [(.t 11)] []),
 ii 13 (.mv (.t 3)),
 ii 14 (.mkf N72_ [(.t 13)] []),
 ii 15 (.mv (.t 3)),
 ii 16 (.mkf N73_ [(.t 15)] []),
 ii 17 (.mv (.t 3)),
 ii 18 (.mkf N74_ [(.t 17)] []),
 ii 19 (.mv (.t 3)),
 ii 20 (.mkf N75_ [(.t 19)] []),
 ii 21 (.mv (.t 3)),
 ii 22 (.mkf N71_ [(.t 21)] []),
 ii 23 (.mv (.t 3)),
 ii 24 (.mkf N73_ [(.t 23)] []),
 ii 25 (.mv (.t 3)),
 ii 26 (.mkf N74_ [(.t 25)] []),
 ii 27 (.mv (.t 3)),
 ii 28 (.mkf N75_ [(.t 27)] []),
 ii 29 (.mv (.t 3)),
 ii 30 (.mkf N76_ [(.t 29)] []),
 ii 31 (.mv (.t 3)),
 ii 32 (.mkf N77_ [(.t 31)] []),
 ii 33 (.mv (.t 3)),
 ii 34 (.mkf N78_ [(.t 33)] []),
 ii 35 (.mv (.t 3)),
 ii 36 (.mkf N78_ [(.t 35)] []),
 ii 37 (.mv (.t 3)),
 ii 38 (.mkf N79_ [(.t 37)] []),
 ii 39 (.mv (.t 3)),
 ii 40 (.mkf N78_ [(.t 39)] []),
 ii 41 (.build [.lit .nilFunc,.lit .nilFunc,.lit .nilFunc,.lit .nilFunc,.lit .nilFunc,.lit .nilFunc,.lit .nilFunc,.lit .nilFunc,.lit .nilFunc,.lit .nilFunc,.lit .nilFunc,.lit .nilFunc,.lit .nilFunc,.lit .nilFunc,.lit .nilFunc] [(0,1,(.t 12)),(1,1,(.t 14)),(2,1,(.t 16)),(3,1,(.t 18)),(4,1,(.t 20)),(5,1,(.t 22)),(6,1,(.t 24)),(7,1,(.t 26)),(8,1,(.t 28)),(9,1,(.t 30)),(10,1,(.t 32)),(11,1,(.t 34)),(12,1,(.t 36)),(13,1,(.t 38)),(14,1,(.t 40))]),
 ii 42 (.nck (.t 10)),
 ii 43 (.fa 4 (.t 42)),
 ⟨none,none,.st true 15 (.t 43) (.t 41)⟩]
def F53_r3:List AIns:=[ii 44 (.mv (.t 3)),
 ii 2 (.mv (.t 44))]
def F53_:AFun:=⟨1,.seq (.reg F53_r0 [] [1] [1]) (.seq (.reg F53_r1 [] [3] []) (.seq (.reg F53_r2 [] [3] []) (.seq (.reg F53_r3 [] [2] []) (.ret)))),[.t 2]⟩
def F54_r0:List AIns:=[ii 3 (.box false (.t 0)),
 ii 6 (.mv (.c (.lit .nilFunc)))]
def F54_r1:List AIns:=[ii 7 (.alloc false [.slice .full 4 []])]
def F54_r2:List AIns:=[ii 13 (.mv (.t 1)),
 ii 14 (.len false (.t 13)),
 ii 15 (.mv (.c (.lit (.int .i64 0))))]
def F54_r3:List AIns:=[ii 16 (.bin .lss (.t 15) (.t 14))]
def F54_r4:List AIns:=[ii 17 (.mv (.t 15)),
 ii 18 (.ia 1 (.t 13) (.t 15)),
 ii 19 (.ld true none (.t 18)),
 ii 8 (.mv (.t 17)),
 ii 9 (.mv (.t 19))]
def F54_r5:List AIns:=[ii 20 (.mv (.t 2)),
 ii 21 (.mv (.t 8)),
 ii 22 (.ia 2 (.t 20) (.t 21)),
 ii 23 (.fa 1 (.t 22)),
 ii 24 (.ld true none (.t 23)),
 ii 25 (.call (.f N80_) [(.t 24)]),
 ii 10 (.mv (.t 25))]
def F54_r6:List AIns:=[ii 27 (.ld true none (.t 3)),
 ii 28 (.mv (.t 10)),
 ii 29 (.nck (.t 27)),
 ii 30 (.fa 2 (.t 29)),
 ii 31 (.iaa 2 1 (.t 30) (.t 28)),
 ii 32 (.ld true none (.t 31)),
 ii 33 (.mv (.t 9)),
 ii 34 (.lk (.int .i64) (.lit (.int .i64 0)) true (.t 32) (.t 33)),
 ii 26 (.mv (.t 34)),
 ii 35 (.ext (.t 26) 0),
 ii 36 (.ext (.t 26) 1),
 ii 11 (.mv (.t 35)),
 ii 12 (.mv (.t 36))]
def F54_r7:List AIns:=[ii 37 (.ld true none (.t 7)),
 ii 38 (.mv (.t 10)),
 ii 39 (.mv (.t 9)),
 ii 40 (.mv (.t 11)),
 ii 41 (.mv (.t 12)),
 ii 42 (.build [.lit (.int .i64 0),.lit (.int .i64 0),.lit (.int .i64 0),.lit (.bool false)] [(0,1,(.t 38)),(1,1,(.t 39)),(2,1,(.t 40)),(3,1,(.t 41))]),
 ii 43 (.bsl 4 [(.t 42)]),
 ii 44 (.app 4 32 (.t 37) (.t 43)),
 ⟨none,none,.st true 1 (.t 7) (.t 44)⟩]
def F54_r8:List AIns:=[ii 45 (.ld true none (.t 3)),
 ii 46 (.mv (.t 10)),
 ii 47 (.nck (.t 45)),
 ii 48 (.fa 2 (.t 47)),
 ii 49 (.iaa 2 1 (.t 48) (.t 46)),
 ii 50 (.ld true none (.t 49)),
 ii 51 (.mv (.t 9)),
 ii 52 (.mv (.t 2)),
 ii 53 (.mv (.t 8)),
 ii 54 (.ia 2 (.t 52) (.t 53)),
 ii 55 (.fa 0 (.t 54)),
 ii 56 (.ld true none (.t 55)),
 ⟨none,none,.mu (.int .i64) (.t 50) (.t 51) (.t 56)⟩]
def F54_r9:List AIns:=[ii 57 (.bin .add (.t 15) (.c (.lit (.int .i64 1)))),
 ii 15 (.mv (.t 57))]
def F54_l1:AC:=.seq (.reg F54_r3 [] [2,3,7,13,14,15,16] []) (.seq (.cond (.t 16) (.skip) (.exit 0)) (.seq (.block 1 (.seq (.reg F54_r4 [] [2,3,7,8,9,13,14,15] []) (.seq (.reg F54_r5 [] [2,3,7,8,9,10,13,14,15] []) (.seq (.reg F54_r6 [] [2,3,7,8,9,10,11,12,13,14,15] []) (.seq (.reg F54_r7 [] [2,3,7,8,9,10,13,14,15] []) (.reg F54_r8 [] [2,3,7,13,14,15] [])))))) (.reg F54_r9 [] [2,3,7,13,14,15] [])))
def F54_r10:List AIns:=[ii 58 (.mkf N81_ [] [(.t 7),(.t 3)]),
 ii 6 (.mv (.t 58))]
def F54_:AFun:=⟨3,.seq (.reg F54_r0 [] [1,2,3] []) (.seq (.reg F54_r1 [] [1,2,3,7] []) (.seq (.seq (.reg F54_r2 [] [2,3,7,13,14,15] []) (.block 0 (.loop F54_l1))) (.seq (.reg F54_r10 [] [6] []) (.ret)))),[.t 6]⟩
def F55_r0:List AIns:=[ii 3 (.box true (.t 1)),
 ii 4 (.mv (.c (.lit (.int .i64 0)))),
 ii 5 (.mv (.c (.lit (.bool false))))]
def F55_r1:List AIns:=[ii 6 (.mv (.t 0)),
 ii 7 (.fa 0 (.t 3)),
 ii 8 (.ld false none (.t 7)),
 ii 9 (.nck (.t 6)),
 ii 10 (.fa 4 (.t 9)),
 ii 11 (.iaa 15 1 (.t 10) (.t 8)),
 ii 12 (.ld true none (.t 11)),
 ii 13 (.ld false (some 5) (.t 3)),
 ii 14 (.call (.t 12) [(.t 13)]),
 ii 15 (.ext (.t 14) 0),
 ii 16 (.ext (.t 14) 1),
 ii 4 (.mv (.t 15)),
 ii 5 (.mv (.t 16))]
def F55_:AFun:=⟨2,.seq (.reg F55_r0 [] [0,3] [3]) (.seq (.reg F55_r1 [] [4,5] []) (.ret)),[.t 4,.t 5]⟩
def F56_r0:List AIns:=[ii 1 (.box true (.t 0)),
 ii 2 (.alloc true [.lit (.string ⟨#[]⟩),.slice .full 2 [],.slice .full 1 [],.lit (.int .i64 0),.lit (.int .i64 0),.lit (.int .i64 0),.slice .full 5 [],.slice .full 7 []])]
def F56_r1:List AIns:=[ii 12 (.call (.f N82_) []),
 ii 3 (.alloc true [.lit (.map none),.lit (.map none)]),
 ⟨none,none,.st false 2 (.t 3) (.t 12)⟩]
def F56_r2:List AIns:=[ii 4 (.mv (.c (.slice .full 1 [])))]
def F56_r3:List AIns:=[ii 5 (.alloc true [.lit (.int .i64 0),.lit (.int .i64 0)])]
def F56_r4:List AIns:=[ii 13 (.fa 1 (.t 1)),
 ii 14 (.ld false none (.t 13)),
 ii 15 (.len false (.t 14)),
 ii 16 (.mv (.c (.lit (.int .i64 0))))]
def F56_r5:List AIns:=[ii 17 (.bin .lss (.t 16) (.t 15))]
def F56_r6:List AIns:=[ii 18 (.mv (.t 16)),
 ii 19 (.ia 2 (.t 14) (.t 16)),
 ii 20 (.ld true (some 2) (.t 19)),
 ii 7 (.alloc true [.lit (.int .i64 0),.lit (.bool false)]),
 ii 6 (.mv (.t 18)),
 ⟨none,none,.st false 2 (.t 7) (.t 20)⟩]
def F56_r7:List AIns:=[ii 8 (.mv (.c (.lit (.int .i64 0)))),
 ii 9 (.mv (.c (.lit (.int .i64 0))))]
def F56_r8:List AIns:=[ii 21 (.fa 1 (.t 7)),
 ii 22 (.ld false none (.t 21))]
def F56_r9:List AIns:=[ii 8 (.mv (.c (.lit (.int .i64 1)))),
 ii 9 (.mv (.c (.lit (.int .i64 5))))]
def F56_r10:List AIns:=[ii 23 (.mv (.t 8)),
 ii 24 (.iaa 2 1 (.t 3) (.t 23)),
 ii 25 (.ld false none (.t 24)),
 ii 26 (.fa 2 (.t 1)),
 ii 27 (.ld false none (.t 26)),
 ii 28 (.mv (.t 6)),
 ii 29 (.ia 1 (.t 27) (.t 28)),
 ii 30 (.ld true none (.t 29)),
 ii 31 (.mv (.t 9)),
 ii 32 (.mv (.t 8)),
 ii 33 (.iaa 2 1 (.t 5) (.t 32)),
 ii 34 (.ld false none (.t 33)),
 ii 35 (.build [.lit (.int .i64 0),.lit (.int .i64 0),.lit (.int .i64 0),.slice .full 5 [],.slice .full 7 []] [(0,1,(.t 31)),(1,1,(.t 34))]),
 ⟨none,none,.mu (.int .i64) (.t 25) (.t 30) (.t 35)⟩]
def F56_r11:List AIns:=[ii 36 (.mv (.t 4)),
 ii 37 (.mv (.t 8)),
 ii 38 (.iaa 2 1 (.t 5) (.t 37)),
 ii 39 (.ld false none (.t 38)),
 ii 40 (.bsl 1 [(.t 39)]),
 ii 41 (.app 1 8 (.t 36) (.t 40)),
 ii 4 (.mv (.t 41))]
def F56_r12:List AIns:=[ii 42 (.mv (.t 8)),
 ii 43 (.iaa 2 1 (.t 5) (.t 42)),
 ii 44 (.ld false none (.t 43)),
 ii 45 (.bin .add (.t 44) (.c (.lit (.int .i64 1)))),
 ii 46 (.iaa 2 1 (.t 5) (.t 42)),
 ⟨none,none,.st false 1 (.t 46) (.t 45)⟩]
def F56_r13:List AIns:=[ii 47 (.bin .add (.t 16) (.c (.lit (.int .i64 1)))),
 ii 16 (.mv (.t 47))]
def F56_l1:AC:=.seq (.reg F56_r5 [] [1,2,3,4,5,14,15,16,17] [1,2,3,5]) (.seq (.cond (.t 17) (.skip) (.exit 0)) (.seq (.block 1 (.seq (.reg F56_r6 [] [1,2,3,4,5,6,7,14,15,16] [1,2,3,5,7]) (.seq (.reg F56_r7 [] [1,2,3,4,5,6,7,8,9,14,15,16] [1,2,3,5,7]) (.seq (.seq (.reg F56_r8 [] [1,2,3,4,5,6,8,9,14,15,16,22] [1,2,3,5]) (.cond (.t 22) (.reg F56_r9 [] [1,2,3,4,5,6,8,9,14,15,16] [1,2,3,5]) (.skip))) (.seq (.reg F56_r10 [] [1,2,3,4,5,8,14,15,16] [1,2,3,5]) (.seq (.reg F56_r11 [] [1,2,3,4,5,8,14,15,16] [1,2,3,5]) (.reg F56_r12 [] [1,2,3,4,5,14,15,16] [1,2,3,5]))))))) (.reg F56_r13 [] [1,2,3,4,5,14,15,16] [1,2,3,5])))
def F56_r14:List AIns:=[ii 49 (.fa 3 (.t 1)),
 ii 50 (.ld false (some 5) (.t 49)),
 ii 51 (.ld false (some 2) (.t 3)),
 ii 52 (.call (.f N83_) [(.t 50),(.t 51),(.c (.lit (.int .i64 1099511627776)))]),
 ii 48 (.mv (.t 52)),
 ii 53 (.ext (.t 48) 0),
 ii 54 (.ext (.t 48) 1),
 ii 10 (.alloc true [.lit (.int .i64 0),.lit (.int .i64 0),.lit (.int .i64 0),.slice .full 5 [],.slice .full 7 []]),
 ⟨none,none,.st false 5 (.t 10) (.t 53)⟩,
 ii 11 (.mv (.t 54))]
def F56_r15:List AIns:=[ii 55 (.mv (.t 4)),
 ii 56 (.ld false (some 5) (.t 10)),
 ii 57 (.fa 2 (.t 1)),
 ⟨none,none,.st false 1 (.t 57) (.t 55)⟩,
 ii 58 (.fa 3 (.t 1)),
 ⟨none,none,.st false 5 (.t 58) (.t 56)⟩]
def F56_r16:List AIns:=[ii 59 (.ld false (some 8) (.t 1)),
 ⟨none,none,.st false 8 (.t 2) (.t 59)⟩]
def F56_:AFun:=⟨1,.seq (.reg F56_r0 [] [1,2] [1,2]) (.seq (.reg F56_r1 [] [1,2,3] [1,2,3]) (.seq (.reg F56_r2 [] [1,2,3,4] [1,2,3]) (.seq (.reg F56_r3 [] [1,2,3,4,5] [1,2,3,5]) (.seq (.seq (.reg F56_r4 [] [1,2,3,4,5,14,15,16] [1,2,3,5]) (.block 0 (.loop F56_l1))) (.seq (.reg F56_r14 [] [1,2,4,10] [1,2,10]) (.seq (.regd F56_r15 [] [1,2] [1,2] [[],[],[0],[2,0,0],[0,1,2,3],[4,1,3,0,1,2,3]]) (.seq (.reg F56_r16 [] [2] [2]) (.ret)))))))),[.cell (some 8) 2]⟩
def F57_r0:List AIns:=[ii 1 (.box true (.t 0)),
 ii 2 (.alloc true [.lit (.int .i64 0),.lit (.int .i64 0)])]
def F57_r1:List AIns:=[ii 3 (.alloc false [.lit (.int .i64 0),.lit (.int .i64 0)])]
def F57_r2:List AIns:=[ii 12 (.mkf N84_ [] [(.t 3)]),
 ii 4 (.mv (.t 12))]
def F57_r3:List AIns:=[ii 13 (.fa 0 (.t 1)),
 ii 14 (.ld false none (.t 13))]
def F57_r4:List AIns:=[ii 16 (.bin .eql (.t 14) (.c (.lit (.int .i64 0)))),
 ii 15 (.mv (.t 16))]
def F57_r5:List AIns:=[ii 17 (.bin .eql (.t 14) (.c (.lit (.int .i64 7)))),
 ii 15 (.mv (.t 17))]
def F57_r6:List AIns:=[ii 18 (.mv (.t 4)),
 ii 19 (.fa 1 (.t 1)),
 ii 20 (.ld false none (.t 19)),
 ii 21 (.call (.t 18) [(.c (.lit (.bool false))),(.t 20)])]
def F57_r7:List AIns:=[ii 23 (.bin .eql (.t 14) (.c (.lit (.int .i64 5)))),
 ii 22 (.mv (.t 23))]
def F57_r8:List AIns:=[ii 24 (.bin .eql (.t 14) (.c (.lit (.int .i64 3)))),
 ii 22 (.mv (.t 24))]
def F57_r9:List AIns:=[ii 25 (.mv (.t 4)),
 ii 26 (.fa 1 (.t 1)),
 ii 27 (.ld false none (.t 26)),
 ii 28 (.call (.t 25) [(.c (.lit (.bool true))),(.t 27)])]
def F57_r10:List AIns:=[ii 29 (.mkf N85_ [] [(.t 3)]),
 ii 5 (.mv (.t 29))]
def F57_r11:List AIns:=[ii 30 (.fa 3 (.t 1)),
 ii 31 (.ld false none (.t 30)),
 ii 32 (.len false (.t 31)),
 ii 33 (.mv (.c (.lit (.int .i64 0))))]
def F57_r12:List AIns:=[ii 34 (.bin .lss (.t 33) (.t 32))]
def F57_r13:List AIns:=[ii 35 (.ia 5 (.t 31) (.t 33)),
 ii 36 (.ld true (some 5) (.t 35)),
 ii 7 (.alloc true [.lit (.int .i64 0),.lit (.int .i64 0),.lit (.int .i64 0),.slice .full 5 [],.slice .full 7 []]),
 ⟨none,none,.st false 5 (.t 7) (.t 36)⟩]
def F57_r14:List AIns:=[ii 37 (.mv (.t 5)),
 ii 38 (.ld false (some 5) (.t 7)),
 ii 39 (.call (.f N57_) [(.t 38)]),
 ii 40 (.call (.t 37) [(.t 39)])]
def F57_r15:List AIns:=[ii 41 (.bin .add (.t 33) (.c (.lit (.int .i64 1)))),
 ii 33 (.mv (.t 41))]
def F57_l1:AC:=.seq (.reg F57_r12 [] [1,2,3,4,5,31,32,33,34] [1,2]) (.seq (.cond (.t 34) (.skip) (.exit 1)) (.seq (.block 2 (.seq (.reg F57_r13 [] [1,2,3,4,5,7,31,32,33] [1,2,7]) (.reg F57_r14 [] [1,2,3,4,5,31,32,33] [1,2]))) (.reg F57_r15 [] [1,2,3,4,5,31,32,33] [1,2])))
def F57_r16:List AIns:=[ii 42 (.fa 4 (.t 1)),
 ii 43 (.ld false none (.t 42)),
 ii 44 (.len false (.t 43)),
 ii 45 (.mv (.c (.lit (.int .i64 0))))]
def F57_r17:List AIns:=[ii 46 (.bin .lss (.t 45) (.t 44))]
def F57_r18:List AIns:=[ii 47 (.ia 7 (.t 43) (.t 45)),
 ii 48 (.ld true (some 7) (.t 47)),
 ii 9 (.alloc true [.slice .full 1 [],.slice .full 1 [],.lit (.int .i64 0),.lit (.int .i64 0),.lit (.int .i64 0),.slice .full 5 [],.slice .full 7 []]),
 ⟨none,none,.st false 7 (.t 9) (.t 48)⟩]
def F57_r19:List AIns:=[ii 49 (.fa 0 (.t 9)),
 ii 50 (.ld false none (.t 49)),
 ii 51 (.len false (.t 50)),
 ii 52 (.mv (.c (.lit (.int .i64 0))))]
def F57_r20:List AIns:=[ii 53 (.bin .lss (.t 52) (.t 51))]
def F57_r21:List AIns:=[ii 54 (.mv (.t 52)),
 ii 55 (.ia 1 (.t 50) (.t 52)),
 ii 56 (.ld true none (.t 55)),
 ii 10 (.mv (.t 54)),
 ii 11 (.mv (.t 56))]
def F57_r22:List AIns:=[ii 57 (.mv (.t 4)),
 ii 58 (.fa 1 (.t 9)),
 ii 59 (.ld false none (.t 58)),
 ii 60 (.mv (.t 10)),
 ii 61 (.ia 1 (.t 59) (.t 60)),
 ii 62 (.ld true none (.t 61)),
 ii 63 (.mv (.t 11)),
 ii 64 (.call (.t 57) [(.t 62),(.t 63)])]
def F57_r23:List AIns:=[ii 65 (.bin .add (.t 52) (.c (.lit (.int .i64 1)))),
 ii 52 (.mv (.t 65))]
def F57_l3:AC:=.seq (.reg F57_r20 [] [2,3,4,5,9,43,44,45,50,51,52,53] [2,9]) (.seq (.cond (.t 53) (.skip) (.exit 5)) (.seq (.block 6 (.seq (.reg F57_r21 [] [2,3,4,5,9,10,11,43,44,45,50,51,52] [2,9]) (.reg F57_r22 [] [2,3,4,5,9,43,44,45,50,51,52] [2,9]))) (.reg F57_r23 [] [2,3,4,5,9,43,44,45,50,51,52] [2,9])))
def F57_r24:List AIns:=[ii 66 (.mv (.t 5)),
 ii 67 (.fa 2 (.t 9)),
 ii 68 (.ld false (some 5) (.t 67)),
 ii 69 (.call (.f N57_) [(.t 68)]),
 ii 70 (.call (.t 66) [(.t 69)])]
def F57_r25:List AIns:=[ii 71 (.bin .add (.t 45) (.c (.lit (.int .i64 1)))),
 ii 45 (.mv (.t 71))]
def F57_l2:AC:=.seq (.reg F57_r17 [] [2,3,4,5,43,44,45,46] [2]) (.seq (.cond (.t 46) (.skip) (.exit 3)) (.seq (.block 4 (.seq (.reg F57_r18 [] [2,3,4,5,9,43,44,45] [2,9]) (.seq (.seq (.reg F57_r19 [] [2,3,4,5,9,43,44,45,50,51,52] [2,9]) (.block 5 (.loop F57_l3))) (.reg F57_r24 [] [2,3,4,5,43,44,45] [2])))) (.reg F57_r25 [] [2,3,4,5,43,44,45] [2])))
def F57_r26:List AIns:=[ii 72 (.ld true (some 2) (.t 3)),
 ⟨none,none,.st false 2 (.t 2) (.t 72)⟩]
def F57_:AFun:=⟨1,.seq (.reg F57_r0 [] [1,2] [1,2]) (.seq (.reg F57_r1 [] [1,2,3] [1,2]) (.seq (.reg F57_r2 [] [1,2,3,4] [1,2]) (.seq (.seq (.reg F57_r3 [] [1,2,3,4,14] [1,2]) (.block 0 (.seq (.seq (.reg F57_r4 [] [1,2,3,4,14,15] [1,2]) (.cond (.t 15) (.skip) (.reg F57_r5 [] [1,2,3,4,14,15] [1,2]))) (.cond (.t 15) (.reg F57_r6 [] [1,2,3,4] [1,2]) (.seq (.seq (.reg F57_r7 [] [1,2,3,4,14,22] [1,2]) (.cond (.t 22) (.skip) (.reg F57_r8 [] [1,2,3,4,22] [1,2]))) (.cond (.t 22) (.reg F57_r9 [] [1,2,3,4] [1,2]) (.skip))))))) (.seq (.reg F57_r10 [] [1,2,3,4,5] [1,2]) (.seq (.seq (.reg F57_r11 [] [1,2,3,4,5,31,32,33] [1,2]) (.block 1 (.loop F57_l1))) (.seq (.seq (.reg F57_r16 [] [2,3,4,5,43,44,45] [2]) (.block 3 (.loop F57_l2))) (.seq (.reg F57_r26 [] [2] [2]) (.ret)))))))),[.cell (some 2) 2]⟩
def F58_r0:List AIns:=[ii 3 (.box true (.t 1)),
 ii 4 (.alloc true [.lit (.int .i64 0),.lit (.int .i64 0),.lit (.int .i64 0),.slice .full 5 [],.slice .full 7 []])]
def F58_r1:List AIns:=[ii 11 (.fa 0 (.t 3)),
 ii 12 (.ld false none (.t 11)),
 ii 13 (.call (.f N51_) [(.t 12)]),
 ii 14 (.bin .eql (.t 13) (.c (.lit (.int .i64 2))))]
def F58_r2:List AIns:=[ii 15 (.mv (.t 0)),
 ii 16 (.ld false (some 5) (.t 3)),
 ii 17 (.call (.f N86_) [(.t 15),(.t 16)]),
 ⟨none,none,.st false 5 (.t 4) (.t 17)⟩]
def F58_r3:List AIns:=[ii 18 (.fa 3 (.t 3)),
 ii 19 (.ld false none (.t 18)),
 ii 20 (.fa 4 (.t 3)),
 ii 21 (.ld false none (.t 20)),
 ii 5 (.mv (.t 19)),
 ii 6 (.mv (.t 21))]
def F58_r4:List AIns:=[ii 22 (.fa 3 (.t 3)),
 ⟨none,none,.st false 1 (.t 22) (.c (.slice .full 5 []))⟩,
 ii 23 (.fa 4 (.t 3)),
 ⟨none,none,.st false 1 (.t 23) (.c (.slice .full 7 []))⟩]
def F58_r5:List AIns:=[ii 24 (.mv (.t 5)),
 ii 25 (.len false (.t 24)),
 ii 26 (.mv (.c (.lit (.int .i64 0))))]
def F58_r6:List AIns:=[ii 27 (.bin .lss (.t 26) (.t 25))]
def F58_r7:List AIns:=[ii 28 (.ia 5 (.t 24) (.t 26)),
 ii 29 (.ld true (some 5) (.t 28)),
 ii 8 (.alloc true [.lit (.int .i64 0),.lit (.int .i64 0),.lit (.int .i64 0),.slice .full 5 [],.slice .full 7 []]),
 ⟨none,none,.st false 5 (.t 8) (.t 29)⟩]
def F58_r8:List AIns:=[ii 30 (.fa 3 (.t 3)),
 ii 31 (.ld false none (.t 30)),
 ii 32 (.mv (.t 0)),
 ii 33 (.ld false (some 5) (.t 8)),
 ii 34 (.call (.f N58_) [(.t 32),(.t 33)]),
 ii 35 (.bsl 5 [(.t 34)]),
 ii 36 (.app 5 72 (.t 31) (.t 35)),
 ii 37 (.fa 3 (.t 3)),
 ⟨none,none,.st false 1 (.t 37) (.t 36)⟩]
def F58_r9:List AIns:=[ii 38 (.bin .add (.t 26) (.c (.lit (.int .i64 1)))),
 ii 26 (.mv (.t 38))]
def F58_l1:AC:=.seq (.reg F58_r6 [] [0,3,4,6,24,25,26,27] [3,4]) (.seq (.cond (.t 27) (.skip) (.exit 0)) (.seq (.block 1 (.seq (.reg F58_r7 [] [0,3,4,6,8,24,25,26] [3,4,8]) (.reg F58_r8 [] [0,3,4,6,24,25,26] [3,4]))) (.reg F58_r9 [] [0,3,4,6,24,25,26] [3,4])))
def F58_r10:List AIns:=[ii 39 (.mv (.t 6)),
 ii 40 (.len false (.t 39)),
 ii 41 (.mv (.c (.lit (.int .i64 0))))]
def F58_r11:List AIns:=[ii 42 (.bin .lss (.t 41) (.t 40))]
def F58_r12:List AIns:=[ii 43 (.ia 7 (.t 39) (.t 41)),
 ii 44 (.ld true (some 7) (.t 43)),
 ii 10 (.alloc true [.slice .full 1 [],.slice .full 1 [],.lit (.int .i64 0),.lit (.int .i64 0),.lit (.int .i64 0),.slice .full 5 [],.slice .full 7 []]),
 ⟨none,none,.st false 7 (.t 10) (.t 44)⟩]
def F58_r13:List AIns:=[ii 45 (.fa 4 (.t 3)),
 ii 46 (.ld false none (.t 45)),
 ii 47 (.fa 0 (.t 10)),
 ii 48 (.ld false none (.t 47)),
 ii 49 (.app 1 8 (.c (.slice .full 1 [])) (.t 48)),
 ii 50 (.fa 1 (.t 10)),
 ii 51 (.ld false none (.t 50)),
 ii 52 (.app 1 1 (.c (.slice .full 1 [])) (.t 51)),
 ii 53 (.mv (.t 0)),
 ii 54 (.fa 2 (.t 10)),
 ii 55 (.ld false (some 5) (.t 54)),
 ii 56 (.call (.f N58_) [(.t 53),(.t 55)]),
 ii 57 (.build [.slice .full 1 [],.slice .full 1 [],.lit (.int .i64 0),.lit (.int .i64 0),.lit (.int .i64 0),.slice .full 5 [],.slice .full 7 []] [(0,1,(.t 49)),(1,1,(.t 52)),(2,5,(.t 56))]),
 ii 58 (.bsl 7 [(.t 57)]),
 ii 59 (.app 7 120 (.t 46) (.t 58)),
 ii 60 (.fa 4 (.t 3)),
 ⟨none,none,.st false 1 (.t 60) (.t 59)⟩]
def F58_r14:List AIns:=[ii 61 (.bin .add (.t 41) (.c (.lit (.int .i64 1)))),
 ii 41 (.mv (.t 61))]
def F58_l2:AC:=.seq (.reg F58_r11 [] [0,3,4,39,40,41,42] [3,4]) (.seq (.cond (.t 42) (.skip) (.exit 2)) (.seq (.block 3 (.seq (.reg F58_r12 [] [0,3,4,10,39,40,41] [3,4,10]) (.reg F58_r13 [] [0,3,4,39,40,41] [3,4]))) (.reg F58_r14 [] [0,3,4,39,40,41] [3,4])))
def F58_r15:List AIns:=[ii 62 (.ld false (some 5) (.t 3)),
 ⟨none,none,.st false 5 (.t 4) (.t 62)⟩]
def F58_:AFun:=⟨2,.seq (.reg F58_r0 [] [0,3,4] [3,4]) (.seq (.seq (.reg F58_r1 [] [0,3,4,14] [3,4]) (.cond (.t 14) (.seq (.reg F58_r2 [] [4] [4]) (.ret)) (.skip))) (.seq (.reg F58_r3 [] [0,3,4,5,6] [3,4]) (.seq (.reg F58_r4 [] [0,3,4,5,6] [3,4]) (.seq (.seq (.reg F58_r5 [] [0,3,4,6,24,25,26] [3,4]) (.block 0 (.loop F58_l1))) (.seq (.seq (.reg F58_r10 [] [0,3,4,39,40,41] [3,4]) (.block 2 (.loop F58_l2))) (.seq (.reg F58_r15 [] [4] [4]) (.ret))))))),[.cell (some 5) 4]⟩
def F59_r0:List AIns:=[ii 3 (.box true (.t 0)),
 ii 4 (.mv (.c (.lit (.bool false))))]
def F59_r1:List AIns:=[ii 7 (.fa 0 (.t 3)),
 ii 8 (.ld false none (.t 7)),
 ii 9 (.call (.f N60_) [(.t 8)]),
 ii 10 (.unot (.t 9)),
 ii 11 (.mv (.t 10)),
 ⟨some 12,(some (11,false)),.ld true none (.t 1)⟩,
 ⟨some 13,(some (11,false)),.fa 0 (.t 3)⟩,
 ⟨some 14,(some (11,false)),.ld false none (.t 13)⟩,
 ⟨some 15,(some (11,false)),.lk .str (.lit (.bool false)) false (.t 12) (.t 14)⟩,
 ii 16 (.pick (.t 11) (.c (.lit (.bool true))) (.t 15)),
 ii 17 (.mv (.t 16)),
 ⟨some 18,(some (17,false)),.fa 1 (.t 3)⟩,
 ⟨some 19,(some (17,false)),.ld false none (.t 18)⟩,
 ⟨some 20,(some (17,false)),.len false (.t 19)⟩,
 ⟨some 21,(some (17,false)),.bin .gtr (.t 20) (.c (.lit (.int .i64 6)))⟩,
 ii 22 (.pick (.t 17) (.c (.lit (.bool true))) (.t 21))]
def F59_r2:List AIns:=[ii 4 (.mv (.c (.lit (.bool false))))]
def F59_r3:List AIns:=[ii 23 (.ld true none (.t 1)),
 ii 24 (.fa 0 (.t 3)),
 ii 25 (.ld false none (.t 24)),
 ⟨none,none,.mu .str (.t 23) (.t 25) (.c (.lit (.bool true)))⟩]
def F59_r4:List AIns:=[ii 26 (.fa 1 (.t 3)),
 ii 27 (.ld false none (.t 26)),
 ii 28 (.len false (.t 27)),
 ii 29 (.mv (.c (.lit (.int .i64 0))))]
def F59_r5:List AIns:=[ii 30 (.bin .lss (.t 29) (.t 28))]
def F59_r6:List AIns:=[ii 31 (.ia 2 (.t 27) (.t 29)),
 ii 32 (.ld true (some 2) (.t 31)),
 ii 6 (.alloc true [.lit (.int .i64 0),.lit (.bool false)]),
 ⟨none,none,.st false 2 (.t 6) (.t 32)⟩]
def F59_r7:List AIns:=[ii 33 (.fa 0 (.t 6)),
 ii 34 (.ld false none (.t 33)),
 ii 35 (.bin .lss (.t 34) (.c (.lit (.int .i64 0)))),
 ii 36 (.mv (.t 35)),
 ⟨some 37,(some (36,false)),.fa 0 (.t 6)⟩,
 ⟨some 38,(some (36,false)),.ld false none (.t 37)⟩,
 ⟨some 39,(some (36,false)),.ld true none (.t 2)⟩,
 ⟨some 40,(some (36,false)),.len false (.t 39)⟩,
 ⟨some 41,(some (36,false)),.bin .gtr (.t 38) (.t 40)⟩,
 ii 42 (.pick (.t 36) (.c (.lit (.bool true))) (.t 41))]
def F59_r8:List AIns:=[ii 4 (.mv (.c (.lit (.bool false))))]
def F59_r9:List AIns:=[ii 43 (.bin .add (.t 29) (.c (.lit (.int .i64 1)))),
 ii 29 (.mv (.t 43))]
def F59_l1:AC:=.seq (.reg F59_r5 [] [2,27,28,29,30] []) (.seq (.cond (.t 30) (.skip) (.exit 0)) (.seq (.block 1 (.seq (.reg F59_r6 [] [2,6,27,28,29] [6]) (.seq (.reg F59_r7 [] [2,27,28,29,42] []) (.cond (.t 42) (.seq (.reg F59_r8 [] [4] []) (.ret)) (.skip))))) (.reg F59_r9 [] [2,27,28,29] [])))
def F59_r10:List AIns:=[ii 4 (.mv (.c (.lit (.bool true))))]
def F59_:AFun:=⟨3,.seq (.reg F59_r0 [] [1,2,3] [3]) (.seq (.seq (.reg F59_r1 [] [1,2,3,22] [3]) (.cond (.t 22) (.seq (.reg F59_r2 [] [4] []) (.ret)) (.skip))) (.seq (.reg F59_r3 [] [2,3] [3]) (.seq (.seq (.reg F59_r4 [] [2,27,28,29] []) (.block 0 (.loop F59_l1))) (.seq (.reg F59_r10 [] [4] []) (.ret))))),[.t 4]⟩
def F60_r0:List AIns:=[ii 2 (.mv (.c (.lit (.bool false))))]
def F60_r1:List AIns:=[ii 3 (.mv (.t 0)),
 ii 4 (.len true (.t 3)),
 ii 5 (.bin .geq (.t 4) (.c (.lit (.int .i64 1)))),
 ii 6 (.mv (.t 5)),
 ⟨some 7,(some (6,true)),.mv (.t 0)⟩,
 ⟨some 8,(some (6,true)),.len true (.t 7)⟩,
 ⟨some 9,(some (6,true)),.bin .leq (.t 8) (.c (.lit (.int .i64 10)))⟩,
 ii 10 (.pick (.t 6) (.t 9) (.c (.lit (.bool false)))),
 ii 11 (.mv (.t 10)),
 ⟨some 12,(some (11,true)),.mv (.t 0)⟩,
 ⟨some 13,(some (11,true)),.ixs (.t 12) (.c (.lit (.int .i64 0)))⟩,
 ⟨some 14,(some (11,true)),.bin .geq (.t 13) (.c (.lit (.int .u8 65)))⟩,
 ii 15 (.pick (.t 11) (.t 14) (.c (.lit (.bool false)))),
 ii 16 (.mv (.t 15)),
 ⟨some 17,(some (16,true)),.mv (.t 0)⟩,
 ⟨some 18,(some (16,true)),.ixs (.t 17) (.c (.lit (.int .i64 0)))⟩,
 ⟨some 19,(some (16,true)),.bin .leq (.t 18) (.c (.lit (.int .u8 90)))⟩,
 ii 20 (.pick (.t 16) (.t 19) (.c (.lit (.bool false)))),
 ii 21 (.mv (.t 20)),
 ⟨some 22,(some (21,true)),.mv (.t 0)⟩,
 ⟨some 23,(some (21,true)),.sls (.t 22) (some (.c (.lit (.int .i64 1)))) none⟩,
 ⟨some 24,(some (21,true)),.call (.f N62_) [(.t 23)]⟩,
 ii 25 (.pick (.t 21) (.t 24) (.c (.lit (.bool false)))),
 ii 2 (.mv (.t 25))]
def F60_:AFun:=⟨1,.seq (.reg F60_r0 [] [0] []) (.seq (.reg F60_r1 [] [2] []) (.ret)),[.t 2]⟩
def F61_r0:List AIns:=[ii 2 (.mv (.c (.lit (.bool false))))]
def F61_r1:List AIns:=[ii 3 (.mv (.t 0)),
 ii 4 (.bin .geq (.t 3) (.c (.lit (.int .u8 97)))),
 ii 5 (.mv (.t 4)),
 ⟨some 6,(some (5,true)),.mv (.t 0)⟩,
 ⟨some 7,(some (5,true)),.bin .leq (.t 6) (.c (.lit (.int .u8 122)))⟩,
 ii 8 (.pick (.t 5) (.t 7) (.c (.lit (.bool false)))),
 ii 2 (.mv (.t 8))]
def F61_:AFun:=⟨1,.seq (.reg F61_r0 [] [0] []) (.seq (.reg F61_r1 [] [2] []) (.ret)),[.t 2]⟩
def F62_r0:List AIns:=[ii 2 (.mv (.c (.lit (.bool false))))]
def F62_r1:List AIns:=[ii 3 (.mv (.c (.lit (.int .i64 0))))]
def F62_r2:List AIns:=[ii 4 (.mv (.t 3)),
 ii 5 (.mv (.t 0)),
 ii 6 (.len true (.t 5)),
 ii 7 (.bin .lss (.t 4) (.t 6))]
def F62_r4:List AIns:=[ii 10 (.mv (.t 0)),
 ii 11 (.mv (.t 3)),
 ii 12 (.ixs (.t 10) (.t 11)),
 ii 13 (.call (.f N61_) [(.t 12)]),
 ii 14 (.unot (.t 13)),
 ii 15 (.mv (.t 14)),
 ⟨some 16,(some (15,true)),.mv (.t 0)⟩,
 ⟨some 17,(some (15,true)),.mv (.t 3)⟩,
 ⟨some 18,(some (15,true)),.ixs (.t 16) (.t 17)⟩,
 ⟨some 19,(some (15,true)),.bin .lss (.t 18) (.c (.lit (.int .u8 48)))⟩,
 ⟨some 20,(some (15,true)),.mv (.t 19)⟩,
 ⟨some 21,(some (20,false)),.mv (.t 0)⟩,
 ⟨some 22,(some (20,false)),.mv (.t 3)⟩,
 ⟨some 23,(some (20,false)),.ixs (.t 21) (.t 22)⟩,
 ⟨some 24,(some (20,false)),.bin .gtr (.t 23) (.c (.lit (.int .u8 57)))⟩,
 ⟨some 25,(some (15,true)),.pick (.t 20) (.c (.lit (.bool true))) (.t 24)⟩,
 ii 26 (.pick (.t 15) (.t 25) (.c (.lit (.bool false))))]
def F62_r5:List AIns:=[ii 2 (.mv (.c (.lit (.bool false))))]
def F62_r3:List AIns:=[ii 8 (.mv (.t 3)),
 ii 9 (.bin .add (.t 8) (.c (.lit (.int .i64 1)))),
 ii 3 (.mv (.t 9))]
def F62_l1:AC:=.seq (.seq (.reg F62_r2 [] [0,3,7] []) (.cond (.t 7) (.skip) (.exit 0))) (.seq (.block 1 (.seq (.reg F62_r4 [] [0,3,26] []) (.cond (.t 26) (.seq (.reg F62_r5 [] [2] []) (.ret)) (.skip)))) (.reg F62_r3 [] [0,3] []))
def F62_r6:List AIns:=[ii 2 (.mv (.c (.lit (.bool true))))]
def F62_:AFun:=⟨1,.seq (.reg F62_r0 [] [0] []) (.seq (.seq (.reg F62_r1 [] [0,3] []) (.block 0 (.loop F62_l1))) (.seq (.reg F62_r6 [] [2] []) (.ret))),[.t 2]⟩
def F64_r0:List AIns:=[ii 2 (.mv (.c (.lit (.int .i64 0))))]
def F64_r1:List AIns:=[ii 3 (.mv (.t 0))]
def F64_r2:List AIns:=[ii 2 (.mv (.c (.lit (.int .i64 1))))]
def F64_r3:List AIns:=[ii 2 (.mv (.c (.lit (.int .i64 0))))]
def F64_:AFun:=⟨1,.seq (.reg F64_r0 [] [0] []) (.seq (.seq (.reg F64_r1 [] [3] []) (.cond (.t 3) (.seq (.reg F64_r2 [] [2] []) (.ret)) (.skip))) (.seq (.reg F64_r3 [] [2] []) (.ret))),[.t 2]⟩
def F65_r0:List AIns:=[ii 2 (.mv (.c (.lit (.bool false))))]
def F65_r1:List AIns:=[ii 3 (.mv (.t 0)),
 ii 4 (.bin .geq (.t 3) (.c (.lit (.int .i64 0)))),
 ii 5 (.mv (.t 4)),
 ⟨some 6,(some (5,true)),.mv (.t 0)⟩,
 ⟨some 7,(some (5,true)),.bin .leq (.t 6) (.c (.lit (.int .i64 1048576)))⟩,
 ii 8 (.pick (.t 5) (.t 7) (.c (.lit (.bool false)))),
 ii 2 (.mv (.t 8))]
def F65_:AFun:=⟨1,.seq (.reg F65_r0 [] [0] []) (.seq (.reg F65_r1 [] [2] []) (.ret)),[.t 2]⟩
def F66_r0:List AIns:=[ii 4 (.ld true none (.t 0)),
 ii 5 (.len false (.t 4)),
 ii 6 (.mv (.c (.lit (.int .i64 0))))]
def F66_r1:List AIns:=[ii 7 (.bin .lss (.t 6) (.t 5))]
def F66_r2:List AIns:=[ii 8 (.ia 2 (.t 4) (.t 6)),
 ii 9 (.ld true (some 2) (.t 8)),
 ii 3 (.alloc true [.lit (.int .i64 0),.lit (.int .i64 0)]),
 ⟨none,none,.st false 2 (.t 3) (.t 9)⟩]
def F66_r3:List AIns:=[ii 10 (.iaa 2 1 (.t 3) (.c (.lit (.int .i64 0)))),
 ii 11 (.ld false none (.t 10)),
 ii 12 (.iaa 2 1 (.t 1) (.t 11)),
 ii 13 (.ld true none (.t 12)),
 ii 14 (.iaa 2 1 (.t 3) (.c (.lit (.int .i64 1)))),
 ii 15 (.ld false none (.t 14)),
 ⟨none,none,.dl (.int .i64) (.t 13) (.t 15)⟩]
def F66_r4:List AIns:=[ii 16 (.bin .add (.t 6) (.c (.lit (.int .i64 1)))),
 ii 6 (.mv (.t 16))]
def F66_l1:AC:=.seq (.reg F66_r1 [] [1,4,5,6,7] []) (.seq (.cond (.t 7) (.skip) (.exit 0)) (.seq (.block 1 (.seq (.reg F66_r2 [] [1,3,4,5,6] [3]) (.reg F66_r3 [] [1,4,5,6] []))) (.reg F66_r4 [] [1,4,5,6] [])))
def F66_:AFun:=⟨2,.seq (.reg F66_r0 [] [1,4,5,6] []) (.block 0 (.loop F66_l1)),[]⟩
def F67_r0:List AIns:=[ii 8 (.alloc true [.lit (.string ⟨#[]⟩),.slice .full 2 []]),
 ii 9 (.mv (.c (.lit (.bool false))))]
def F67_r1:List AIns:=[ii 10 (.mv (.t 1)),
 ii 11 (.bin .lss (.t 10) (.c (.lit (.int .i64 1)))),
 ii 12 (.mv (.t 11)),
 ⟨some 13,(some (12,false)),.mv (.t 1)⟩,
 ⟨some 14,(some (12,false)),.mv (.t 0)⟩,
 ⟨some 15,(some (12,false)),.nck (.t 14)⟩,
 ⟨some 16,(some (12,false)),.fa 0 (.t 15)⟩,
 ⟨some 17,(some (12,false)),.ld true none (.t 16)⟩,
 ⟨some 18,(some (12,false)),.len false (.t 17)⟩,
 ⟨some 19,(some (12,false)),.bin .gtr (.t 13) (.t 18)⟩,
 ii 20 (.pick (.t 12) (.c (.lit (.bool true))) (.t 19)),
 ii 21 (.mv (.t 20)),
 ⟨some 22,(some (21,false)),.mv (.t 0)⟩,
 ⟨some 23,(some (21,false)),.nck (.t 22)⟩,
 ⟨some 24,(some (21,false)),.fa 0 (.t 23)⟩,
 ⟨some 25,(some (21,false)),.ld true none (.t 24)⟩,
 ⟨some 26,(some (21,false)),.mv (.t 1)⟩,
 ⟨some 27,(some (21,false)),.bin .sub (.t 26) (.c (.lit (.int .i64 1)))⟩,
 ⟨some 28,(some (21,false)),.ia 3 (.t 25) (.t 27)⟩,
 ⟨some 29,(some (21,false)),.fa 1 (.t 28)⟩,
 ⟨some 30,(some (21,false)),.ld true none (.t 29)⟩,
 ⟨some 31,(some (21,false)),.mv (.t 3)⟩,
 ⟨some 32,(some (21,false)),.beq true (.t 30) (.t 31)⟩,
 ii 33 (.pick (.t 21) (.c (.lit (.bool true))) (.t 32)),
 ii 34 (.mv (.t 33)),
 ⟨some 35,(some (34,false)),.mv (.t 2)⟩,
 ⟨some 36,(some (34,false)),.bin .lss (.t 35) (.c (.lit (.int .i64 0)))⟩,
 ii 37 (.pick (.t 34) (.c (.lit (.bool true))) (.t 36)),
 ii 38 (.mv (.t 37)),
 ⟨some 39,(some (38,false)),.mv (.t 2)⟩,
 ⟨some 40,(some (38,false)),.mv (.t 0)⟩,
 ⟨some 41,(some (38,false)),.nck (.t 40)⟩,
 ⟨some 42,(some (38,false)),.fa 0 (.t 41)⟩,
 ⟨some 43,(some (38,false)),.ld true none (.t 42)⟩,
 ⟨some 44,(some (38,false)),.mv (.t 1)⟩,
 ⟨some 45,(some (38,false)),.bin .sub (.t 44) (.c (.lit (.int .i64 1)))⟩,
 ⟨some 46,(some (38,false)),.ia 3 (.t 43) (.t 45)⟩,
 ⟨some 47,(some (38,false)),.fa 2 (.t 46)⟩,
 ⟨some 48,(some (38,false)),.ld true none (.t 47)⟩,
 ⟨some 49,(some (38,false)),.len false (.t 48)⟩,
 ⟨some 50,(some (38,false)),.bin .geq (.t 39) (.t 49)⟩,
 ii 51 (.pick (.t 38) (.c (.lit (.bool true))) (.t 50))]
def F67_r2:List AIns:=[ii 52 (.build [.lit (.string ⟨#[]⟩),.slice .full 2 []] []),
 ⟨none,none,.st false 2 (.t 8) (.t 52)⟩,
 ii 9 (.mv (.c (.lit (.bool false))))]
def F67_r3:List AIns:=[ii 53 (.mv (.t 0)),
 ii 54 (.nck (.t 53)),
 ii 55 (.fa 0 (.t 54)),
 ii 56 (.ld true none (.t 55)),
 ii 57 (.mv (.t 1)),
 ii 58 (.bin .sub (.t 57) (.c (.lit (.int .i64 1)))),
 ii 59 (.ia 3 (.t 56) (.t 58)),
 ii 60 (.fa 2 (.t 59)),
 ii 61 (.ld true none (.t 60)),
 ii 62 (.mv (.t 2)),
 ii 63 (.ia 2 (.t 61) (.t 62)),
 ii 64 (.ld true (some 2) (.t 63)),
 ⟨none,none,.st false 2 (.t 8) (.t 64)⟩,
 ii 9 (.mv (.c (.lit (.bool true))))]
def F67_:AFun:=⟨4,.seq (.reg F67_r0 [] [0,1,2,3,8] [8]) (.seq (.seq (.reg F67_r1 [] [0,1,2,8,51] [8]) (.cond (.t 51) (.seq (.reg F67_r2 [] [8,9] [8]) (.ret)) (.skip))) (.seq (.reg F67_r3 [] [8,9] [8]) (.ret))),[.cell (some 2) 8,.t 9]⟩
def F68_r0:List AIns:=[ii 6 (.box true (.t 1)),
 ii 10 (.mv (.c (.lit (.bool false))))]
def F68_r1:List AIns:=[ii 11 (.mv (.c (.slice .full 1 [])))]
def F68_r2:List AIns:=[ii 14 (.mv (.t 3)),
 ii 15 (.len false (.t 14)),
 ii 16 (.mv (.c (.lit (.int .i64 0))))]
def F68_r3:List AIns:=[ii 17 (.bin .lss (.t 16) (.t 15))]
def F68_r4:List AIns:=[ii 18 (.ia 2 (.t 14) (.t 16)),
 ii 19 (.ld true (some 2) (.t 18)),
 ii 13 (.alloc true [.lit (.int .i64 0),.lit (.bool false)]),
 ⟨none,none,.st false 2 (.t 13) (.t 19)⟩]
def F68_r5:List AIns:=[ii 20 (.mv (.t 11)),
 ii 21 (.fa 1 (.t 13)),
 ii 22 (.ld false none (.t 21)),
 ii 23 (.call (.f N64_) [(.t 22)]),
 ii 24 (.bsl 1 [(.t 23)]),
 ii 25 (.app 1 8 (.t 20) (.t 24)),
 ii 11 (.mv (.t 25))]
def F68_r6:List AIns:=[ii 26 (.bin .add (.t 16) (.c (.lit (.int .i64 1)))),
 ii 16 (.mv (.t 26))]
def F68_l1:AC:=.seq (.reg F68_r3 [] [0,2,4,6,11,14,15,16,17] [6]) (.seq (.cond (.t 17) (.skip) (.exit 0)) (.seq (.block 1 (.seq (.reg F68_r4 [] [0,2,4,6,11,13,14,15,16] [6,13]) (.reg F68_r5 [] [0,2,4,6,11,14,15,16] [6]))) (.reg F68_r6 [] [0,2,4,6,11,14,15,16] [6])))
def F68_r7:List AIns:=[ii 27 (.mv (.t 0)),
 ii 28 (.ld false (some 2) (.t 6)),
 ii 29 (.mv (.t 2)),
 ii 30 (.mv (.t 4)),
 ii 31 (.mv (.t 11)),
 ii 32 (.call (.f N69_) [(.t 27),(.t 28),(.t 29),(.t 30),(.t 31)]),
 ii 10 (.mv (.t 32))]
def F68_:AFun:=⟨5,.seq (.reg F68_r0 [] [0,2,3,4,6] [6]) (.seq (.reg F68_r1 [] [0,2,3,4,6,11] [6]) (.seq (.seq (.reg F68_r2 [] [0,2,4,6,11,14,15,16] [6]) (.block 0 (.loop F68_l1))) (.seq (.reg F68_r7 [] [10] []) (.ret)))),[.t 10]⟩
def F69_r0:List AIns:=[ii 6 (.box true (.t 1)),
 ii 10 (.mv (.c (.lit (.bool false))))]
def F69_r1:List AIns:=[ii 13 (.mv (.t 2)),
 ii 14 (.len false (.t 13)),
 ii 15 (.mv (.t 4)),
 ii 16 (.len false (.t 15)),
 ii 17 (.bin .neq (.t 14) (.t 16))]
def F69_r2:List AIns:=[ii 10 (.mv (.c (.lit (.bool false))))]
def F69_r3:List AIns:=[ii 18 (.mv (.t 2)),
 ii 19 (.len false (.t 18)),
 ii 20 (.mv (.c (.lit (.int .i64 0))))]
def F69_r4:List AIns:=[ii 21 (.bin .lss (.t 20) (.t 19))]
def F69_r5:List AIns:=[ii 22 (.mv (.t 20)),
 ii 23 (.ia 5 (.t 18) (.t 20)),
 ii 24 (.ld true (some 5) (.t 23)),
 ii 12 (.alloc true [.lit (.int .i64 0),.lit (.int .i64 0),.lit (.int .i64 0),.slice .full 5 [],.slice .full 7 []]),
 ii 11 (.mv (.t 22)),
 ⟨none,none,.st false 5 (.t 12) (.t 24)⟩]
def F69_r6:List AIns:=[ii 25 (.fa 0 (.t 12)),
 ii 26 (.ld false none (.t 25)),
 ii 27 (.call (.f N51_) [(.t 26)]),
 ii 28 (.mv (.t 4)),
 ii 29 (.mv (.t 11)),
 ii 30 (.ia 1 (.t 28) (.t 29)),
 ii 31 (.ld true none (.t 30)),
 ii 32 (.bin .neq (.t 27) (.t 31)),
 ii 33 (.mv (.t 32)),
 ⟨some 34,(some (33,false)),.mv (.t 0)⟩,
 ⟨some 35,(some (33,false)),.ld false (some 2) (.t 6)⟩,
 ⟨some 36,(some (33,false)),.ld false (some 5) (.t 12)⟩,
 ⟨some 37,(some (33,false)),.mv (.t 3)⟩,
 ⟨some 38,(some (33,false)),.bin .add (.t 37) (.c (.lit (.int .i64 1)))⟩,
 ⟨some 39,(some (33,false)),.call (.f N52_) [(.t 34),(.t 35),(.t 36),(.t 38)]⟩,
 ⟨some 40,(some (33,false)),.unot (.t 39)⟩,
 ii 41 (.pick (.t 33) (.c (.lit (.bool true))) (.t 40))]
def F69_r7:List AIns:=[ii 10 (.mv (.c (.lit (.bool false))))]
def F69_r8:List AIns:=[ii 42 (.bin .add (.t 20) (.c (.lit (.int .i64 1)))),
 ii 20 (.mv (.t 42))]
def F69_l1:AC:=.seq (.reg F69_r4 [] [0,3,4,6,18,19,20,21] [6]) (.seq (.cond (.t 21) (.skip) (.exit 0)) (.seq (.block 1 (.seq (.reg F69_r5 [] [0,3,4,6,11,12,18,19,20] [6,12]) (.seq (.regd F69_r6 [] [0,3,4,6,18,19,20,41] [6] [[],[0],[1],[],[],[3,4],[5],[2,6],[7,2],[8],[8],[8],[8],[12,8],[9,10,11,13,8,8],[14,8],[8,15]]) (.cond (.t 41) (.seq (.reg F69_r7 [] [10] []) (.ret)) (.skip))))) (.reg F69_r8 [] [0,3,4,6,18,19,20] [6])))
def F69_r9:List AIns:=[ii 10 (.mv (.c (.lit (.bool true))))]
def F69_:AFun:=⟨5,.seq (.reg F69_r0 [] [0,2,3,4,6] [6]) (.seq (.seq (.reg F69_r1 [] [0,2,3,4,6,17] [6]) (.cond (.t 17) (.seq (.reg F69_r2 [] [10] []) (.ret)) (.skip))) (.seq (.seq (.reg F69_r3 [] [0,3,4,6,18,19,20] [6]) (.block 0 (.loop F69_l1))) (.seq (.reg F69_r9 [] [10] []) (.ret)))),[.t 10]⟩
def F70_r0:List AIns:=[ii 5 (.box true (.t 1)),
 ii 6 (.box true (.t 2)),
 ii 8 (.mv (.c (.lit (.bool false))))]
def F70_r1:List AIns:=[ii 16 (.mv (.t 0)),
 ii 17 (.nck (.t 16)),
 ii 18 (.fa 0 (.t 17)),
 ii 19 (.ld true none (.t 18)),
 ii 20 (.fa 2 (.t 6)),
 ii 21 (.ld false none (.t 20)),
 ii 22 (.bin .sub (.t 21) (.c (.lit (.int .i64 1)))),
 ii 23 (.ia 3 (.t 19) (.t 22)),
 ii 24 (.fa 2 (.t 23)),
 ii 25 (.ld true none (.t 24)),
 ii 9 (.mv (.t 25))]
def F70_r2:List AIns:=[ii 26 (.fa 4 (.t 6)),
 ii 27 (.ld false none (.t 26)),
 ii 28 (.len false (.t 27)),
 ii 29 (.mv (.t 9)),
 ii 30 (.len false (.t 29)),
 ii 31 (.bin .neq (.t 28) (.t 30))]
def F70_r3:List AIns:=[ii 8 (.mv (.c (.lit (.bool false))))]
def F70_r4:List AIns:=[ii 32 (.fa 4 (.t 6)),
 ii 33 (.ld false none (.t 32)),
 ii 34 (.len false (.t 33)),
 ii 35 (.mv (.c (.lit (.int .i64 0))))]
def F70_r5:List AIns:=[ii 36 (.bin .lss (.t 35) (.t 34))]
def F70_r6:List AIns:=[ii 37 (.mv (.t 35)),
 ii 38 (.ia 7 (.t 33) (.t 35)),
 ii 39 (.ld true (some 7) (.t 38)),
 ii 11 (.alloc true [.slice .full 1 [],.slice .full 1 [],.lit (.int .i64 0),.lit (.int .i64 0),.lit (.int .i64 0),.slice .full 5 [],.slice .full 7 []]),
 ii 10 (.mv (.t 37)),
 ⟨none,none,.st false 7 (.t 11) (.t 39)⟩]
def F70_r7:List AIns:=[ii 40 (.fa 0 (.t 11)),
 ii 41 (.ld false none (.t 40)),
 ii 42 (.len false (.t 41)),
 ii 43 (.mv (.t 9)),
 ii 44 (.mv (.t 10)),
 ii 45 (.ia 2 (.t 43) (.t 44)),
 ii 46 (.fa 1 (.t 45)),
 ii 47 (.ld true none (.t 46)),
 ii 48 (.len false (.t 47)),
 ii 49 (.bin .neq (.t 42) (.t 48)),
 ii 50 (.mv (.t 49)),
 ⟨some 51,(some (50,false)),.fa 0 (.t 11)⟩,
 ⟨some 52,(some (50,false)),.ld false none (.t 51)⟩,
 ⟨some 53,(some (50,false)),.fa 1 (.t 11)⟩,
 ⟨some 54,(some (50,false)),.ld false none (.t 53)⟩,
 ⟨some 55,(some (50,false)),.call (.f N47_) [(.t 52),(.t 54)]⟩,
 ⟨some 56,(some (50,false)),.unot (.t 55)⟩,
 ii 57 (.pick (.t 50) (.c (.lit (.bool true))) (.t 56))]
def F70_r8:List AIns:=[ii 8 (.mv (.c (.lit (.bool false))))]
def F70_r9:List AIns:=[ii 58 (.mv (.t 9)),
 ii 59 (.mv (.t 10)),
 ii 60 (.ia 2 (.t 58) (.t 59)),
 ii 61 (.fa 1 (.t 60)),
 ii 62 (.ld true none (.t 61)),
 ii 63 (.len false (.t 62)),
 ii 64 (.mv (.c (.lit (.int .i64 0))))]
def F70_r10:List AIns:=[ii 65 (.bin .lss (.t 64) (.t 63))]
def F70_r11:List AIns:=[ii 66 (.mv (.t 64)),
 ii 67 (.ia 2 (.t 62) (.t 64)),
 ii 68 (.ld true (some 2) (.t 67)),
 ii 13 (.alloc true [.lit (.int .i64 0),.lit (.bool false)]),
 ii 12 (.mv (.t 66)),
 ⟨none,none,.st false 2 (.t 13) (.t 68)⟩]
def F70_r12:List AIns:=[ii 69 (.fa 1 (.t 11)),
 ii 70 (.ld false none (.t 69)),
 ii 71 (.mv (.t 12)),
 ii 72 (.ia 1 (.t 70) (.t 71)),
 ii 73 (.ld true none (.t 72)),
 ii 74 (.fa 1 (.t 13)),
 ii 75 (.ld false none (.t 74)),
 ii 76 (.beq true (.t 73) (.t 75))]
def F70_r13:List AIns:=[ii 8 (.mv (.c (.lit (.bool false))))]
def F70_r14:List AIns:=[ii 77 (.bin .add (.t 64) (.c (.lit (.int .i64 1)))),
 ii 64 (.mv (.t 77))]
def F70_l2:AC:=.seq (.reg F70_r10 [] [0,3,5,9,11,33,34,35,62,63,64,65] [5,11]) (.seq (.cond (.t 65) (.skip) (.exit 2)) (.seq (.block 3 (.seq (.reg F70_r11 [] [0,3,5,9,11,12,13,33,34,35,62,63,64] [5,11,13]) (.seq (.reg F70_r12 [] [0,3,5,9,11,33,34,35,62,63,64,76] [5,11]) (.cond (.t 76) (.seq (.reg F70_r13 [] [8] []) (.ret)) (.skip))))) (.reg F70_r14 [] [0,3,5,9,11,33,34,35,62,63,64] [5,11])))
def F70_r15:List AIns:=[ii 78 (.ld false (some 2) (.t 5)),
 ii 79 (.fa 0 (.t 11)),
 ii 80 (.ld false none (.t 79)),
 ii 81 (.fa 1 (.t 11)),
 ii 82 (.ld false none (.t 81)),
 ii 83 (.call (.f N49_) [(.t 78),(.t 80),(.t 82)]),
 ii 14 (.mv (.t 83))]
def F70_r16:List AIns:=[ii 84 (.fa 2 (.t 11)),
 ii 85 (.fa 0 (.t 84)),
 ii 86 (.ld false none (.t 85)),
 ii 87 (.call (.f N51_) [(.t 86)]),
 ii 88 (.bin .eql (.t 87) (.c (.lit (.int .i64 2)))),
 ii 89 (.mv (.t 88)),
 ⟨some 90,(some (89,true)),.mv (.t 0)⟩,
 ⟨some 91,(some (89,true)),.ld false (some 2) (.t 5)⟩,
 ⟨some 92,(some (89,true)),.fa 2 (.t 11)⟩,
 ⟨some 93,(some (89,true)),.ld false (some 5) (.t 92)⟩,
 ⟨some 94,(some (89,true)),.mv (.t 3)⟩,
 ⟨some 95,(some (89,true)),.bin .add (.t 94) (.c (.lit (.int .i64 1)))⟩,
 ⟨some 96,(some (89,true)),.call (.f N52_) [(.t 90),(.t 91),(.t 93),(.t 95)]⟩,
 ii 97 (.pick (.t 89) (.t 96) (.c (.lit (.bool false)))),
 ii 15 (.mv (.t 97))]
def F70_r17:List AIns:=[ii 98 (.mv (.t 14)),
 ii 99 (.call (.t 98) [])]
def F70_r18:List AIns:=[ii 100 (.mv (.t 15)),
 ii 101 (.unot (.t 100))]
def F70_r19:List AIns:=[ii 8 (.mv (.c (.lit (.bool false))))]
def F70_r20:List AIns:=[ii 102 (.bin .add (.t 35) (.c (.lit (.int .i64 1)))),
 ii 35 (.mv (.t 102))]
def F70_l1:AC:=.seq (.reg F70_r5 [] [0,3,5,9,33,34,35,36] [5]) (.seq (.cond (.t 36) (.skip) (.exit 0)) (.seq (.block 1 (.seq (.reg F70_r6 [] [0,3,5,9,10,11,33,34,35] [5,11]) (.seq (.seq (.reg F70_r7 [] [0,3,5,9,10,11,33,34,35,57] [5,11]) (.cond (.t 57) (.seq (.reg F70_r8 [] [8] []) (.ret)) (.skip))) (.seq (.seq (.reg F70_r9 [] [0,3,5,9,11,33,34,35,62,63,64] [5,11]) (.block 2 (.loop F70_l2))) (.seq (.reg F70_r15 [] [0,3,5,9,11,14,33,34,35] [5,11]) (.seq (.reg F70_r16 [] [0,3,5,9,14,15,33,34,35] [5]) (.seq (.reg F70_r17 [] [0,3,5,9,15,33,34,35] [5]) (.seq (.reg F70_r18 [] [0,3,5,9,33,34,35,101] [5]) (.cond (.t 101) (.seq (.reg F70_r19 [] [8] []) (.ret)) (.skip)))))))))) (.reg F70_r20 [] [0,3,5,9,33,34,35] [5])))
def F70_r21:List AIns:=[ii 8 (.mv (.c (.lit (.bool true))))]
def F70_:AFun:=⟨4,.seq (.reg F70_r0 [] [0,3,5,6] [5,6]) (.seq (.reg F70_r1 [] [0,3,5,6,9] [5,6]) (.seq (.seq (.reg F70_r2 [] [0,3,5,6,9,31] [5,6]) (.cond (.t 31) (.seq (.reg F70_r3 [] [8] []) (.ret)) (.skip))) (.seq (.seq (.reg F70_r4 [] [0,3,5,9,33,34,35] [5]) (.block 0 (.loop F70_l1))) (.seq (.reg F70_r21 [] [8] []) (.ret))))),[.t 8]⟩
def F71_r0:List AIns:=[ii 3 (.box true (.t 1)),
 ii 4 (.mv (.c (.lit (.int .i64 0)))),
 ii 5 (.mv (.c (.lit (.bool false))))]
def F71_r1:List AIns:=[ii 9 (.mv (.t 0)),
 ii 10 (.fa 0 (.t 3)),
 ii 11 (.ld false none (.t 10)),
 ii 12 (.bin .eql (.t 11) (.c (.lit (.int .i64 5)))),
 ii 13 (.call (.f N80_) [(.t 12)]),
 ii 14 (.nck (.t 9)),
 ii 15 (.fa 2 (.t 14)),
 ii 16 (.iaa 2 1 (.t 15) (.t 13)),
 ii 17 (.ld true none (.t 16)),
 ii 18 (.fa 1 (.t 3)),
 ii 19 (.ld false none (.t 18)),
 ii 20 (.lk (.int .i64) (.lit (.int .i64 0)) true (.t 17) (.t 19)),
 ii 8 (.mv (.t 20)),
 ii 21 (.ext (.t 8) 0),
 ii 22 (.ext (.t 8) 1),
 ii 6 (.mv (.t 21)),
 ii 7 (.mv (.t 22))]
def F71_r2:List AIns:=[ii 23 (.mv (.t 6)),
 ii 24 (.mv (.t 7)),
 ii 4 (.mv (.t 23)),
 ii 5 (.mv (.t 24))]
def F71_:AFun:=⟨2,.seq (.reg F71_r0 [] [0,3] [3]) (.seq (.reg F71_r1 [] [6,7] []) (.seq (.reg F71_r2 [] [4,5] []) (.ret))),[.t 4,.t 5]⟩
def F72_r0:List AIns:=[ii 3 (.box true (.t 1)),
 ii 4 (.mv (.c (.lit (.int .i64 0)))),
 ii 5 (.mv (.c (.lit (.bool false))))]
def F72_r1:List AIns:=[ii 4 (.mv (.c (.lit (.int .i64 0)))),
 ii 5 (.mv (.c (.lit (.bool true))))]
def F72_:AFun:=⟨2,.seq (.reg F72_r0 [] [] []) (.seq (.reg F72_r1 [] [4,5] []) (.ret)),[.t 4,.t 5]⟩
def F73_r0:List AIns:=[ii 3 (.box true (.t 1)),
 ii 4 (.mv (.c (.lit (.int .i64 0)))),
 ii 5 (.mv (.c (.lit (.bool false))))]
def F73_r1:List AIns:=[ii 6 (.fa 2 (.t 3)),
 ii 7 (.ld false none (.t 6)),
 ii 8 (.mv (.t 0)),
 ii 9 (.fa 3 (.t 3)),
 ii 10 (.ld false none (.t 9)),
 ii 11 (.mv (.t 0)),
 ii 12 (.nck (.t 11)),
 ii 13 (.fa 0 (.t 12)),
 ii 14 (.fa 0 (.t 13)),
 ii 15 (.ld true none (.t 14)),
 ii 16 (.fa 2 (.t 3)),
 ii 17 (.ld false none (.t 16)),
 ii 18 (.bin .sub (.t 17) (.c (.lit (.int .i64 1)))),
 ii 19 (.ia 3 (.t 15) (.t 18)),
 ii 20 (.fa 2 (.t 19)),
 ii 21 (.ld true none (.t 20)),
 ii 22 (.fa 1 (.t 3)),
 ii 23 (.ld false none (.t 22)),
 ii 24 (.ia 2 (.t 21) (.t 23)),
 ii 25 (.fa 1 (.t 24)),
 ii 26 (.ld true none (.t 25)),
 ii 27 (.call (.f N89_) [(.t 26)]),
 ii 28 (.call (.f N88_) [(.t 8),(.t 10),(.t 27)]),
 ii 4 (.mv (.t 7)),
 ii 5 (.mv (.t 28))]
def F73_:AFun:=⟨2,.seq (.reg F73_r0 [] [0,3] [3]) (.seq (.reg F73_r1 [] [4,5] []) (.ret)),[.t 4,.t 5]⟩
def F74_r0:List AIns:=[ii 3 (.box true (.t 1)),
 ii 4 (.mv (.c (.lit (.int .i64 0)))),
 ii 5 (.mv (.c (.lit (.bool false))))]
def F74_r1:List AIns:=[ii 6 (.mv (.t 0)),
 ii 7 (.fa 1 (.t 3)),
 ii 8 (.ld false none (.t 7)),
 ii 9 (.bsl 1 [(.t 8)]),
 ii 10 (.fa 2 (.t 3)),
 ii 11 (.ld false none (.t 10)),
 ii 12 (.fa 0 (.t 3)),
 ii 13 (.ld false none (.t 12)),
 ii 14 (.bin .eql (.t 13) (.c (.lit (.int .i64 3)))),
 ii 15 (.build [.lit (.int .i64 0),.lit (.bool false)] [(0,1,(.t 11)),(1,1,(.t 14))]),
 ii 16 (.bsl 2 [(.t 15)]),
 ii 17 (.call (.f N54_) [(.t 6),(.t 9),(.t 16)]),
 ⟨none,none,.dfr (.t 17) []⟩]
def F74_r2:List AIns:=[ii 18 (.fa 2 (.t 3)),
 ii 19 (.ld false none (.t 18)),
 ii 20 (.mv (.t 0)),
 ii 21 (.fa 3 (.t 3)),
 ii 22 (.ld false none (.t 21)),
 ii 23 (.bsl 1 [(.c (.lit (.int .i64 0)))]),
 ii 24 (.call (.f N88_) [(.t 20),(.t 22),(.t 23)]),
 ii 4 (.mv (.t 19)),
 ii 5 (.mv (.t 24))]
def F74_:AFun:=⟨2,.seq (.reg F74_r0 [] [0,3] [3]) (.seq (.reg F74_r1 [] [0,3] [3]) (.seq (.reg F74_r2 [] [4,5] []) (.ret))),[.t 4,.t 5]⟩
def F75_r0:List AIns:=[ii 3 (.box true (.t 1)),
 ii 4 (.mv (.c (.lit (.int .i64 0)))),
 ii 5 (.mv (.c (.lit (.bool false))))]
def F75_r1:List AIns:=[ii 10 (.fa 4 (.t 3)),
 ii 11 (.ld false none (.t 10)),
 ii 12 (.len false (.t 11)),
 ii 13 (.mv (.c (.lit (.int .i64 0))))]
def F75_r2:List AIns:=[ii 14 (.bin .lss (.t 13) (.t 12))]
def F75_r3:List AIns:=[ii 15 (.mv (.t 13)),
 ii 16 (.ia 7 (.t 11) (.t 13)),
 ii 17 (.ld true (some 7) (.t 16)),
 ii 7 (.alloc true [.slice .full 1 [],.slice .full 1 [],.lit (.int .i64 0),.lit (.int .i64 0),.lit (.int .i64 0),.slice .full 5 [],.slice .full 7 []]),
 ii 6 (.mv (.t 15)),
 ⟨none,none,.st false 7 (.t 7) (.t 17)⟩]
def F75_r4:List AIns:=[ii 18 (.mv (.t 0)),
 ii 19 (.fa 0 (.t 7)),
 ii 20 (.ld false none (.t 19)),
 ii 21 (.mv (.t 0)),
 ii 22 (.nck (.t 21)),
 ii 23 (.fa 0 (.t 22)),
 ii 24 (.fa 0 (.t 23)),
 ii 25 (.ld true none (.t 24)),
 ii 26 (.fa 2 (.t 3)),
 ii 27 (.ld false none (.t 26)),
 ii 28 (.bin .sub (.t 27) (.c (.lit (.int .i64 1)))),
 ii 29 (.ia 3 (.t 25) (.t 28)),
 ii 30 (.fa 2 (.t 29)),
 ii 31 (.ld true none (.t 30)),
 ii 32 (.mv (.t 6)),
 ii 33 (.ia 2 (.t 31) (.t 32)),
 ii 34 (.fa 1 (.t 33)),
 ii 35 (.ld true none (.t 34)),
 ii 36 (.call (.f N54_) [(.t 18),(.t 20),(.t 35)]),
 ii 8 (.mv (.t 36))]
def F75_r5:List AIns:=[ii 37 (.mv (.t 0)),
 ii 38 (.fa 2 (.t 7)),
 ii 39 (.ld false (some 5) (.t 38)),
 ii 40 (.bsl 5 [(.t 39)]),
 ii 41 (.bsl 1 [(.c (.lit (.int .i64 0)))]),
 ii 42 (.call (.f N88_) [(.t 37),(.t 40),(.t 41)]),
 ii 9 (.mv (.t 42))]
def F75_r6:List AIns:=[ii 43 (.mv (.t 8)),
 ii 44 (.call (.t 43) [])]
def F75_r7:List AIns:=[ii 45 (.mv (.t 9)),
 ii 46 (.unot (.t 45))]
def F75_r8:List AIns:=[ii 4 (.mv (.c (.lit (.int .i64 0)))),
 ii 5 (.mv (.c (.lit (.bool false))))]
def F75_r9:List AIns:=[ii 47 (.bin .add (.t 13) (.c (.lit (.int .i64 1)))),
 ii 13 (.mv (.t 47))]
def F75_l1:AC:=.seq (.reg F75_r2 [] [0,3,11,12,13,14] [3]) (.seq (.cond (.t 14) (.skip) (.exit 0)) (.seq (.block 1 (.seq (.reg F75_r3 [] [0,3,6,7,11,12,13] [3,7]) (.seq (.reg F75_r4 [] [0,3,7,8,11,12,13] [3,7]) (.seq (.reg F75_r5 [] [0,3,8,9,11,12,13] [3]) (.seq (.reg F75_r6 [] [0,3,9,11,12,13] [3]) (.seq (.reg F75_r7 [] [0,3,11,12,13,46] [3]) (.cond (.t 46) (.seq (.reg F75_r8 [] [4,5] []) (.ret)) (.skip)))))))) (.reg F75_r9 [] [0,3,11,12,13] [3])))
def F75_r10:List AIns:=[ii 48 (.fa 2 (.t 3)),
 ii 49 (.ld false none (.t 48)),
 ii 4 (.mv (.t 49)),
 ii 5 (.mv (.c (.lit (.bool true))))]
def F75_:AFun:=⟨2,.seq (.reg F75_r0 [] [0,3] [3]) (.seq (.seq (.reg F75_r1 [] [0,3,11,12,13] [3]) (.block 0 (.loop F75_l1))) (.seq (.reg F75_r10 [] [4,5] []) (.ret))),[.t 4,.t 5]⟩
def F76_r0:List AIns:=[ii 3 (.box true (.t 1)),
 ii 4 (.mv (.c (.lit (.int .i64 0)))),
 ii 5 (.mv (.c (.lit (.bool false))))]
def F76_r1:List AIns:=[ii 6 (.mv (.t 0)),
 ii 7 (.fa 3 (.t 3)),
 ii 8 (.ld false none (.t 7)),
 ii 9 (.fa 2 (.t 3)),
 ii 10 (.ld false none (.t 9)),
 ii 11 (.fa 2 (.t 3)),
 ii 12 (.ld false none (.t 11)),
 ii 13 (.bsl 1 [(.t 10),(.t 12)]),
 ii 14 (.call (.f N88_) [(.t 6),(.t 8),(.t 13)]),
 ii 4 (.mv (.c (.lit (.int .i64 0)))),
 ii 5 (.mv (.t 14))]
def F76_:AFun:=⟨2,.seq (.reg F76_r0 [] [0,3] [3]) (.seq (.reg F76_r1 [] [4,5] []) (.ret)),[.t 4,.t 5]⟩
def F77_r0:List AIns:=[ii 3 (.box true (.t 1)),
 ii 4 (.mv (.c (.lit (.int .i64 0)))),
 ii 5 (.mv (.c (.lit (.bool false))))]
def F77_r1:List AIns:=[ii 6 (.mv (.t 0)),
 ii 7 (.fa 3 (.t 3)),
 ii 8 (.ld false none (.t 7)),
 ii 9 (.bsl 1 [(.c (.lit (.int .i64 0))),(.c (.lit (.int .i64 0))),(.c (.lit (.int .i64 0)))]),
 ii 10 (.call (.f N88_) [(.t 6),(.t 8),(.t 9)]),
 ii 4 (.mv (.c (.lit (.int .i64 0)))),
 ii 5 (.mv (.t 10))]
def F77_:AFun:=⟨2,.seq (.reg F77_r0 [] [0,3] [3]) (.seq (.reg F77_r1 [] [4,5] []) (.ret)),[.t 4,.t 5]⟩
def F78_r0:List AIns:=[ii 3 (.box true (.t 1)),
 ii 4 (.mv (.c (.lit (.int .i64 0)))),
 ii 5 (.mv (.c (.lit (.bool false))))]
def F78_r1:List AIns:=[ii 6 (.mv (.t 0)),
 ii 7 (.fa 3 (.t 3)),
 ii 8 (.ld false none (.t 7)),
 ii 9 (.bsl 1 [(.c (.lit (.int .i64 0))),(.c (.lit (.int .i64 0))),(.c (.lit (.int .i64 0)))]),
 ii 10 (.call (.f N88_) [(.t 6),(.t 8),(.t 9)]),
 ii 4 (.mv (.c (.lit (.int .i64 0)))),
 ii 5 (.mv (.t 10))]
def F78_:AFun:=⟨2,.seq (.reg F78_r0 [] [0,3] [3]) (.seq (.reg F78_r1 [] [4,5] []) (.ret)),[.t 4,.t 5]⟩
def F79_r0:List AIns:=[ii 3 (.box true (.t 1)),
 ii 4 (.mv (.c (.lit (.int .i64 0)))),
 ii 5 (.mv (.c (.lit (.bool false))))]
def F79_r1:List AIns:=[ii 6 (.mv (.t 0)),
 ii 7 (.fa 3 (.t 3)),
 ii 8 (.ld false none (.t 7)),
 ii 9 (.mv (.t 0)),
 ii 10 (.nck (.t 9)),
 ii 11 (.fa 0 (.t 10)),
 ii 12 (.fa 1 (.t 11)),
 ii 13 (.ld true none (.t 12)),
 ii 14 (.fa 1 (.t 3)),
 ii 15 (.ld false none (.t 14)),
 ii 16 (.ia 8 (.t 13) (.t 15)),
 ii 17 (.fa 1 (.t 16)),
 ii 18 (.ld true none (.t 17)),
 ii 19 (.call (.f N89_) [(.t 18)]),
 ii 20 (.call (.f N88_) [(.t 6),(.t 8),(.t 19)]),
 ii 4 (.mv (.c (.lit (.int .i64 0)))),
 ii 5 (.mv (.t 20))]
def F79_:AFun:=⟨2,.seq (.reg F79_r0 [] [0,3] [3]) (.seq (.reg F79_r1 [] [4,5] []) (.ret)),[.t 4,.t 5]⟩
def F80_r0:List AIns:=[ii 2 (.mv (.c (.lit (.int .i64 0))))]
def F80_r1:List AIns:=[ii 3 (.mv (.t 0))]
def F80_r2:List AIns:=[ii 2 (.mv (.c (.lit (.int .i64 1))))]
def F80_r3:List AIns:=[ii 2 (.mv (.c (.lit (.int .i64 0))))]
def F80_:AFun:=⟨1,.seq (.reg F80_r0 [] [0] []) (.seq (.seq (.reg F80_r1 [] [3] []) (.cond (.t 3) (.seq (.reg F80_r2 [] [2] []) (.ret)) (.skip))) (.seq (.reg F80_r3 [] [2] []) (.ret))),[.t 2]⟩
def F81_r0:List AIns:=[ii 4 (.ld true none (.t 0)),
 ii 5 (.len false (.t 4)),
 ii 6 (.bin .sub (.t 5) (.c (.lit (.int .i64 1)))),
 ii 2 (.mv (.t 6))]
def F81_r1:List AIns:=[ii 7 (.mv (.t 2)),
 ii 8 (.bin .geq (.t 7) (.c (.lit (.int .i64 0))))]
def F81_r3:List AIns:=[ii 11 (.ld true none (.t 0)),
 ii 12 (.mv (.t 2)),
 ii 13 (.ia 4 (.t 11) (.t 12)),
 ii 14 (.ld true (some 4) (.t 13)),
 ii 3 (.alloc true [.lit (.int .i64 0),.lit (.int .i64 0),.lit (.int .i64 0),.lit (.bool false)]),
 ⟨none,none,.st false 4 (.t 3) (.t 14)⟩]
def F81_r4:List AIns:=[ii 15 (.ld true none (.t 1)),
 ii 16 (.fa 0 (.t 3)),
 ii 17 (.ld false none (.t 16)),
 ii 18 (.nck (.t 15)),
 ii 19 (.fa 2 (.t 18)),
 ii 20 (.iaa 2 1 (.t 19) (.t 17)),
 ii 21 (.ld true none (.t 20)),
 ii 22 (.fa 1 (.t 3)),
 ii 23 (.ld false none (.t 22)),
 ⟨none,none,.dl (.int .i64) (.t 21) (.t 23)⟩]
def F81_r5:List AIns:=[ii 24 (.fa 3 (.t 3)),
 ii 25 (.ld false none (.t 24))]
def F81_r6:List AIns:=[ii 26 (.ld true none (.t 1)),
 ii 27 (.fa 0 (.t 3)),
 ii 28 (.ld false none (.t 27)),
 ii 29 (.nck (.t 26)),
 ii 30 (.fa 2 (.t 29)),
 ii 31 (.iaa 2 1 (.t 30) (.t 28)),
 ii 32 (.ld true none (.t 31)),
 ii 33 (.fa 1 (.t 3)),
 ii 34 (.ld false none (.t 33)),
 ii 35 (.fa 2 (.t 3)),
 ii 36 (.ld false none (.t 35)),
 ⟨none,none,.mu (.int .i64) (.t 32) (.t 34) (.t 36)⟩]
def F81_r2:List AIns:=[ii 9 (.mv (.t 2)),
 ii 10 (.bin .sub (.t 9) (.c (.lit (.int .i64 1)))),
 ii 2 (.mv (.t 10))]
def F81_l1:AC:=.seq (.seq (.reg F81_r1 [] [0,1,2,8] []) (.cond (.t 8) (.skip) (.exit 0))) (.seq (.block 1 (.seq (.reg F81_r3 [] [0,1,2,3] [3]) (.seq (.reg F81_r4 [] [0,1,2,3] [3]) (.seq (.reg F81_r5 [] [0,1,2,3,25] [3]) (.cond (.t 25) (.reg F81_r6 [] [0,1,2] []) (.skip)))))) (.reg F81_r2 [] [0,1,2] []))
def F81_:AFun:=⟨2,.seq (.reg F81_r0 [] [0,1,2] []) (.block 0 (.loop F81_l1)),[]⟩
def F82_r0:List AIns:=[ii 0 (.alloc true [.lit (.map none),.lit (.map none)])]
def F82_r1:List AIns:=[ii 1 (.mkm (.int .i64)),
 ii 2 (.mkm (.int .i64)),
 ii 3 (.build [.lit (.map none),.lit (.map none)] [(0,1,(.t 1)),(1,1,(.t 2))]),
 ⟨none,none,.st false 2 (.t 0) (.t 3)⟩]
def F82_:AFun:=⟨0,.seq (.reg F82_r0 [] [0] [0]) (.seq (.reg F82_r1 [] [0] [0]) (.ret)),[.cell (some 2) 0]⟩
def F83_r0:List AIns:=[ii 3 (.box true (.t 0)),
 ii 4 (.box true (.t 1)),
 ii 6 (.alloc true [.lit (.int .i64 0),.lit (.int .i64 0),.lit (.int .i64 0),.slice .full 5 [],.slice .full 7 []]),
 ii 7 (.mv (.c (.lit (.bool false))))]
def F83_r1:List AIns:=[ii 14 (.mkm (.int .i64)),
 ii 15 (.mkm (.int .i64)),
 ii 16 (.build [.lit (.map none),.lit (.map none)] [(0,1,(.t 14)),(1,1,(.t 15))]),
 ii 17 (.mv (.t 2)),
 ii 18 (.ld false (some 2) (.t 4)),
 ii 19 (.build [.lit (.map none),.lit (.map none),.lit (.int .i64 0),.lit (.int .i64 0),.lit (.int .i64 0),.lit (.map none),.lit (.map none)] [(0,2,(.t 16)),(4,1,(.t 17)),(5,2,(.t 18))]),
 ii 20 (.box false (.t 19)),
 ii 8 (.alloc false [.lit (.pointer none)]),
 ⟨none,none,.st true 1 (.t 8) (.t 20)⟩]
def F83_r2:List AIns:=[ii 21 (.mkf N90_ [] [(.t 8)]),
 ii 9 (.mv (.t 21))]
def F83_r3:List AIns:=[ii 22 (.mv (.t 9)),
 ii 23 (.ld false (some 5) (.t 3)),
 ii 24 (.call (.t 22) [(.t 23)])]
def F83_r4:List AIns:=[ii 25 (.mv (.c (.lit (.int .i64 0))))]
def F83_r5:List AIns:=[ii 26 (.bin .lss (.t 25) (.c (.lit (.int .i64 2))))]
def F83_r6:List AIns:=[ii 27 (.mv (.t 25)),
 ii 10 (.mv (.t 27))]
def F83_r7:List AIns:=[ii 28 (.mv (.t 10)),
 ii 29 (.iaa 2 1 (.t 4) (.t 28)),
 ii 30 (.ld false none (.t 29))]
def F83_r9:List AIns:=[ii 35 (.ext (.t 34) 1),
 ii 12 (.alloc true [.lit (.int .i64 0),.lit (.int .i64 0),.lit (.int .i64 0),.slice .full 5 [],.slice .full 7 []]),
 ⟨none,none,.st false 5 (.t 12) (.t 35)⟩]
def F83_r10:List AIns:=[ii 36 (.mv (.t 9)),
 ii 37 (.ld false (some 5) (.t 12)),
 ii 38 (.call (.t 36) [(.t 37)])]
def F83_l2:AC:=.reg F83_r10 [] [3,4,6,8,9,25,31] [3,4,6]
def F83_r11:List AIns:=[ii 39 (.bin .add (.t 25) (.c (.lit (.int .i64 1)))),
 ii 25 (.mv (.t 39))]
def F83_l1:AC:=.seq (.reg F83_r5 [] [3,4,6,8,9,25,26] [3,4,6]) (.seq (.cond (.t 26) (.skip) (.exit 0)) (.seq (.block 1 (.seq (.reg F83_r6 [] [3,4,6,8,9,10,25] [3,4,6]) (.rmap F83_r7 (.int .i64) (.t 30) 31 32 33 2 3 34 F83_r9 [3,4,6,8,9,12,25,31] [3,4,6,12] F83_l2 [3,4,6,8,9,25] [3,4,6]))) (.reg F83_r11 [] [3,4,6,8,9,25] [3,4,6])))
def F83_r12:List AIns:=[ii 40 (.ld true none (.t 8)),
 ii 41 (.ld false (some 5) (.t 3)),
 ii 42 (.call (.f N92_) [(.t 40),(.t 41)]),
 ii 13 (.alloc true [.lit (.int .i64 0),.lit (.int .i64 0),.lit (.int .i64 0),.slice .full 5 [],.slice .full 7 []]),
 ⟨none,none,.st false 5 (.t 13) (.t 42)⟩]
def F83_r13:List AIns:=[ii 43 (.ld false (some 5) (.t 13)),
 ii 44 (.ldo 8 none (.t 8)),
 ii 45 (.nck (.t 44)),
 ii 46 (.fa 4 (.t 45)),
 ii 47 (.wop (.ldv none) [(.t 46)]),
 ii 48 (.bin .geq (.t 47) (.c (.lit (.int .i64 0)))),
 ⟨none,none,.st false 5 (.t 6) (.t 43)⟩,
 ii 7 (.mv (.t 48))]
def F83_:AFun:=⟨3,.seq (.reg F83_r0 [] [2,3,4,6] [3,4,6]) (.seq (.reg F83_r1 [] [3,4,6,8] [3,4,6]) (.seq (.reg F83_r2 [] [3,4,6,8,9] [3,4,6]) (.seq (.reg F83_r3 [] [3,4,6,8,9] [3,4,6]) (.seq (.seq (.reg F83_r4 [] [3,4,6,8,9,25] [3,4,6]) (.block 0 (.loop F83_l1))) (.seq (.reg F83_r12 [] [6,8,13] [6,13]) (.seq (.regd F83_r13 [] [6,7] [6] [[],[],[1],[2],[3],[4],[0,0],[5,6,0,1,2,3,4,5,6]]) (.ret))))))),[.cell (some 5) 6,.t 7]⟩
def F84_r0:List AIns:=[ii 5 (.mv (.c (.lit (.int .i64 0))))]
def F84_r1:List AIns:=[ii 6 (.mv (.t 0))]
def F84_r2:List AIns:=[ii 5 (.mv (.c (.lit (.int .i64 1))))]
def F84_r3:List AIns:=[ii 7 (.mv (.t 5)),
 ii 8 (.mv (.t 5)),
 ii 9 (.iaa 2 1 (.t 2) (.t 8)),
 ii 10 (.ld true none (.t 9)),
 ii 11 (.mv (.t 1)),
 ii 12 (.bin .add (.t 11) (.c (.lit (.int .i64 1)))),
 ii 13 (.mmx true (.t 10) (.t 12)),
 ii 14 (.iaa 2 1 (.t 2) (.t 7)),
 ⟨none,none,.st true 1 (.t 14) (.t 13)⟩]
def F84_:AFun:=⟨3,.seq (.reg F84_r0 [] [0,1,2,5] []) (.seq (.seq (.reg F84_r1 [] [1,2,5,6] []) (.cond (.t 6) (.reg F84_r2 [] [1,2,5] []) (.skip))) (.reg F84_r3 [] [] [])),[]⟩
def F85_r0:List AIns:=[ii 2 (.box true (.t 0))]
def F85_r1:List AIns:=[ii 3 (.iaa 2 1 (.t 1) (.c (.lit (.int .i64 0)))),
 ii 4 (.ld true none (.t 3)),
 ii 5 (.iaa 2 1 (.t 2) (.c (.lit (.int .i64 0)))),
 ii 6 (.ld false none (.t 5)),
 ii 7 (.mmx true (.t 4) (.t 6)),
 ii 8 (.iaa 2 1 (.t 1) (.c (.lit (.int .i64 1)))),
 ii 9 (.ld true none (.t 8)),
 ii 10 (.iaa 2 1 (.t 2) (.c (.lit (.int .i64 1)))),
 ii 11 (.ld false none (.t 10)),
 ii 12 (.mmx true (.t 9) (.t 11)),
 ii 13 (.iaa 2 1 (.t 1) (.c (.lit (.int .i64 0)))),
 ⟨none,none,.st true 1 (.t 13) (.t 7)⟩,
 ii 14 (.iaa 2 1 (.t 1) (.c (.lit (.int .i64 1)))),
 ⟨none,none,.st true 1 (.t 14) (.t 12)⟩]
def F85_:AFun:=⟨2,.seq (.reg F85_r0 [] [1,2] [2]) (.regd F85_r1 [] [] [] [[],[0],[],[2],[1,3],[],[5],[],[7],[6,8],[0,1,2,3,4,5,6],[10,4,0,1,2,3,4,5,6],[0,1,2,3,4,5,6,7,8,9,10,11],[12,9,11,0,1,2,3,4,5,6,7,8,9,10,11]]),[]⟩
def F86_r0:List AIns:=[ii 2 (.box false (.t 0)),
 ii 3 (.box false (.t 1)),
 ii 4 (.alloc true [.lit (.int .i64 0),.lit (.int .i64 0),.lit (.int .i64 0),.slice .full 5 [],.slice .full 7 []])]
def F86_r1:List AIns:=[ii 6 (.build [.lit (.int .i64 0),.lit (.bool false)] []),
 ii 7 (.build [.lit (.int .i64 0),.lit (.bool false)] []),
 ii 8 (.bsl 2 [(.t 6),(.t 7)]),
 ii 5 (.mv (.t 8))]
def F86_r2:List AIns:=[ii 9 (.fa 0 (.t 3)),
 ii 10 (.ld true none (.t 9))]
def F86_r3:List AIns:=[ii 12 (.bin .eql (.t 10) (.c (.lit (.int .i64 9)))),
 ii 11 (.mv (.t 12))]
def F86_r4:List AIns:=[ii 13 (.ld true none (.t 2)),
 ii 14 (.fa 3 (.t 3)),
 ii 15 (.ld true none (.t 14)),
 ii 16 (.ia 5 (.t 15) (.c (.lit (.int .i64 0)))),
 ii 17 (.ld true (some 5) (.t 16)),
 ii 18 (.mkf N94_ [] [(.t 2),(.t 3)]),
 ii 19 (.call (.f N93_) [(.t 13),(.t 17),(.t 18)]),
 ⟨none,none,.st false 5 (.t 4) (.t 19)⟩]
def F86_r5:List AIns:=[ii 21 (.bin .eql (.t 10) (.c (.lit (.int .i64 10)))),
 ii 20 (.mv (.t 21))]
def F86_r6:List AIns:=[ii 22 (.ld true none (.t 2)),
 ii 23 (.mkf N98_ [] [(.t 3),(.t 2)]),
 ii 24 (.mv (.t 5)),
 ii 25 (.fa 3 (.t 3)),
 ii 26 (.ld true none (.t 25)),
 ii 27 (.sl 5 (.t 26) none (some (.c (.lit (.int .i64 2)))) none),
 ii 28 (.call (.f N97_) [(.t 22),(.t 23),(.t 24),(.c (.slice .full 5 [])),(.t 27)]),
 ⟨none,none,.st false 5 (.t 4) (.t 28)⟩]
def F86_r7:List AIns:=[ii 30 (.bin .eql (.t 10) (.c (.lit (.int .i64 13)))),
 ii 29 (.mv (.t 30))]
def F86_r8:List AIns:=[ii 31 (.ld true none (.t 2)),
 ii 32 (.mkf N99_ [] [(.t 3)]),
 ii 33 (.ld true none (.t 2)),
 ii 34 (.nck (.t 33)),
 ii 35 (.fa 0 (.t 34)),
 ii 36 (.fa 1 (.t 35)),
 ii 37 (.ld true none (.t 36)),
 ii 38 (.fa 1 (.t 3)),
 ii 39 (.ld true none (.t 38)),
 ii 40 (.ia 8 (.t 37) (.t 39)),
 ii 41 (.fa 1 (.t 40)),
 ii 42 (.ld true none (.t 41)),
 ii 43 (.fa 3 (.t 3)),
 ii 44 (.ld true none (.t 43)),
 ii 45 (.call (.f N97_) [(.t 31),(.t 32),(.t 42),(.c (.slice .full 5 [])),(.t 44)]),
 ⟨none,none,.st false 5 (.t 4) (.t 45)⟩]
def F86_r9:List AIns:=[ii 46 (.ld true none (.t 2)),
 ii 47 (.mkf N100_ [] [(.t 3),(.t 2)]),
 ii 48 (.mv (.t 5)),
 ii 49 (.fa 3 (.t 3)),
 ii 50 (.ld true none (.t 49)),
 ii 51 (.ia 5 (.t 50) (.c (.lit (.int .i64 0)))),
 ii 52 (.ld true (some 5) (.t 51)),
 ii 53 (.bsl 5 [(.t 52)]),
 ii 54 (.call (.f N97_) [(.t 46),(.t 47),(.t 48),(.c (.slice .full 5 [])),(.t 53)]),
 ⟨none,none,.st false 5 (.t 4) (.t 54)⟩]
def F86_:AFun:=⟨2,.seq (.reg F86_r0 [] [2,3,4] [4]) (.seq (.reg F86_r1 [] [2,3,4,5] [4]) (.seq (.seq (.reg F86_r2 [] [2,3,4,5,10] [4]) (.block 0 (.seq (.reg F86_r3 [] [2,3,4,5,10,11] [4]) (.cond (.t 11) (.seq (.reg F86_r4 [] [4] [4]) (.ret)) (.seq (.reg F86_r5 [] [2,3,4,5,10,20] [4]) (.cond (.t 20) (.seq (.reg F86_r6 [] [4] [4]) (.ret)) (.seq (.reg F86_r7 [] [2,3,4,5,29] [4]) (.cond (.t 29) (.seq (.reg F86_r8 [] [4] [4]) (.ret)) (.skip))))))))) (.seq (.reg F86_r9 [] [4] [4]) (.ret)))),[.cell (some 5) 4]⟩
def F88_r0:List AIns:=[ii 6 (.mv (.c (.lit (.bool false))))]
def F88_r1:List AIns:=[ii 11 (.mv (.t 1)),
 ii 12 (.len false (.t 11)),
 ii 13 (.mv (.c (.lit (.int .i64 0))))]
def F88_r2:List AIns:=[ii 14 (.bin .lss (.t 13) (.t 12))]
def F88_r3:List AIns:=[ii 15 (.mv (.t 13)),
 ii 16 (.ia 5 (.t 11) (.t 13)),
 ii 17 (.ld true (some 5) (.t 16)),
 ii 8 (.alloc true [.lit (.int .i64 0),.lit (.int .i64 0),.lit (.int .i64 0),.slice .full 5 [],.slice .full 7 []]),
 ii 7 (.mv (.t 15)),
 ⟨none,none,.st false 5 (.t 8) (.t 17)⟩]
def F88_r4:List AIns:=[ii 19 (.mv (.t 0)),
 ii 20 (.ld false (some 5) (.t 8)),
 ii 21 (.call (.f N55_) [(.t 19),(.t 20)]),
 ii 18 (.mv (.t 21)),
 ii 22 (.ext (.t 18) 0),
 ii 23 (.ext (.t 18) 1),
 ii 9 (.mv (.t 22)),
 ii 10 (.mv (.t 23))]
def F88_r5:List AIns:=[ii 24 (.mv (.t 10)),
 ii 25 (.unot (.t 24)),
 ii 26 (.mv (.t 25)),
 ⟨some 27,(some (26,false)),.mv (.t 9)⟩,
 ⟨some 28,(some (26,false)),.mv (.t 2)⟩,
 ⟨some 29,(some (26,false)),.mv (.t 7)⟩,
 ⟨some 30,(some (26,false)),.ia 1 (.t 28) (.t 29)⟩,
 ⟨some 31,(some (26,false)),.ld true none (.t 30)⟩,
 ⟨some 32,(some (26,false)),.bin .neq (.t 27) (.t 31)⟩,
 ii 33 (.pick (.t 26) (.c (.lit (.bool true))) (.t 32))]
def F88_r6:List AIns:=[ii 6 (.mv (.c (.lit (.bool false))))]
def F88_r7:List AIns:=[ii 34 (.bin .add (.t 13) (.c (.lit (.int .i64 1)))),
 ii 13 (.mv (.t 34))]
def F88_l1:AC:=.seq (.reg F88_r2 [] [0,2,11,12,13,14] []) (.seq (.cond (.t 14) (.skip) (.exit 0)) (.seq (.block 1 (.seq (.reg F88_r3 [] [0,2,7,8,11,12,13] [8]) (.seq (.reg F88_r4 [] [0,2,7,9,10,11,12,13] []) (.seq (.reg F88_r5 [] [0,2,11,12,13,33] []) (.cond (.t 33) (.seq (.reg F88_r6 [] [6] []) (.ret)) (.skip)))))) (.reg F88_r7 [] [0,2,11,12,13] [])))
def F88_r8:List AIns:=[ii 6 (.mv (.c (.lit (.bool true))))]
def F88_:AFun:=⟨3,.seq (.reg F88_r0 [] [0,1,2] []) (.seq (.seq (.reg F88_r1 [] [0,2,11,12,13] []) (.block 0 (.loop F88_l1))) (.seq (.reg F88_r8 [] [6] []) (.ret))),[.t 6]⟩
def F89_r0:List AIns:=[ii 2 (.mv (.c (.slice .full 1 [])))]
def F89_r1:List AIns:=[ii 3 (.mv (.c (.slice .full 1 [])))]
def F89_r2:List AIns:=[ii 6 (.mv (.t 0)),
 ii 7 (.len false (.t 6)),
 ii 8 (.mv (.c (.lit (.int .i64 0))))]
def F89_r3:List AIns:=[ii 9 (.bin .lss (.t 8) (.t 7))]
def F89_r4:List AIns:=[ii 10 (.ia 2 (.t 6) (.t 8)),
 ii 11 (.ld true (some 2) (.t 10)),
 ii 5 (.alloc true [.lit (.int .i64 0),.lit (.bool false)]),
 ⟨none,none,.st false 2 (.t 5) (.t 11)⟩]
def F89_r5:List AIns:=[ii 12 (.mv (.t 3)),
 ii 13 (.fa 0 (.t 5)),
 ii 14 (.ld false none (.t 13)),
 ii 15 (.bsl 1 [(.t 14)]),
 ii 16 (.app 1 8 (.t 12) (.t 15)),
 ii 3 (.mv (.t 16))]
def F89_r6:List AIns:=[ii 17 (.bin .add (.t 8) (.c (.lit (.int .i64 1)))),
 ii 8 (.mv (.t 17))]
def F89_l1:AC:=.seq (.reg F89_r3 [] [3,6,7,8,9] []) (.seq (.cond (.t 9) (.skip) (.exit 0)) (.seq (.block 1 (.seq (.reg F89_r4 [] [3,5,6,7,8] [5]) (.reg F89_r5 [] [3,6,7,8] []))) (.reg F89_r6 [] [3,6,7,8] [])))
def F89_r7:List AIns:=[ii 18 (.mv (.t 3)),
 ii 2 (.mv (.t 18))]
def F89_:AFun:=⟨1,.seq (.reg F89_r0 [] [0] []) (.seq (.reg F89_r1 [] [0,3] []) (.seq (.seq (.reg F89_r2 [] [3,6,7,8] []) (.block 0 (.loop F89_l1))) (.seq (.reg F89_r7 [] [2] []) (.ret)))),[.t 2]⟩
def F90_r0:List AIns:=[ii 2 (.box true (.t 0))]
def F90_r1:List AIns:=[ii 6 (.ld false (some 5) (.t 2)),
 ii 7 (.call (.f N91_) [(.t 6)]),
 ii 3 (.alloc true [.lit (.map none),.lit (.map none)]),
 ⟨none,none,.st false 2 (.t 3) (.t 7)⟩]
def F90_r2:List AIns:=[ii 8 (.mv (.c (.lit (.int .i64 0))))]
def F90_r3:List AIns:=[ii 9 (.bin .lss (.t 8) (.c (.lit (.int .i64 2))))]
def F90_r4:List AIns:=[ii 10 (.mv (.t 8)),
 ii 4 (.mv (.t 10))]
def F90_r5:List AIns:=[ii 11 (.mv (.t 4)),
 ii 12 (.iaa 2 1 (.t 3) (.t 11)),
 ii 13 (.ld false none (.t 12))]
def F90_r7:List AIns:=[ii 18 (.ext (.t 17) 0),
 ii 5 (.mv (.t 18))]
def F90_r8:List AIns:=[ii 19 (.ld true none (.t 1)),
 ii 20 (.mv (.t 4)),
 ii 21 (.nck (.t 19)),
 ii 22 (.fa 0 (.t 21)),
 ii 23 (.iaa 2 1 (.t 22) (.t 20)),
 ii 24 (.ld true none (.t 23)),
 ii 25 (.mv (.t 5)),
 ⟨none,none,.mu (.int .i64) (.t 24) (.t 25) (.c (.lit (.bool true)))⟩]
def F90_l2:AC:=.reg F90_r8 [] [1,3,4,8,14] [3]
def F90_r9:List AIns:=[ii 26 (.bin .add (.t 8) (.c (.lit (.int .i64 1)))),
 ii 8 (.mv (.t 26))]
def F90_l1:AC:=.seq (.reg F90_r3 [] [1,3,8,9] [3]) (.seq (.cond (.t 9) (.skip) (.exit 0)) (.seq (.block 1 (.seq (.reg F90_r4 [] [1,3,4,8] [3]) (.rmap F90_r5 (.int .i64) (.t 13) 14 15 16 2 3 17 F90_r7 [1,3,4,5,8,14] [3] F90_l2 [1,3,8] [3]))) (.reg F90_r9 [] [1,3,8] [3])))
def F90_:AFun:=⟨2,.seq (.reg F90_r0 [] [1,2] [2]) (.seq (.reg F90_r1 [] [1,3] [3]) (.seq (.reg F90_r2 [] [1,3,8] [3]) (.block 0 (.loop F90_l1)))),[]⟩
def F91_r0:List AIns:=[ii 1 (.box true (.t 0)),
 ii 2 (.alloc true [.lit (.map none),.lit (.map none)])]
def F91_r1:List AIns:=[ii 4 (.mkm (.int .i64)),
 ii 5 (.mkm (.int .i64)),
 ii 6 (.build [.lit (.map none),.lit (.map none)] [(0,1,(.t 4)),(1,1,(.t 5))]),
 ii 3 (.alloc true [.lit (.map none),.lit (.map none)]),
 ⟨none,none,.st false 2 (.t 3) (.t 6)⟩]
def F91_r2:List AIns:=[ii 7 (.ld false (some 5) (.t 1)),
 ii 8 (.mkm (.int .i64)),
 ii 9 (.mkm (.int .i64)),
 ii 10 (.build [.lit (.map none),.lit (.map none)] [(0,1,(.t 8)),(1,1,(.t 9))]),
 ii 11 (.ld false (some 2) (.t 3)),
 ii 12 (.call (.f N102_) [(.t 7),(.t 10),(.t 11)])]
def F91_r3:List AIns:=[ii 13 (.ld false (some 2) (.t 3)),
 ⟨none,none,.st false 2 (.t 2) (.t 13)⟩]
def F91_:AFun:=⟨1,.seq (.reg F91_r0 [] [1,2] [1,2]) (.seq (.reg F91_r1 [] [1,2,3] [1,2,3]) (.seq (.reg F91_r2 [] [2,3] [2,3]) (.seq (.reg F91_r3 [] [2] [2]) (.ret)))),[.cell (some 2) 2]⟩
def F92_r0:List AIns:=[ii 3 (.box false (.t 1)),
 ii 4 (.alloc true [.lit (.int .i64 0),.lit (.int .i64 0),.lit (.int .i64 0),.slice .full 5 [],.slice .full 7 []])]
def F92_r1:List AIns:=[ii 17 (.fa 0 (.t 3)),
 ii 18 (.ld true none (.t 17)),
 ii 19 (.bin .eql (.t 18) (.c (.lit (.int .i64 0)))),
 ii 20 (.mv (.t 19)),
 ⟨some 21,(some (20,false)),.fa 0 (.t 3)⟩,
 ⟨some 22,(some (20,false)),.ld true none (.t 21)⟩,
 ⟨some 23,(some (20,false)),.bin .eql (.t 22) (.c (.lit (.int .i64 5)))⟩,
 ii 24 (.pick (.t 20) (.c (.lit (.bool true))) (.t 23))]
def F92_r2:List AIns:=[ii 26 (.mv (.t 0)),
 ii 27 (.fa 0 (.t 3)),
 ii 28 (.ld true none (.t 27)),
 ii 29 (.callq [3] (.f N51_) [(.t 28)]),
 ii 30 (.nck (.t 26)),
 ii 31 (.fa 5 (.t 30)),
 ii 32 (.iaa 2 1 (.t 31) (.t 29)),
 ii 33 (.ld true none (.t 32)),
 ii 34 (.fa 1 (.t 3)),
 ii 35 (.ldo 3 none (.t 34)),
 ii 36 (.lk (.int .i64) (.agg [.lit (.int .i64 0),.lit (.int .i64 0),.lit (.int .i64 0),.slice .full 5 [],.slice .full 7 []]) true (.t 33) (.t 35)),
 ii 25 (.mv (.t 36)),
 ii 37 (.ext (.t 25) 0),
 ii 38 (.ext (.t 25) 1),
 ii 5 (.alloc true [.lit (.int .i64 0),.lit (.int .i64 0),.lit (.int .i64 0),.slice .full 5 [],.slice .full 7 []]),
 ⟨none,none,.st false 5 (.t 5) (.t 37)⟩,
 ii 6 (.mv (.t 38))]
def F92_r3:List AIns:=[ii 39 (.mv (.t 6))]
def F92_r4:List AIns:=[ii 41 (.ld false (some 5) (.t 5)),
 ii 42 (.call (.f N103_) [(.t 41)]),
 ii 40 (.mv (.t 42)),
 ii 43 (.ext (.t 40) 0),
 ii 44 (.ext (.t 40) 1),
 ii 7 (.mv (.t 43)),
 ii 8 (.mv (.t 44))]
def F92_r5:List AIns:=[ii 45 (.mv (.t 0)),
 ii 46 (.nck (.t 45)),
 ii 47 (.fa 4 (.t 46)),
 ii 48 (.ld true none (.t 47)),
 ii 49 (.mv (.t 7)),
 ii 50 (.bin .sub (.t 48) (.t 49)),
 ii 51 (.nck (.t 45)),
 ii 52 (.fa 4 (.t 51)),
 ⟨none,none,.st true 1 (.t 52) (.t 50)⟩]
def F92_r6:List AIns:=[ii 53 (.mv (.t 0)),
 ii 54 (.nck (.t 53)),
 ii 55 (.fa 4 (.t 54)),
 ii 56 (.ld true none (.t 55)),
 ii 57 (.bin .lss (.t 56) (.c (.lit (.int .i64 0))))]
def F92_r7:List AIns:=[ii 58 (.build [.lit (.int .i64 0),.lit (.int .i64 0),.lit (.int .i64 0),.slice .full 5 [],.slice .full 7 []] []),
 ⟨none,none,.st false 5 (.t 4) (.t 58)⟩]
def F92_r8:List AIns:=[ii 59 (.ld false (some 5) (.t 5)),
 ii 60 (.call (.f N104_) [(.t 59)]),
 ⟨none,none,.st false 5 (.t 4) (.t 60)⟩]
def F92_r9:List AIns:=[ii 61 (.mv (.t 0)),
 ii 62 (.nck (.t 61)),
 ii 63 (.fa 4 (.t 62)),
 ii 64 (.ld true none (.t 63)),
 ii 65 (.bin .sub (.t 64) (.c (.lit (.int .i64 1)))),
 ii 66 (.nck (.t 61)),
 ii 67 (.fa 4 (.t 66)),
 ⟨none,none,.st true 1 (.t 67) (.t 65)⟩]
def F92_r10:List AIns:=[ii 68 (.mv (.t 0)),
 ii 69 (.nck (.t 68)),
 ii 70 (.fa 4 (.t 69)),
 ii 71 (.ld true none (.t 70)),
 ii 72 (.bin .lss (.t 71) (.c (.lit (.int .i64 0))))]
def F92_r11:List AIns:=[ii 73 (.build [.lit (.int .i64 0),.lit (.int .i64 0),.lit (.int .i64 0),.slice .full 5 [],.slice .full 7 []] []),
 ⟨none,none,.st false 5 (.t 4) (.t 73)⟩]
def F92_r12:List AIns:=[ii 75 (.ld true (some 5) (.t 3)),
 ii 76 (.call (.f N105_) [(.t 75)]),
 ii 74 (.mv (.t 76)),
 ii 77 (.ext (.t 74) 0),
 ii 78 (.ext (.t 74) 1),
 ii 9 (.mv (.t 77)),
 ii 10 (.mv (.t 78))]
def F92_r13:List AIns:=[ii 79 (.fa 3 (.t 3)),
 ⟨none,none,.st true 1 (.t 79) (.c (.slice .full 5 []))⟩,
 ii 80 (.fa 4 (.t 3)),
 ⟨none,none,.st true 1 (.t 80) (.c (.slice .full 7 []))⟩]
def F92_r14:List AIns:=[ii 11 (.mv (.f N106_))]
def F92_r15:List AIns:=[ii 81 (.fa 0 (.t 3)),
 ii 82 (.ld true none (.t 81)),
 ii 83 (.bin .eql (.t 82) (.c (.lit (.int .i64 3)))),
 ii 84 (.mv (.t 83)),
 ⟨some 85,(some (84,false)),.fa 0 (.t 3)⟩,
 ⟨some 86,(some (84,false)),.ld true none (.t 85)⟩,
 ⟨some 87,(some (84,false)),.bin .eql (.t 86) (.c (.lit (.int .i64 7)))⟩,
 ii 88 (.pick (.t 84) (.c (.lit (.bool true))) (.t 87))]
def F92_r16:List AIns:=[ii 12 (.mv (.c (.slice .full 1 [])))]
def F92_r17:List AIns:=[ii 90 (.mv (.t 0)),
 ii 91 (.fa 1 (.t 3)),
 ii 92 (.ld true none (.t 91)),
 ii 93 (.bsl 1 [(.t 92)]),
 ii 94 (.mkf N108_ [] [(.t 3)]),
 ii 95 (.call (.f N107_) [(.t 90),(.t 93),(.t 94)]),
 ii 89 (.mv (.t 95)),
 ii 96 (.ext (.t 89) 0),
 ii 97 (.ext (.t 89) 1),
 ii 12 (.mv (.t 96)),
 ii 11 (.mv (.t 97))]
def F92_r18:List AIns:=[ii 98 (.mv (.t 12)),
 ii 99 (.ia 1 (.t 98) (.c (.lit (.int .i64 0)))),
 ii 100 (.ld true none (.t 99)),
 ii 101 (.fa 1 (.t 3)),
 ⟨none,none,.st true 1 (.t 101) (.t 100)⟩]
def F92_r19:List AIns:=[ii 102 (.mv (.t 9)),
 ii 103 (.len false (.t 102)),
 ii 104 (.mv (.c (.lit (.int .i64 0))))]
def F92_r20:List AIns:=[ii 105 (.bin .lss (.t 104) (.t 103))]
def F92_r21:List AIns:=[ii 106 (.ia 5 (.t 102) (.t 104)),
 ii 107 (.ld true (some 5) (.t 106)),
 ii 14 (.alloc true [.lit (.int .i64 0),.lit (.int .i64 0),.lit (.int .i64 0),.slice .full 5 [],.slice .full 7 []]),
 ⟨none,none,.st false 5 (.t 14) (.t 107)⟩]
def F92_r22:List AIns:=[ii 108 (.fa 3 (.t 3)),
 ii 109 (.ldo 3 none (.t 108)),
 ii 110 (.mv (.t 0)),
 ii 111 (.ld false (some 5) (.t 14)),
 ii 112 (.callq [3] (.f N92_) [(.t 110),(.t 111)]),
 ii 113 (.len false (.t 109)),
 ii 114 (.bsl 5 [(.c (.agg [.lit (.int .i64 0),.lit (.int .i64 0),.lit (.int .i64 0),.slice .full 5 [],.slice .full 7 []]))]),
 ii 115 (.wop (.appm 5 72) [(.t 109),(.t 114)]),
 ii 116 (.ia 5 (.t 115) (.t 113)),
 ⟨none,none,.sts true 5 (.t 116) (.t 112)⟩,
 ii 117 (.fa 3 (.t 3)),
 ⟨none,none,.sts false 1 (.t 117) (.t 115)⟩]
def F92_r23:List AIns:=[ii 118 (.bin .add (.t 104) (.c (.lit (.int .i64 1)))),
 ii 104 (.mv (.t 118))]
def F92_l1:AC:=.seq (.reg F92_r20 [] [0,3,4,10,11,102,103,104,105] [4]) (.seq (.cond (.t 105) (.skip) (.exit 0)) (.seq (.block 1 (.seq (.reg F92_r21 [] [0,3,4,10,11,14,102,103,104] [4,14]) (.reg F92_r22 [] [0,3,4,10,11,102,103,104] [4]))) (.reg F92_r23 [] [0,3,4,10,11,102,103,104] [4])))
def F92_r24:List AIns:=[ii 119 (.mv (.t 11)),
 ii 120 (.call (.t 119) [])]
def F92_r25:List AIns:=[ii 121 (.mv (.t 10)),
 ii 122 (.len false (.t 121)),
 ii 123 (.mv (.c (.lit (.int .i64 0))))]
def F92_r26:List AIns:=[ii 124 (.bin .lss (.t 123) (.t 122))]
def F92_r27:List AIns:=[ii 125 (.ia 7 (.t 121) (.t 123)),
 ii 126 (.ld true (some 7) (.t 125)),
 ii 16 (.alloc true [.slice .full 1 [],.slice .full 1 [],.lit (.int .i64 0),.lit (.int .i64 0),.lit (.int .i64 0),.slice .full 5 [],.slice .full 7 []]),
 ⟨none,none,.st false 7 (.t 16) (.t 126)⟩]
def F92_r28:List AIns:=[ii 127 (.fa 4 (.t 3)),
 ii 128 (.ldo 3 none (.t 127)),
 ii 129 (.mv (.t 0)),
 ii 130 (.ld false (some 7) (.t 16)),
 ii 131 (.callq [3] (.f N109_) [(.t 129),(.t 130)]),
 ii 132 (.len false (.t 128)),
 ii 133 (.bsl 7 [(.c (.agg [.slice .full 1 [],.slice .full 1 [],.lit (.int .i64 0),.lit (.int .i64 0),.lit (.int .i64 0),.slice .full 5 [],.slice .full 7 []]))]),
 ii 134 (.wop (.appm 7 120) [(.t 128),(.t 133)]),
 ii 135 (.ia 7 (.t 134) (.t 132)),
 ⟨none,none,.sts true 7 (.t 135) (.t 131)⟩,
 ii 136 (.fa 4 (.t 3)),
 ⟨none,none,.sts false 1 (.t 136) (.t 134)⟩]
def F92_r29:List AIns:=[ii 137 (.bin .add (.t 123) (.c (.lit (.int .i64 1)))),
 ii 123 (.mv (.t 137))]
def F92_l2:AC:=.seq (.reg F92_r26 [] [0,3,4,121,122,123,124] [4]) (.seq (.cond (.t 124) (.skip) (.exit 2)) (.seq (.block 3 (.seq (.reg F92_r27 [] [0,3,4,16,121,122,123] [4,16]) (.reg F92_r28 [] [0,3,4,121,122,123] [4]))) (.reg F92_r29 [] [0,3,4,121,122,123] [4])))
def F92_r30:List AIns:=[ii 138 (.ld true (some 5) (.t 3)),
 ⟨none,none,.st false 5 (.t 4) (.t 138)⟩]
def F92_:AFun:=⟨2,.seq (.reg F92_r0 [] [0,3,4] [4]) (.seq (.seq (.reg F92_r1 [] [0,3,4,24] [4]) (.cond (.t 24) (.seq (.reg F92_r2 [5] [0,3,4,5,6] [4,5]) (.seq (.reg F92_r3 [] [0,3,4,5,39] [4,5]) (.cond (.t 39) (.seq (.reg F92_r4 [] [0,4,5,7] [4,5]) (.seq (.seq (.reg F92_r5 [] [0,4,5] [4,5]) (.seq (.reg F92_r6 [] [4,5,57] [4,5]) (.cond (.t 57) (.seq (.reg F92_r7 [] [4] [4]) (.ret)) (.skip)))) (.seq (.reg F92_r8 [] [4] [4]) (.ret)))) (.skip)))) (.skip))) (.seq (.seq (.reg F92_r9 [] [0,3,4] [4]) (.seq (.reg F92_r10 [] [0,3,4,72] [4]) (.cond (.t 72) (.seq (.reg F92_r11 [] [4] [4]) (.ret)) (.skip)))) (.seq (.reg F92_r12 [] [0,3,4,9,10] [4]) (.seq (.reg F92_r13 [] [0,3,4,9,10] [4]) (.seq (.reg F92_r14 [] [0,3,4,9,10,11] [4]) (.seq (.seq (.reg F92_r15 [] [0,3,4,9,10,11,88] [4]) (.cond (.t 88) (.seq (.reg F92_r16 [] [0,3,4,9,10] [4]) (.seq (.reg F92_r17 [] [0,3,4,9,10,11,12] [4]) (.reg F92_r18 [] [0,3,4,9,10,11] [4]))) (.skip))) (.seq (.seq (.reg F92_r19 [] [0,3,4,10,11,102,103,104] [4]) (.block 0 (.loop F92_l1))) (.seq (.reg F92_r24 [] [0,3,4,10] [4]) (.seq (.seq (.reg F92_r25 [] [0,3,4,121,122,123] [4]) (.block 2 (.loop F92_l2))) (.seq (.reg F92_r30 [] [4] [4]) (.ret))))))))))),[.cell (some 5) 4]⟩
def F93_r0:List AIns:=[ii 4 (.box true (.t 1)),
 ii 6 (.alloc true [.lit (.int .i64 0),.lit (.int .i64 0),.lit (.int .i64 0),.slice .full 5 [],.slice .full 7 []])]
def F93_r1:List AIns:=[ii 7 (.fa 0 (.t 4)),
 ii 8 (.ld false none (.t 7)),
 ii 9 (.bin .eql (.t 8) (.c (.lit (.int .i64 2)))),
 ii 10 (.mv (.t 9)),
 ⟨some 11,(some (10,false)),.fa 0 (.t 4)⟩,
 ⟨some 12,(some (10,false)),.ld false none (.t 11)⟩,
 ⟨some 13,(some (10,false)),.bin .eql (.t 12) (.c (.lit (.int .i64 6)))⟩,
 ii 14 (.pick (.t 10) (.c (.lit (.bool true))) (.t 13))]
def F93_r2:List AIns:=[ii 15 (.mv (.t 0)),
 ii 16 (.ld false (some 5) (.t 4)),
 ii 17 (.mv (.t 2)),
 ii 18 (.call (.f N110_) [(.t 15),(.t 16),(.t 17)]),
 ⟨none,none,.st false 5 (.t 6) (.t 18)⟩]
def F93_r3:List AIns:=[ii 19 (.mv (.t 2)),
 ii 20 (.mv (.t 0)),
 ii 21 (.ld false (some 5) (.t 4)),
 ii 22 (.call (.f N58_) [(.t 20),(.t 21)]),
 ii 23 (.call (.t 19) [(.t 22)]),
 ⟨none,none,.st false 5 (.t 6) (.t 23)⟩]
def F93_:AFun:=⟨3,.seq (.reg F93_r0 [] [0,2,4,6] [4,6]) (.seq (.seq (.reg F93_r1 [] [0,2,4,6,14] [4,6]) (.cond (.t 14) (.seq (.reg F93_r2 [] [6] [6]) (.ret)) (.skip))) (.seq (.reg F93_r3 [] [6] [6]) (.ret))),[.cell (some 5) 6]⟩
def F94_r0:List AIns:=[ii 3 (.box false (.t 0)),
 ii 4 (.alloc true [.lit (.int .i64 0),.lit (.int .i64 0),.lit (.int .i64 0),.slice .full 5 [],.slice .full 7 []])]
def F94_r1:List AIns:=[ii 5 (.ld true none (.t 1)),
 ii 6 (.fa 3 (.t 2)),
 ii 7 (.ld true none (.t 6)),
 ii 8 (.ia 5 (.t 7) (.c (.lit (.int .i64 1)))),
 ii 9 (.ld true (some 5) (.t 8)),
 ii 10 (.mkf N95_ [] [(.t 2),(.t 3)]),
 ii 11 (.call (.f N93_) [(.t 5),(.t 9),(.t 10)]),
 ⟨none,none,.st false 5 (.t 4) (.t 11)⟩]
def F94_:AFun:=⟨3,.seq (.reg F94_r0 [] [1,2,3,4] [4]) (.seq (.reg F94_r1 [] [4] [4]) (.ret)),[.cell (some 5) 4]⟩
def F95_r0:List AIns:=[ii 3 (.box true (.t 0)),
 ii 4 (.alloc true [.lit (.int .i64 0),.lit (.int .i64 0),.lit (.int .i64 0),.slice .full 5 [],.slice .full 7 []])]
def F95_r1:List AIns:=[ii 5 (.fa 2 (.t 1)),
 ii 6 (.ld true none (.t 5)),
 ii 7 (.ld true (some 5) (.t 2)),
 ii 8 (.ld false (some 5) (.t 3)),
 ii 9 (.call (.f N96_) [(.t 6),(.t 7),(.t 8)]),
 ⟨none,none,.st false 5 (.t 4) (.t 9)⟩]
def F95_:AFun:=⟨3,.seq (.reg F95_r0 [] [1,2,3,4] [3,4]) (.seq (.reg F95_r1 [] [4] [4]) (.ret)),[.cell (some 5) 4]⟩
def F96_r0:List AIns:=[ii 4 (.box true (.t 1)),
 ii 5 (.box true (.t 2)),
 ii 6 (.alloc true [.lit (.int .i64 0),.lit (.int .i64 0),.lit (.int .i64 0),.slice .full 5 [],.slice .full 7 []])]
def F96_r1:List AIns:=[ii 7 (.mv (.t 0)),
 ii 8 (.ld false (some 5) (.t 4)),
 ii 9 (.ld false (some 5) (.t 5)),
 ii 10 (.bsl 5 [(.t 8),(.t 9)]),
 ii 11 (.build [.lit (.int .i64 0),.lit (.int .i64 0),.lit (.int .i64 0),.slice .full 5 [],.slice .full 7 []] [(0,1,(.c (.lit (.int .i64 9)))),(2,1,(.t 7)),(3,1,(.t 10))]),
 ⟨none,none,.st false 5 (.t 6) (.t 11)⟩]
def F96_:AFun:=⟨3,.seq (.reg F96_r0 [] [0,4,5,6] [4,5,6]) (.seq (.reg F96_r1 [] [6] [6]) (.ret)),[.cell (some 5) 6]⟩
def F97_r0:List AIns:=[ii 5 (.box false (.t 0)),
 ii 6 (.box false (.t 1)),
 ii 7 (.box false (.t 2)),
 ii 8 (.box false (.t 3)),
 ii 9 (.box false (.t 4)),
 ii 10 (.alloc true [.lit (.int .i64 0),.lit (.int .i64 0),.lit (.int .i64 0),.slice .full 5 [],.slice .full 7 []])]
def F97_r1:List AIns:=[ii 16 (.ld true none (.t 9)),
 ii 17 (.len false (.t 16)),
 ii 18 (.bin .eql (.t 17) (.c (.lit (.int .i64 0))))]
def F97_r2:List AIns:=[ii 19 (.ld true none (.t 6)),
 ii 20 (.ld true none (.t 8)),
 ii 21 (.call (.t 19) [(.t 20)]),
 ⟨none,none,.st false 5 (.t 10) (.t 21)⟩]
def F97_r3:List AIns:=[ii 22 (.ld true none (.t 9)),
 ii 23 (.ia 5 (.t 22) (.c (.lit (.int .i64 0)))),
 ii 24 (.ld true (some 5) (.t 23)),
 ii 25 (.ldo 7 none (.t 7)),
 ii 26 (.ldo 8 none (.t 8)),
 ii 27 (.len false (.t 26)),
 ii 28 (.ia 2 (.t 25) (.t 27)),
 ii 29 (.wop (.ldv (some 2)) [(.t 28)]),
 ii 11 (.alloc true [.lit (.int .i64 0),.lit (.int .i64 0),.lit (.int .i64 0),.slice .full 5 [],.slice .full 7 []]),
 ii 12 (.alloc true [.lit (.int .i64 0),.lit (.bool false)]),
 ⟨none,none,.st false 5 (.t 11) (.t 24)⟩,
 ⟨none,none,.st false 2 (.t 12) (.t 29)⟩]
def F97_r4:List AIns:=[ii 30 (.mkf N111_ [] [(.t 5),(.t 6),(.t 7),(.t 8),(.t 9)]),
 ii 13 (.mv (.t 30))]
def F97_r5:List AIns:=[ii 31 (.ld true none (.t 5)),
 ii 32 (.ld false (some 5) (.t 11)),
 ii 33 (.ld false (some 2) (.t 12)),
 ii 34 (.call (.f N112_) [(.t 31),(.t 32),(.t 33)]),
 ii 35 (.unot (.t 34))]
def F97_r6:List AIns:=[ii 36 (.mv (.t 13)),
 ii 37 (.ld true none (.t 5)),
 ii 38 (.ld false (some 5) (.t 11)),
 ii 39 (.call (.f N58_) [(.t 37),(.t 38)]),
 ii 40 (.call (.t 36) [(.t 39)]),
 ⟨none,none,.st false 5 (.t 10) (.t 40)⟩]
def F97_r7:List AIns:=[ii 41 (.fa 0 (.t 11)),
 ii 42 (.ld false none (.t 41))]
def F97_r8:List AIns:=[ii 44 (.bin .eql (.t 42) (.c (.lit (.int .i64 3)))),
 ii 43 (.mv (.t 44))]
def F97_r9:List AIns:=[ii 45 (.ld true none (.t 5)),
 ii 46 (.call (.f N113_) [(.t 45),(.c (.lit (.bool false)))]),
 ii 14 (.mv (.t 46))]
def F97_r10:List AIns:=[ii 47 (.fa 0 (.t 12)),
 ii 48 (.ld false none (.t 47)),
 ii 49 (.ld true none (.t 5)),
 ii 50 (.ld false (some 5) (.t 11)),
 ii 51 (.call (.f N58_) [(.t 49),(.t 50)]),
 ii 52 (.fa 0 (.t 12)),
 ii 53 (.ld false none (.t 52)),
 ii 54 (.mv (.t 14)),
 ii 55 (.mv (.t 13)),
 ii 56 (.mv (.t 14)),
 ii 57 (.build [.lit (.int .i64 0),.lit (.int .i64 0),.lit (.int .i64 0),.slice .full 5 [],.slice .full 7 []] [(0,1,(.c (.lit (.int .i64 0)))),(1,1,(.t 56))]),
 ii 58 (.call (.t 55) [(.t 57)]),
 ii 59 (.bsl 5 [(.t 58)]),
 ii 60 (.build [.lit (.int .i64 0),.lit (.int .i64 0),.lit (.int .i64 0),.slice .full 5 [],.slice .full 7 []] [(0,1,(.c (.lit (.int .i64 7)))),(2,1,(.t 53)),(1,1,(.t 54)),(3,1,(.t 59))]),
 ii 61 (.call (.f N96_) [(.t 48),(.t 51),(.t 60)]),
 ⟨none,none,.st false 5 (.t 10) (.t 61)⟩]
def F97_r11:List AIns:=[ii 63 (.bin .eql (.t 42) (.c (.lit (.int .i64 7)))),
 ii 62 (.mv (.t 63))]
def F97_r12:List AIns:=[ii 64 (.ld true none (.t 5)),
 ii 65 (.call (.f N113_) [(.t 64),(.c (.lit (.bool true)))]),
 ii 15 (.mv (.t 65))]
def F97_r13:List AIns:=[ii 66 (.fa 0 (.t 12)),
 ii 67 (.ld false none (.t 66)),
 ii 68 (.fa 0 (.t 12)),
 ii 69 (.ld false none (.t 68)),
 ii 70 (.mv (.t 15)),
 ii 71 (.mv (.t 13)),
 ii 72 (.mv (.t 15)),
 ii 73 (.build [.lit (.int .i64 0),.lit (.int .i64 0),.lit (.int .i64 0),.slice .full 5 [],.slice .full 7 []] [(0,1,(.c (.lit (.int .i64 5)))),(1,1,(.t 72))]),
 ii 74 (.callq [5] (.t 71) [(.t 73)]),
 ii 75 (.bsl 5 [(.t 74)]),
 ii 76 (.build [.lit (.int .i64 0),.lit (.int .i64 0),.lit (.int .i64 0),.slice .full 5 [],.slice .full 7 []] [(0,1,(.c (.lit (.int .i64 3)))),(2,1,(.t 69)),(1,1,(.t 70)),(3,1,(.t 75))]),
 ii 77 (.ldo 5 none (.t 5)),
 ii 78 (.ld false (some 5) (.t 11)),
 ii 79 (.call (.f N58_) [(.t 77),(.t 78)]),
 ii 80 (.call (.f N96_) [(.t 67),(.t 76),(.t 79)]),
 ⟨none,none,.st false 5 (.t 10) (.t 80)⟩]
def F97_r14:List AIns:=[ii 81 (.ld true none (.t 5)),
 ii 82 (.ld false (some 5) (.t 11)),
 ii 83 (.mv (.t 13)),
 ii 84 (.call (.f N110_) [(.t 81),(.t 82),(.t 83)]),
 ⟨none,none,.st false 5 (.t 10) (.t 84)⟩]
def F97_:AFun:=⟨5,.seq (.reg F97_r0 [] [5,6,7,8,9,10] [10]) (.seq (.seq (.reg F97_r1 [] [5,6,7,8,9,10,18] [10]) (.cond (.t 18) (.seq (.reg F97_r2 [] [10] [10]) (.ret)) (.skip))) (.seq (.reg F97_r3 [11,12] [5,6,7,8,9,10,11,12] [10,11,12]) (.seq (.reg F97_r4 [] [5,10,11,12,13] [10,11,12]) (.seq (.seq (.reg F97_r5 [] [5,10,11,12,13,35] [10,11,12]) (.cond (.t 35) (.seq (.reg F97_r6 [] [10] [10]) (.ret)) (.skip))) (.seq (.seq (.reg F97_r7 [] [5,10,11,12,13,42] [10,11,12]) (.block 0 (.seq (.reg F97_r8 [] [5,10,11,12,13,42,43] [10,11,12]) (.cond (.t 43) (.seq (.reg F97_r9 [] [5,10,11,12,13,14] [10,11,12]) (.seq (.reg F97_r10 [] [10] [10]) (.ret))) (.seq (.reg F97_r11 [] [5,10,11,12,13,62] [10,11,12]) (.cond (.t 62) (.seq (.reg F97_r12 [] [5,10,11,12,13,15] [10,11,12]) (.seq (.reg F97_r13 [] [10] [10]) (.ret))) (.skip))))))) (.seq (.reg F97_r14 [] [10] [10]) (.ret))))))),[.cell (some 5) 10]⟩
def F98_r0:List AIns:=[ii 4 (.alloc true [.lit (.int .i64 0),.lit (.int .i64 0),.lit (.int .i64 0),.slice .full 5 [],.slice .full 7 []])]
def F98_r1:List AIns:=[ii 5 (.fa 1 (.t 1)),
 ii 6 (.ldo 1 none (.t 5)),
 ii 7 (.mv (.t 0)),
 ii 8 (.ia 5 (.t 7) (.c (.lit (.int .i64 0)))),
 ii 9 (.ld true (some 5) (.t 8)),
 ii 10 (.mv (.t 0)),
 ii 11 (.ia 5 (.t 10) (.c (.lit (.int .i64 1)))),
 ii 12 (.ld true (some 5) (.t 11)),
 ii 13 (.ld true none (.t 2)),
 ii 14 (.fa 3 (.t 1)),
 ii 15 (.ld true none (.t 14)),
 ii 16 (.ia 5 (.t 15) (.c (.lit (.int .i64 2)))),
 ii 17 (.ld true (some 5) (.t 16)),
 ii 18 (.callq [1] (.f N58_) [(.t 13),(.t 17)]),
 ii 19 (.bsl 5 [(.t 9),(.t 12),(.t 18)]),
 ii 20 (.build [.lit (.int .i64 0),.lit (.int .i64 0),.lit (.int .i64 0),.slice .full 5 [],.slice .full 7 []] [(0,1,(.c (.lit (.int .i64 10)))),(1,1,(.t 6)),(3,1,(.t 19))]),
 ⟨none,none,.st false 5 (.t 4) (.t 20)⟩]
def F98_:AFun:=⟨3,.seq (.reg F98_r0 [] [0,1,2,4] [4]) (.seq (.regd F98_r1 [] [4] [4] [[],[0],[],[2],[3],[],[5],[6],[],[],[9],[10],[11],[8,12],[4,7,13],[1,14],[15,13,0,1,2,3,4,5,6,7,8,9,10,11,12,13,14,15]]) (.ret)),[.cell (some 5) 4]⟩
def F99_r0:List AIns:=[ii 3 (.alloc true [.lit (.int .i64 0),.lit (.int .i64 0),.lit (.int .i64 0),.slice .full 5 [],.slice .full 7 []])]
def F99_r1:List AIns:=[ii 4 (.fa 1 (.t 1)),
 ii 5 (.ld true none (.t 4)),
 ii 6 (.mv (.t 0)),
 ii 7 (.app 5 72 (.c (.slice .full 5 [])) (.t 6)),
 ii 8 (.build [.lit (.int .i64 0),.lit (.int .i64 0),.lit (.int .i64 0),.slice .full 5 [],.slice .full 7 []] [(0,1,(.c (.lit (.int .i64 13)))),(1,1,(.t 5)),(3,1,(.t 7))]),
 ⟨none,none,.st false 5 (.t 3) (.t 8)⟩]
def F99_:AFun:=⟨2,.seq (.reg F99_r0 [] [0,1,3] [3]) (.seq (.regd F99_r1 [] [3] [3] [[],[0],[],[2],[1,3],[4,3,0,1,2,3,4]]) (.ret)),[.cell (some 5) 3]⟩
def F100_r0:List AIns:=[ii 4 (.alloc true [.lit (.int .i64 0),.lit (.int .i64 0),.lit (.int .i64 0),.slice .full 5 [],.slice .full 7 []])]
def F100_r1:List AIns:=[ii 8 (.fa 0 (.t 1)),
 ii 9 (.ld true none (.t 8)),
 ii 10 (.mv (.t 0)),
 ii 11 (.ia 5 (.t 10) (.c (.lit (.int .i64 0)))),
 ii 12 (.ld true (some 5) (.t 11)),
 ii 13 (.bsl 5 [(.t 12)]),
 ii 14 (.build [.lit (.int .i64 0),.lit (.int .i64 0),.lit (.int .i64 0),.slice .full 5 [],.slice .full 7 []] [(0,1,(.t 9)),(3,1,(.t 13))]),
 ii 5 (.alloc true [.lit (.int .i64 0),.lit (.int .i64 0),.lit (.int .i64 0),.slice .full 5 [],.slice .full 7 []]),
 ⟨none,none,.st false 5 (.t 5) (.t 14)⟩]
def F100_r2:List AIns:=[ii 15 (.fa 3 (.t 1)),
 ii 16 (.ld true none (.t 15)),
 ii 17 (.sl 5 (.t 16) (some (.c (.lit (.int .i64 1)))) none none),
 ii 18 (.len false (.t 17)),
 ii 19 (.mv (.c (.lit (.int .i64 0))))]
def F100_r3:List AIns:=[ii 20 (.bin .lss (.t 19) (.t 18))]
def F100_r4:List AIns:=[ii 21 (.ia 5 (.t 17) (.t 19)),
 ii 22 (.ld true (some 5) (.t 21)),
 ii 7 (.alloc true [.lit (.int .i64 0),.lit (.int .i64 0),.lit (.int .i64 0),.slice .full 5 [],.slice .full 7 []]),
 ⟨none,none,.st false 5 (.t 7) (.t 22)⟩]
def F100_r5:List AIns:=[ii 23 (.fa 3 (.t 5)),
 ii 24 (.ld false none (.t 23)),
 ii 25 (.ld true none (.t 2)),
 ii 26 (.ld false (some 5) (.t 7)),
 ii 27 (.call (.f N58_) [(.t 25),(.t 26)]),
 ii 28 (.bsl 5 [(.t 27)]),
 ii 29 (.app 5 72 (.t 24) (.t 28)),
 ii 30 (.fa 3 (.t 5)),
 ⟨none,none,.st false 1 (.t 30) (.t 29)⟩]
def F100_r6:List AIns:=[ii 31 (.bin .add (.t 19) (.c (.lit (.int .i64 1)))),
 ii 19 (.mv (.t 31))]
def F100_l1:AC:=.seq (.reg F100_r3 [] [2,4,5,17,18,19,20] [4,5]) (.seq (.cond (.t 20) (.skip) (.exit 0)) (.seq (.block 1 (.seq (.reg F100_r4 [] [2,4,5,7,17,18,19] [4,5,7]) (.reg F100_r5 [] [2,4,5,17,18,19] [4,5]))) (.reg F100_r6 [] [2,4,5,17,18,19] [4,5])))
def F100_r7:List AIns:=[ii 32 (.ld false (some 5) (.t 5)),
 ⟨none,none,.st false 5 (.t 4) (.t 32)⟩]
def F100_:AFun:=⟨3,.seq (.reg F100_r0 [] [0,1,2,4] [4]) (.seq (.reg F100_r1 [5] [1,2,4,5] [4,5]) (.seq (.seq (.reg F100_r2 [] [2,4,5,17,18,19] [4,5]) (.block 0 (.loop F100_l1))) (.seq (.reg F100_r7 [] [4] [4]) (.ret)))),[.cell (some 5) 4]⟩
def F102_r0:List AIns:=[ii 3 (.box true (.t 0)),
 ii 4 (.box true (.t 1)),
 ii 5 (.box true (.t 2))]
def F102_r1:List AIns:=[ii 20 (.ld false (some 5) (.t 3)),
 ii 21 (.call (.f N105_) [(.t 20)]),
 ii 19 (.mv (.t 21)),
 ii 22 (.ext (.t 19) 0),
 ii 23 (.ext (.t 19) 1),
 ii 6 (.mv (.t 22)),
 ii 7 (.mv (.t 23))]
def F102_r2:List AIns:=[ii 24 (.fa 0 (.t 3)),
 ii 25 (.ld false none (.t 24))]
def F102_r3:List AIns:=[ii 27 (.bin .eql (.t 25) (.c (.lit (.int .i64 0)))),
 ii 26 (.mv (.t 27))]
def F102_r4:List AIns:=[ii 28 (.bin .eql (.t 25) (.c (.lit (.int .i64 5)))),
 ii 26 (.mv (.t 28))]
def F102_r5:List AIns:=[ii 29 (.fa 0 (.t 3)),
 ii 30 (.ld false none (.t 29)),
 ii 31 (.call (.f N51_) [(.t 30)]),
 ii 8 (.mv (.t 31))]
def F102_r6:List AIns:=[ii 32 (.mv (.t 8)),
 ii 33 (.iaa 2 1 (.t 4) (.t 32)),
 ii 34 (.ld false none (.t 33)),
 ii 35 (.fa 1 (.t 3)),
 ii 36 (.ld false none (.t 35)),
 ii 37 (.lk (.int .i64) (.lit (.int .i64 0)) false (.t 34) (.t 36)),
 ii 38 (.bin .eql (.t 37) (.c (.lit (.int .i64 0))))]
def F102_r7:List AIns:=[ii 39 (.mv (.t 8)),
 ii 40 (.iaa 2 1 (.t 5) (.t 39)),
 ii 41 (.ld false none (.t 40)),
 ii 42 (.fa 1 (.t 3)),
 ii 43 (.ld false none (.t 42)),
 ⟨none,none,.mu (.int .i64) (.t 41) (.t 43) (.c (.lit (.bool true)))⟩]
def F102_r8:List AIns:=[ii 44 (.fa 0 (.t 3)),
 ii 45 (.ld false none (.t 44)),
 ii 46 (.bin .eql (.t 45) (.c (.lit (.int .i64 3)))),
 ii 47 (.mv (.t 46)),
 ⟨some 48,(some (47,false)),.fa 0 (.t 3)⟩,
 ⟨some 49,(some (47,false)),.ld false none (.t 48)⟩,
 ⟨some 50,(some (47,false)),.bin .eql (.t 49) (.c (.lit (.int .i64 7)))⟩,
 ii 51 (.pick (.t 47) (.c (.lit (.bool true))) (.t 50)),
 ii 9 (.mv (.t 51))]
def F102_r9:List AIns:=[ii 52 (.fa 0 (.t 3)),
 ii 53 (.ld false none (.t 52)),
 ii 54 (.bin .eql (.t 53) (.c (.lit (.int .i64 3)))),
 ii 55 (.call (.f N64_) [(.t 54)]),
 ii 10 (.mv (.t 55))]
def F102_r10:List AIns:=[ii 56 (.mv (.t 9))]
def F102_r11:List AIns:=[ii 57 (.mv (.t 10)),
 ii 58 (.iaa 2 1 (.t 4) (.t 57)),
 ii 59 (.ld false none (.t 58)),
 ii 60 (.fa 1 (.t 3)),
 ii 61 (.ld false none (.t 60)),
 ii 62 (.lk (.int .i64) (.lit (.int .i64 0)) false (.t 59) (.t 61)),
 ii 63 (.bin .add (.t 62) (.c (.lit (.int .i64 1)))),
 ⟨none,none,.mu (.int .i64) (.t 59) (.t 61) (.t 63)⟩]
def F102_r12:List AIns:=[ii 64 (.mv (.t 6)),
 ii 65 (.len false (.t 64)),
 ii 66 (.mv (.c (.lit (.int .i64 0))))]
def F102_r13:List AIns:=[ii 67 (.bin .lss (.t 66) (.t 65))]
def F102_r14:List AIns:=[ii 68 (.ia 5 (.t 64) (.t 66)),
 ii 69 (.ld true (some 5) (.t 68)),
 ii 12 (.alloc true [.lit (.int .i64 0),.lit (.int .i64 0),.lit (.int .i64 0),.slice .full 5 [],.slice .full 7 []]),
 ⟨none,none,.st false 5 (.t 12) (.t 69)⟩]
def F102_r15:List AIns:=[ii 70 (.ld false (some 5) (.t 12)),
 ii 71 (.ld false (some 2) (.t 4)),
 ii 72 (.ld false (some 2) (.t 5)),
 ii 73 (.call (.f N102_) [(.t 70),(.t 71),(.t 72)])]
def F102_r16:List AIns:=[ii 74 (.bin .add (.t 66) (.c (.lit (.int .i64 1)))),
 ii 66 (.mv (.t 74))]
def F102_l1:AC:=.seq (.reg F102_r13 [] [3,4,5,7,9,10,64,65,66,67] [3,4,5]) (.seq (.cond (.t 67) (.skip) (.exit 1)) (.seq (.block 2 (.seq (.reg F102_r14 [] [3,4,5,7,9,10,12,64,65,66] [3,4,5,12]) (.reg F102_r15 [] [3,4,5,7,9,10,64,65,66] [3,4,5]))) (.reg F102_r16 [] [3,4,5,7,9,10,64,65,66] [3,4,5])))
def F102_r17:List AIns:=[ii 75 (.mv (.t 9))]
def F102_r18:List AIns:=[ii 76 (.mv (.t 10)),
 ii 77 (.iaa 2 1 (.t 4) (.t 76)),
 ii 78 (.ld false none (.t 77)),
 ii 79 (.fa 1 (.t 3)),
 ii 80 (.ld false none (.t 79)),
 ii 81 (.lk (.int .i64) (.lit (.int .i64 0)) false (.t 78) (.t 80)),
 ii 82 (.bin .sub (.t 81) (.c (.lit (.int .i64 1)))),
 ⟨none,none,.mu (.int .i64) (.t 78) (.t 80) (.t 82)⟩]
def F102_r19:List AIns:=[ii 83 (.mv (.t 7)),
 ii 84 (.len false (.t 83)),
 ii 85 (.mv (.c (.lit (.int .i64 0))))]
def F102_r20:List AIns:=[ii 86 (.bin .lss (.t 85) (.t 84))]
def F102_r21:List AIns:=[ii 87 (.ia 7 (.t 83) (.t 85)),
 ii 88 (.ld true (some 7) (.t 87)),
 ii 14 (.alloc true [.slice .full 1 [],.slice .full 1 [],.lit (.int .i64 0),.lit (.int .i64 0),.lit (.int .i64 0),.slice .full 5 [],.slice .full 7 []]),
 ⟨none,none,.st false 7 (.t 14) (.t 88)⟩]
def F102_r22:List AIns:=[ii 89 (.fa 0 (.t 14)),
 ii 90 (.ld false none (.t 89)),
 ii 91 (.len false (.t 90)),
 ii 92 (.mv (.c (.lit (.int .i64 0))))]
def F102_r23:List AIns:=[ii 93 (.bin .lss (.t 92) (.t 91))]
def F102_r24:List AIns:=[ii 94 (.mv (.t 92)),
 ii 95 (.ia 1 (.t 90) (.t 92)),
 ii 96 (.ld true none (.t 95)),
 ii 15 (.mv (.t 94)),
 ii 16 (.mv (.t 96))]
def F102_r25:List AIns:=[ii 97 (.ld false (some 7) (.t 14)),
 ii 98 (.mv (.t 15)),
 ii 99 (.call (.f N118_) [(.t 97),(.t 98)]),
 ii 100 (.call (.f N64_) [(.t 99)]),
 ii 101 (.iaa 2 1 (.t 4) (.t 100)),
 ii 102 (.ld false none (.t 101)),
 ii 103 (.mv (.t 16)),
 ii 104 (.lk (.int .i64) (.lit (.int .i64 0)) false (.t 102) (.t 103)),
 ii 105 (.bin .add (.t 104) (.c (.lit (.int .i64 1)))),
 ⟨none,none,.mu (.int .i64) (.t 102) (.t 103) (.t 105)⟩]
def F102_r26:List AIns:=[ii 106 (.bin .add (.t 92) (.c (.lit (.int .i64 1)))),
 ii 92 (.mv (.t 106))]
def F102_l3:AC:=.seq (.reg F102_r23 [] [4,5,14,83,84,85,90,91,92,93] [4,5,14]) (.seq (.cond (.t 93) (.skip) (.exit 5)) (.seq (.block 6 (.seq (.reg F102_r24 [] [4,5,14,15,16,83,84,85,90,91,92] [4,5,14]) (.reg F102_r25 [] [4,5,14,83,84,85,90,91,92] [4,5,14]))) (.reg F102_r26 [] [4,5,14,83,84,85,90,91,92] [4,5,14])))
def F102_r27:List AIns:=[ii 107 (.fa 2 (.t 14)),
 ii 108 (.ld false (some 5) (.t 107)),
 ii 109 (.ld false (some 2) (.t 4)),
 ii 110 (.ld false (some 2) (.t 5)),
 ii 111 (.call (.f N102_) [(.t 108),(.t 109),(.t 110)])]
def F102_r28:List AIns:=[ii 112 (.fa 0 (.t 14)),
 ii 113 (.ld false none (.t 112)),
 ii 114 (.len false (.t 113)),
 ii 115 (.mv (.c (.lit (.int .i64 0))))]
def F102_r29:List AIns:=[ii 116 (.bin .lss (.t 115) (.t 114))]
def F102_r30:List AIns:=[ii 117 (.mv (.t 115)),
 ii 118 (.ia 1 (.t 113) (.t 115)),
 ii 119 (.ld true none (.t 118)),
 ii 17 (.mv (.t 117)),
 ii 18 (.mv (.t 119))]
def F102_r31:List AIns:=[ii 120 (.ld false (some 7) (.t 14)),
 ii 121 (.mv (.t 17)),
 ii 122 (.call (.f N118_) [(.t 120),(.t 121)]),
 ii 123 (.call (.f N64_) [(.t 122)]),
 ii 124 (.iaa 2 1 (.t 4) (.t 123)),
 ii 125 (.ld false none (.t 124)),
 ii 126 (.mv (.t 18)),
 ii 127 (.lk (.int .i64) (.lit (.int .i64 0)) false (.t 125) (.t 126)),
 ii 128 (.bin .sub (.t 127) (.c (.lit (.int .i64 1)))),
 ⟨none,none,.mu (.int .i64) (.t 125) (.t 126) (.t 128)⟩]
def F102_r32:List AIns:=[ii 129 (.bin .add (.t 115) (.c (.lit (.int .i64 1)))),
 ii 115 (.mv (.t 129))]
def F102_l4:AC:=.seq (.reg F102_r29 [] [4,5,14,83,84,85,113,114,115,116] [4,5,14]) (.seq (.cond (.t 116) (.skip) (.exit 7)) (.seq (.block 8 (.seq (.reg F102_r30 [] [4,5,14,17,18,83,84,85,113,114,115] [4,5,14]) (.reg F102_r31 [] [4,5,14,83,84,85,113,114,115] [4,5,14]))) (.reg F102_r32 [] [4,5,14,83,84,85,113,114,115] [4,5,14])))
def F102_r33:List AIns:=[ii 130 (.bin .add (.t 85) (.c (.lit (.int .i64 1)))),
 ii 85 (.mv (.t 130))]
def F102_l2:AC:=.seq (.reg F102_r20 [] [4,5,83,84,85,86] [4,5]) (.seq (.cond (.t 86) (.skip) (.exit 3)) (.seq (.block 4 (.seq (.reg F102_r21 [] [4,5,14,83,84,85] [4,5,14]) (.seq (.seq (.reg F102_r22 [] [4,5,14,83,84,85,90,91,92] [4,5,14]) (.block 5 (.loop F102_l3))) (.seq (.reg F102_r27 [] [4,5,14,83,84,85] [4,5,14]) (.seq (.reg F102_r28 [] [4,5,14,83,84,85,113,114,115] [4,5,14]) (.block 7 (.loop F102_l4))))))) (.reg F102_r33 [] [4,5,83,84,85] [4,5])))
def F102_:AFun:=⟨3,.seq (.reg F102_r0 [] [3,4,5] [3,4,5]) (.seq (.reg F102_r1 [] [3,4,5,6,7] [3,4,5]) (.seq (.seq (.reg F102_r2 [] [3,4,5,6,7,25] [3,4,5]) (.block 0 (.seq (.seq (.reg F102_r3 [] [3,4,5,6,7,25,26] [3,4,5]) (.cond (.t 26) (.skip) (.reg F102_r4 [] [3,4,5,6,7,26] [3,4,5]))) (.cond (.t 26) (.seq (.reg F102_r5 [] [3,4,5,6,7,8] [3,4,5]) (.seq (.reg F102_r6 [] [3,4,5,6,7,8,38] [3,4,5]) (.cond (.t 38) (.reg F102_r7 [] [3,4,5,6,7] [3,4,5]) (.skip)))) (.skip))))) (.seq (.reg F102_r8 [] [3,4,5,6,7,9] [3,4,5]) (.seq (.reg F102_r9 [] [3,4,5,6,7,9,10] [3,4,5]) (.seq (.seq (.reg F102_r10 [] [3,4,5,6,7,9,10,56] [3,4,5]) (.cond (.t 56) (.reg F102_r11 [] [3,4,5,6,7,9,10] [3,4,5]) (.skip))) (.seq (.seq (.reg F102_r12 [] [3,4,5,7,9,10,64,65,66] [3,4,5]) (.block 1 (.loop F102_l1))) (.seq (.seq (.reg F102_r17 [] [3,4,5,7,10,75] [3,4,5]) (.cond (.t 75) (.reg F102_r18 [] [4,5,7] [4,5]) (.skip))) (.seq (.reg F102_r19 [] [4,5,83,84,85] [4,5]) (.block 3 (.loop F102_l2)))))))))),[]⟩
def F103_r0:List AIns:=[ii 1 (.box true (.t 0)),
 ii 2 (.mv (.c (.lit (.int .i64 0)))),
 ii 3 (.mv (.c (.lit (.int .i64 0))))]
def F103_r1:List AIns:=[ii 5 (.ld false (some 5) (.t 1)),
 ii 6 (.call (.f N119_) [(.t 5),(.f N120_)]),
 ii 4 (.alloc true [.lit (.int .i64 0),.lit (.int .i64 0)]),
 ⟨none,none,.st false 2 (.t 4) (.t 6)⟩]
def F103_r2:List AIns:=[ii 7 (.iaa 2 1 (.t 4) (.c (.lit (.int .i64 0)))),
 ii 8 (.ld false none (.t 7)),
 ii 9 (.iaa 2 1 (.t 4) (.c (.lit (.int .i64 1)))),
 ii 10 (.ld false none (.t 9)),
 ii 2 (.mv (.t 8)),
 ii 3 (.mv (.t 10))]
def F103_:AFun:=⟨1,.seq (.reg F103_r0 [] [1] [1]) (.seq (.reg F103_r1 [] [4] [4]) (.seq (.reg F103_r2 [] [2,3] []) (.ret))),[.t 2,.t 3]⟩
def F104_r0:List AIns:=[ii 1 (.box true (.t 0)),
 ii 2 (.alloc true [.lit (.int .i64 0),.lit (.int .i64 0),.lit (.int .i64 0),.slice .full 5 [],.slice .full 7 []])]
def F104_r1:List AIns:=[ii 10 (.ld false (some 5) (.t 1)),
 ii 11 (.call (.f N105_) [(.t 10)]),
 ii 9 (.mv (.t 11)),
 ii 12 (.ext (.t 9) 0),
 ii 13 (.ext (.t 9) 1),
 ii 3 (.mv (.t 12)),
 ii 4 (.mv (.t 13))]
def F104_r2:List AIns:=[ii 14 (.fa 3 (.t 1)),
 ⟨none,none,.st false 1 (.t 14) (.c (.slice .full 5 []))⟩,
 ii 15 (.fa 4 (.t 1)),
 ⟨none,none,.st false 1 (.t 15) (.c (.slice .full 7 []))⟩]
def F104_r3:List AIns:=[ii 16 (.mv (.t 3)),
 ii 17 (.len false (.t 16)),
 ii 18 (.mv (.c (.lit (.int .i64 0))))]
def F104_r4:List AIns:=[ii 19 (.bin .lss (.t 18) (.t 17))]
def F104_r5:List AIns:=[ii 20 (.ia 5 (.t 16) (.t 18)),
 ii 21 (.ld true (some 5) (.t 20)),
 ii 6 (.alloc true [.lit (.int .i64 0),.lit (.int .i64 0),.lit (.int .i64 0),.slice .full 5 [],.slice .full 7 []]),
 ⟨none,none,.st false 5 (.t 6) (.t 21)⟩]
def F104_r6:List AIns:=[ii 22 (.fa 3 (.t 1)),
 ii 23 (.ld false none (.t 22)),
 ii 24 (.ld false (some 5) (.t 6)),
 ii 25 (.call (.f N104_) [(.t 24)]),
 ii 26 (.bsl 5 [(.t 25)]),
 ii 27 (.app 5 72 (.t 23) (.t 26)),
 ii 28 (.fa 3 (.t 1)),
 ⟨none,none,.st false 1 (.t 28) (.t 27)⟩]
def F104_r7:List AIns:=[ii 29 (.bin .add (.t 18) (.c (.lit (.int .i64 1)))),
 ii 18 (.mv (.t 29))]
def F104_l1:AC:=.seq (.reg F104_r4 [] [1,2,4,16,17,18,19] [1,2]) (.seq (.cond (.t 19) (.skip) (.exit 0)) (.seq (.block 1 (.seq (.reg F104_r5 [] [1,2,4,6,16,17,18] [1,2,6]) (.reg F104_r6 [] [1,2,4,16,17,18] [1,2]))) (.reg F104_r7 [] [1,2,4,16,17,18] [1,2])))
def F104_r8:List AIns:=[ii 30 (.mv (.t 4)),
 ii 31 (.len false (.t 30)),
 ii 32 (.mv (.c (.lit (.int .i64 0))))]
def F104_r9:List AIns:=[ii 33 (.bin .lss (.t 32) (.t 31))]
def F104_r10:List AIns:=[ii 34 (.ia 7 (.t 30) (.t 32)),
 ii 35 (.ld true (some 7) (.t 34)),
 ii 8 (.alloc true [.slice .full 1 [],.slice .full 1 [],.lit (.int .i64 0),.lit (.int .i64 0),.lit (.int .i64 0),.slice .full 5 [],.slice .full 7 []]),
 ⟨none,none,.st false 7 (.t 8) (.t 35)⟩]
def F104_r11:List AIns:=[ii 36 (.fa 4 (.t 1)),
 ii 37 (.ld false none (.t 36)),
 ii 38 (.fa 0 (.t 8)),
 ii 39 (.ld false none (.t 38)),
 ii 40 (.call (.f N11_) [(.t 39)]),
 ii 41 (.fa 1 (.t 8)),
 ii 42 (.ld false none (.t 41)),
 ii 43 (.call (.f N121_) [(.t 42)]),
 ii 44 (.fa 2 (.t 8)),
 ii 45 (.ld false (some 5) (.t 44)),
 ii 46 (.call (.f N104_) [(.t 45)]),
 ii 47 (.build [.slice .full 1 [],.slice .full 1 [],.lit (.int .i64 0),.lit (.int .i64 0),.lit (.int .i64 0),.slice .full 5 [],.slice .full 7 []] [(0,1,(.t 40)),(1,1,(.t 43)),(2,5,(.t 46))]),
 ii 48 (.bsl 7 [(.t 47)]),
 ii 49 (.app 7 120 (.t 37) (.t 48)),
 ii 50 (.fa 4 (.t 1)),
 ⟨none,none,.st false 1 (.t 50) (.t 49)⟩]
def F104_r12:List AIns:=[ii 51 (.bin .add (.t 32) (.c (.lit (.int .i64 1)))),
 ii 32 (.mv (.t 51))]
def F104_l2:AC:=.seq (.reg F104_r9 [] [1,2,30,31,32,33] [1,2]) (.seq (.cond (.t 33) (.skip) (.exit 2)) (.seq (.block 3 (.seq (.reg F104_r10 [] [1,2,8,30,31,32] [1,2,8]) (.reg F104_r11 [] [1,2,30,31,32] [1,2]))) (.reg F104_r12 [] [1,2,30,31,32] [1,2])))
def F104_r13:List AIns:=[ii 52 (.ld false (some 5) (.t 1)),
 ⟨none,none,.st false 5 (.t 2) (.t 52)⟩]
def F104_:AFun:=⟨1,.seq (.reg F104_r0 [] [1,2] [1,2]) (.seq (.reg F104_r1 [] [1,2,3,4] [1,2]) (.seq (.reg F104_r2 [] [1,2,3,4] [1,2]) (.seq (.seq (.reg F104_r3 [] [1,2,4,16,17,18] [1,2]) (.block 0 (.loop F104_l1))) (.seq (.seq (.reg F104_r8 [] [1,2,30,31,32] [1,2]) (.block 2 (.loop F104_l2))) (.seq (.reg F104_r13 [] [2] [2]) (.ret)))))),[.cell (some 5) 2]⟩
def F105_r0:List AIns:=[ii 1 (.box true (.t 0)),
 ii 2 (.mv (.c (.slice .full 5 []))),
 ii 3 (.mv (.c (.slice .full 7 [])))]
def F105_r1:List AIns:=[ii 4 (.fa 0 (.t 1)),
 ii 5 (.ld false none (.t 4)),
 ii 6 (.bin .eql (.t 5) (.c (.lit (.int .i64 0)))),
 ii 7 (.mv (.t 6)),
 ⟨some 8,(some (7,false)),.fa 0 (.t 1)⟩,
 ⟨some 9,(some (7,false)),.ld false none (.t 8)⟩,
 ⟨some 10,(some (7,false)),.bin .eql (.t 9) (.c (.lit (.int .i64 5)))⟩,
 ii 11 (.pick (.t 7) (.c (.lit (.bool true))) (.t 10)),
 ii 12 (.mv (.t 11)),
 ⟨some 13,(some (12,false)),.fa 0 (.t 1)⟩,
 ⟨some 14,(some (12,false)),.ld false none (.t 13)⟩,
 ⟨some 15,(some (12,false)),.bin .eql (.t 14) (.c (.lit (.int .i64 1)))⟩,
 ii 16 (.pick (.t 12) (.c (.lit (.bool true))) (.t 15))]
def F105_r2:List AIns:=[ii 2 (.mv (.c (.slice .full 5 []))),
 ii 3 (.mv (.c (.slice .full 7 [])))]
def F105_r3:List AIns:=[ii 17 (.fa 3 (.t 1)),
 ii 18 (.ld false none (.t 17)),
 ii 19 (.fa 4 (.t 1)),
 ii 20 (.ld false none (.t 19)),
 ii 2 (.mv (.t 18)),
 ii 3 (.mv (.t 20))]
def F105_:AFun:=⟨1,.seq (.reg F105_r0 [] [1] [1]) (.seq (.seq (.reg F105_r1 [] [1,16] [1]) (.cond (.t 16) (.seq (.reg F105_r2 [] [2,3] []) (.ret)) (.skip))) (.seq (.reg F105_r3 [] [2,3] []) (.ret))),[.t 2,.t 3]⟩
def F106_:AFun:=⟨0,.skip,[]⟩
def F107_r0:List AIns:=[ii 3 (.box false (.t 0)),
 ii 6 (.mv (.c (.slice .full 1 []))),
 ii 7 (.mv (.c (.lit .nilFunc)))]
def F107_r1:List AIns:=[ii 8 (.alloc false [.slice .full 8 []])]
def F107_r2:List AIns:=[ii 9 (.mv (.c (.slice .full 1 [])))]
def F107_r3:List AIns:=[ii 17 (.mv (.t 1)),
 ii 18 (.len false (.t 17)),
 ii 19 (.mv (.c (.lit (.int .i64 0))))]
def F107_r4:List AIns:=[ii 20 (.bin .lss (.t 19) (.t 18))]
def F107_r5:List AIns:=[ii 21 (.mv (.t 19)),
 ii 22 (.ia 1 (.t 17) (.t 19)),
 ii 23 (.ld true none (.t 22)),
 ii 10 (.mv (.t 21)),
 ii 11 (.mv (.t 23))]
def F107_r6:List AIns:=[ii 24 (.mv (.t 2)),
 ii 25 (.mv (.t 10)),
 ii 26 (.call (.t 24) [(.t 25)]),
 ii 27 (.call (.f N64_) [(.t 26)]),
 ii 12 (.mv (.t 27))]
def F107_r7:List AIns:=[ii 28 (.ld true none (.t 3)),
 ii 29 (.mv (.t 12)),
 ii 30 (.call (.f N122_) [(.t 28),(.t 29)]),
 ii 13 (.mv (.t 30))]
def F107_r8:List AIns:=[ii 32 (.ld true none (.t 3)),
 ii 33 (.mv (.t 12)),
 ii 34 (.nck (.t 32)),
 ii 35 (.fa 5 (.t 34)),
 ii 36 (.iaa 2 1 (.t 35) (.t 33)),
 ii 37 (.ld true none (.t 36)),
 ii 38 (.mv (.t 11)),
 ii 39 (.lk (.int .i64) (.agg [.lit (.int .i64 0),.lit (.int .i64 0),.lit (.int .i64 0),.slice .full 5 [],.slice .full 7 []]) true (.t 37) (.t 38)),
 ii 31 (.mv (.t 39)),
 ii 40 (.ext (.t 31) 0),
 ii 41 (.ext (.t 31) 1),
 ii 14 (.alloc true [.lit (.int .i64 0),.lit (.int .i64 0),.lit (.int .i64 0),.slice .full 5 [],.slice .full 7 []]),
 ⟨none,none,.st false 5 (.t 14) (.t 40)⟩,
 ii 15 (.mv (.t 41))]
def F107_r9:List AIns:=[ii 42 (.ld true none (.t 8)),
 ii 43 (.mv (.t 12)),
 ii 44 (.mv (.t 11)),
 ii 45 (.ld false (some 5) (.t 14)),
 ii 46 (.mv (.t 15)),
 ii 47 (.build [.lit (.int .i64 0),.lit (.int .i64 0),.lit (.int .i64 0),.lit (.int .i64 0),.lit (.int .i64 0),.slice .full 5 [],.slice .full 7 [],.lit (.bool false)] [(0,1,(.t 43)),(1,1,(.t 44)),(2,5,(.t 45)),(7,1,(.t 46))]),
 ii 48 (.bsl 8 [(.t 47)]),
 ii 49 (.app 8 96 (.t 42) (.t 48)),
 ⟨none,none,.st true 1 (.t 8) (.t 49)⟩]
def F107_r10:List AIns:=[ii 16 (.mv (.c (.lit (.int .i64 0))))]
def F107_r11:List AIns:=[ii 50 (.mv (.t 12)),
 ii 51 (.bin .eql (.t 50) (.c (.lit (.int .i64 1))))]
def F107_r12:List AIns:=[ii 16 (.mv (.c (.lit (.int .i64 5))))]
def F107_r13:List AIns:=[ii 52 (.ld true none (.t 3)),
 ii 53 (.mv (.t 12)),
 ii 54 (.nck (.t 52)),
 ii 55 (.fa 5 (.t 54)),
 ii 56 (.iaa 2 1 (.t 55) (.t 53)),
 ii 57 (.ld true none (.t 56)),
 ii 58 (.mv (.t 11)),
 ii 59 (.mv (.t 16)),
 ii 60 (.mv (.t 13)),
 ii 61 (.build [.lit (.int .i64 0),.lit (.int .i64 0),.lit (.int .i64 0),.slice .full 5 [],.slice .full 7 []] [(0,1,(.t 59)),(1,1,(.t 60))]),
 ⟨none,none,.mu (.int .i64) (.t 57) (.t 58) (.t 61)⟩]
def F107_r14:List AIns:=[ii 62 (.mv (.t 9)),
 ii 63 (.mv (.t 13)),
 ii 64 (.bsl 1 [(.t 63)]),
 ii 65 (.app 1 8 (.t 62) (.t 64)),
 ii 9 (.mv (.t 65))]
def F107_r15:List AIns:=[ii 66 (.bin .add (.t 19) (.c (.lit (.int .i64 1)))),
 ii 19 (.mv (.t 66))]
def F107_l1:AC:=.seq (.reg F107_r4 [] [2,3,8,9,17,18,19,20] []) (.seq (.cond (.t 20) (.skip) (.exit 0)) (.seq (.block 1 (.seq (.reg F107_r5 [] [2,3,8,9,10,11,17,18,19] []) (.seq (.reg F107_r6 [] [2,3,8,9,11,12,17,18,19] []) (.seq (.reg F107_r7 [] [2,3,8,9,11,12,13,17,18,19] []) (.seq (.reg F107_r8 [] [2,3,8,9,11,12,13,14,15,17,18,19] [14]) (.seq (.reg F107_r9 [] [2,3,8,9,11,12,13,17,18,19] []) (.seq (.reg F107_r10 [] [2,3,8,9,11,12,13,16,17,18,19] []) (.seq (.seq (.reg F107_r11 [] [2,3,8,9,11,12,13,16,17,18,19,51] []) (.cond (.t 51) (.reg F107_r12 [] [2,3,8,9,11,12,13,16,17,18,19] []) (.skip))) (.seq (.reg F107_r13 [] [2,3,8,9,13,17,18,19] []) (.reg F107_r14 [] [2,3,8,9,17,18,19] [])))))))))) (.reg F107_r15 [] [2,3,8,9,17,18,19] [])))
def F107_r16:List AIns:=[ii 67 (.mv (.t 9)),
 ii 68 (.mkf N123_ [] [(.t 8),(.t 3)]),
 ii 6 (.mv (.t 67)),
 ii 7 (.mv (.t 68))]
def F107_:AFun:=⟨3,.seq (.reg F107_r0 [] [1,2,3] []) (.seq (.reg F107_r1 [] [1,2,3,8] []) (.seq (.reg F107_r2 [] [1,2,3,8,9] []) (.seq (.seq (.reg F107_r3 [] [2,3,8,9,17,18,19] []) (.block 0 (.loop F107_l1))) (.seq (.reg F107_r16 [] [6,7] []) (.ret))))),[.t 6,.t 7]⟩
def F108_r0:List AIns:=[ii 3 (.mv (.c (.lit (.bool false))))]
def F108_r1:List AIns:=[ii 4 (.fa 0 (.t 1)),
 ii 5 (.ld true none (.t 4)),
 ii 6 (.bin .eql (.t 5) (.c (.lit (.int .i64 3)))),
 ii 3 (.mv (.t 6))]
def F108_:AFun:=⟨2,.seq (.reg F108_r0 [] [1] []) (.seq (.reg F108_r1 [] [3] []) (.ret)),[.t 3]⟩
def F109_r0:List AIns:=[ii 3 (.box false (.t 1)),
 ii 4 (.alloc true [.slice .full 1 [],.slice .full 1 [],.lit (.int .i64 0),.lit (.int .i64 0),.lit (.int .i64 0),.slice .full 5 [],.slice .full 7 []])]
def F109_r1:List AIns:=[ii 10 (.mv (.t 0)),
 ii 11 (.fa 0 (.t 3)),
 ii 12 (.ld true none (.t 11)),
 ii 13 (.mkf N124_ [] [(.t 3)]),
 ii 14 (.call (.f N107_) [(.t 10),(.t 12),(.t 13)]),
 ii 9 (.mv (.t 14)),
 ii 15 (.ext (.t 9) 0),
 ii 16 (.ext (.t 9) 1),
 ii 5 (.mv (.t 15)),
 ii 6 (.mv (.t 16))]
def F109_r2:List AIns:=[ii 17 (.mv (.t 6)),
 ⟨none,none,.dfr (.t 17) []⟩]
def F109_r3:List AIns:=[ii 18 (.mv (.t 5)),
 ii 19 (.mv (.t 0)),
 ii 20 (.fa 2 (.t 3)),
 ii 21 (.ld true (some 5) (.t 20)),
 ii 22 (.call (.f N92_) [(.t 19),(.t 21)]),
 ii 23 (.build [.slice .full 1 [],.slice .full 1 [],.lit (.int .i64 0),.lit (.int .i64 0),.lit (.int .i64 0),.slice .full 5 [],.slice .full 7 []] [(0,1,(.t 18)),(2,5,(.t 22))]),
 ii 7 (.alloc true [.slice .full 1 [],.slice .full 1 [],.lit (.int .i64 0),.lit (.int .i64 0),.lit (.int .i64 0),.slice .full 5 [],.slice .full 7 []]),
 ⟨none,none,.st false 7 (.t 7) (.t 23)⟩]
def F109_r4:List AIns:=[ii 24 (.fa 0 (.t 3)),
 ii 25 (.ld true none (.t 24)),
 ii 26 (.len false (.t 25)),
 ii 27 (.mv (.c (.lit (.int .i64 0))))]
def F109_r5:List AIns:=[ii 28 (.bin .lss (.t 27) (.t 26))]
def F109_r6:List AIns:=[ii 29 (.mv (.t 27)),
 ii 8 (.mv (.t 29))]
def F109_r7:List AIns:=[ii 30 (.fa 1 (.t 7)),
 ii 31 (.ld false none (.t 30)),
 ii 32 (.ld true (some 7) (.t 3)),
 ii 33 (.mv (.t 8)),
 ii 34 (.call (.f N118_) [(.t 32),(.t 33)]),
 ii 35 (.bsl 1 [(.t 34)]),
 ii 36 (.app 1 1 (.t 31) (.t 35)),
 ii 37 (.fa 1 (.t 7)),
 ⟨none,none,.st false 1 (.t 37) (.t 36)⟩]
def F109_r8:List AIns:=[ii 38 (.bin .add (.t 27) (.c (.lit (.int .i64 1)))),
 ii 27 (.mv (.t 38))]
def F109_l1:AC:=.seq (.reg F109_r5 [] [3,4,7,26,27,28] [4,7]) (.seq (.cond (.t 28) (.skip) (.exit 0)) (.seq (.block 1 (.seq (.reg F109_r6 [] [3,4,7,8,26,27] [4,7]) (.reg F109_r7 [] [3,4,7,26,27] [4,7]))) (.reg F109_r8 [] [3,4,7,26,27] [4,7])))
def F109_r9:List AIns:=[ii 39 (.ld false (some 7) (.t 7)),
 ⟨none,none,.st false 7 (.t 4) (.t 39)⟩]
def F109_:AFun:=⟨2,.seq (.reg F109_r0 [] [0,3,4] [4]) (.seq (.reg F109_r1 [] [0,3,4,5,6] [4]) (.seq (.reg F109_r2 [] [0,3,4,5] [4]) (.seq (.reg F109_r3 [] [3,4,7] [4,7]) (.seq (.seq (.reg F109_r4 [] [3,4,7,26,27] [4,7]) (.block 0 (.loop F109_l1))) (.seq (.reg F109_r9 [] [4] [4]) (.ret)))))),[.cell (some 7) 4]⟩
def F110_r0:List AIns:=[ii 4 (.box false (.t 1)),
 ii 5 (.box false (.t 2)),
 ii 6 (.alloc true [.lit (.int .i64 0),.lit (.int .i64 0),.lit (.int .i64 0),.slice .full 5 [],.slice .full 7 []])]
def F110_r1:List AIns:=[ii 7 (.mv (.t 0)),
 ii 8 (.mkf N125_ [] [(.t 4),(.t 5)]),
 ii 9 (.mv (.t 0)),
 ii 10 (.nck (.t 9)),
 ii 11 (.fa 0 (.t 10)),
 ii 12 (.fa 0 (.t 11)),
 ii 13 (.ld true none (.t 12)),
 ii 14 (.fa 2 (.t 4)),
 ii 15 (.ld true none (.t 14)),
 ii 16 (.bin .sub (.t 15) (.c (.lit (.int .i64 1)))),
 ii 17 (.ia 3 (.t 13) (.t 16)),
 ii 18 (.fa 2 (.t 17)),
 ii 19 (.ld true none (.t 18)),
 ii 20 (.fa 1 (.t 4)),
 ii 21 (.ld true none (.t 20)),
 ii 22 (.ia 2 (.t 19) (.t 21)),
 ii 23 (.fa 1 (.t 22)),
 ii 24 (.ld true none (.t 23)),
 ii 25 (.fa 3 (.t 4)),
 ii 26 (.ld true none (.t 25)),
 ii 27 (.call (.f N97_) [(.t 7),(.t 8),(.t 24),(.c (.slice .full 5 [])),(.t 26)]),
 ⟨none,none,.st false 5 (.t 6) (.t 27)⟩]
def F110_:AFun:=⟨3,.seq (.reg F110_r0 [] [0,4,5,6] [6]) (.seq (.reg F110_r1 [] [6] [6]) (.ret)),[.cell (some 5) 6]⟩
def F111_r0:List AIns:=[ii 6 (.box true (.t 0)),
 ii 7 (.alloc true [.lit (.int .i64 0),.lit (.int .i64 0),.lit (.int .i64 0),.slice .full 5 [],.slice .full 7 []])]
def F111_r1:List AIns:=[ii 8 (.ld true none (.t 1)),
 ii 9 (.ld true none (.t 2)),
 ii 10 (.ld true none (.t 3)),
 ii 11 (.ld true none (.t 4)),
 ii 12 (.ld true none (.t 4)),
 ii 13 (.len false (.t 12)),
 ii 14 (.ld true none (.t 4)),
 ii 15 (.len false (.t 14)),
 ii 16 (.sl 5 (.t 11) none (some (.t 13)) (some (.t 15))),
 ii 17 (.ld false (some 5) (.t 6)),
 ii 18 (.bsl 5 [(.t 17)]),
 ii 19 (.app 5 72 (.t 16) (.t 18)),
 ii 20 (.ld true none (.t 5)),
 ii 21 (.sl 5 (.t 20) (some (.c (.lit (.int .i64 1)))) none none),
 ii 22 (.call (.f N97_) [(.t 8),(.t 9),(.t 10),(.t 19),(.t 21)]),
 ⟨none,none,.st false 5 (.t 7) (.t 22)⟩]
def F111_:AFun:=⟨6,.seq (.reg F111_r0 [] [1,2,3,4,5,6,7] [6,7]) (.seq (.regd F111_r1 [] [7] [7] [[],[],[],[],[],[4],[],[6],[3,5,7],[],[9],[8,10],[],[12],[0,1,2,11,13,11],[14,14,0,1,2,3,4,5,6,7,8,9,10,11,12,13,14]]) (.ret)),[.cell (some 5) 7]⟩
def F112_r0:List AIns:=[ii 4 (.box true (.t 1)),
 ii 5 (.box true (.t 2)),
 ii 6 (.mv (.c (.lit (.bool false))))]
def F112_r1:List AIns:=[ii 9 (.mv (.t 0)),
 ii 10 (.nck (.t 9)),
 ii 11 (.fa 0 (.t 10)),
 ii 12 (.fa 0 (.t 11)),
 ii 13 (.ld true none (.t 12)),
 ii 14 (.fa 0 (.t 5)),
 ii 15 (.ld false none (.t 14)),
 ii 16 (.call (.f N38_) [(.t 13),(.t 15)]),
 ii 17 (.fa 1 (.t 5)),
 ii 18 (.ld false none (.t 17)),
 ii 19 (.beq false (.t 16) (.t 18))]
def F112_r2:List AIns:=[ii 6 (.mv (.c (.lit (.bool false))))]
def F112_r3:List AIns:=[ii 20 (.fa 0 (.t 4)),
 ii 21 (.ld false none (.t 20))]
def F112_r4:List AIns:=[ii 23 (.bin .eql (.t 21) (.c (.lit (.int .i64 3)))),
 ii 22 (.mv (.t 23))]
def F112_r5:List AIns:=[ii 24 (.bin .eql (.t 21) (.c (.lit (.int .i64 7)))),
 ii 22 (.mv (.t 24))]
def F112_r6:List AIns:=[ii 6 (.mv (.c (.lit (.bool true))))]
def F112_r7:List AIns:=[ii 26 (.bin .eql (.t 21) (.c (.lit (.int .i64 2)))),
 ii 25 (.mv (.t 26))]
def F112_r8:List AIns:=[ii 27 (.bin .eql (.t 21) (.c (.lit (.int .i64 6)))),
 ii 25 (.mv (.t 27))]
def F112_r9:List AIns:=[ii 28 (.mv (.t 0)),
 ii 29 (.nck (.t 28)),
 ii 30 (.fa 0 (.t 29)),
 ii 31 (.fa 0 (.t 30)),
 ii 32 (.ld true none (.t 31)),
 ii 33 (.fa 2 (.t 4)),
 ii 34 (.ld false none (.t 33)),
 ii 35 (.bin .sub (.t 34) (.c (.lit (.int .i64 1)))),
 ii 36 (.ia 3 (.t 32) (.t 35)),
 ii 37 (.fa 2 (.t 36)),
 ii 38 (.ld true none (.t 37)),
 ii 39 (.fa 1 (.t 4)),
 ii 40 (.ld false none (.t 39)),
 ii 41 (.ia 2 (.t 38) (.t 40)),
 ii 42 (.fa 1 (.t 41)),
 ii 43 (.ld true none (.t 42)),
 ii 44 (.len false (.t 43)),
 ii 45 (.mv (.c (.lit (.int .i64 0))))]
def F112_r10:List AIns:=[ii 46 (.bin .lss (.t 45) (.t 44))]
def F112_r11:List AIns:=[ii 47 (.mv (.t 45)),
 ii 48 (.ia 2 (.t 43) (.t 45)),
 ii 49 (.ld true (some 2) (.t 48)),
 ii 8 (.alloc true [.lit (.int .i64 0),.lit (.bool false)]),
 ii 7 (.mv (.t 47)),
 ⟨none,none,.st false 2 (.t 8) (.t 49)⟩]
def F112_r12:List AIns:=[ii 50 (.mv (.t 0)),
 ii 51 (.fa 3 (.t 4)),
 ii 52 (.ld false none (.t 51)),
 ii 53 (.mv (.t 7)),
 ii 54 (.ia 5 (.t 52) (.t 53)),
 ii 55 (.ld true (some 5) (.t 54)),
 ii 56 (.ld false (some 2) (.t 8)),
 ii 57 (.call (.f N112_) [(.t 50),(.t 55),(.t 56)])]
def F112_r13:List AIns:=[ii 6 (.mv (.c (.lit (.bool true))))]
def F112_r14:List AIns:=[ii 58 (.bin .add (.t 45) (.c (.lit (.int .i64 1)))),
 ii 45 (.mv (.t 58))]
def F112_l1:AC:=.seq (.reg F112_r10 [] [0,4,43,44,45,46] [4]) (.seq (.cond (.t 46) (.skip) (.exit 1)) (.seq (.block 2 (.seq (.reg F112_r11 [] [0,4,7,8,43,44,45] [4,8]) (.seq (.reg F112_r12 [] [0,4,43,44,45,57] [4]) (.cond (.t 57) (.seq (.reg F112_r13 [] [6] []) (.ret)) (.skip))))) (.reg F112_r14 [] [0,4,43,44,45] [4])))
def F112_r15:List AIns:=[ii 6 (.mv (.c (.lit (.bool false))))]
def F112_:AFun:=⟨3,.seq (.reg F112_r0 [] [0,4,5] [4,5]) (.seq (.seq (.reg F112_r1 [] [0,4,19] [4]) (.cond (.t 19) (.seq (.reg F112_r2 [] [6] []) (.ret)) (.skip))) (.seq (.seq (.reg F112_r3 [] [0,4,21] [4]) (.block 0 (.seq (.seq (.reg F112_r4 [] [0,4,21,22] [4]) (.cond (.t 22) (.skip) (.reg F112_r5 [] [0,4,21,22] [4]))) (.cond (.t 22) (.seq (.reg F112_r6 [] [6] []) (.ret)) (.seq (.seq (.reg F112_r7 [] [0,4,21,25] [4]) (.cond (.t 25) (.skip) (.reg F112_r8 [] [0,4,25] [4]))) (.cond (.t 25) (.seq (.reg F112_r9 [] [0,4,43,44,45] [4]) (.block 1 (.loop F112_l1))) (.skip))))))) (.seq (.reg F112_r15 [] [6] []) (.ret)))),[.t 6]⟩
def F113_r0:List AIns:=[ii 4 (.mv (.c (.lit (.int .i64 0))))]
def F113_r1:List AIns:=[ii 5 (.mv (.c (.lit (.int .i64 0))))]
def F113_r2:List AIns:=[ii 6 (.mv (.t 1))]
def F113_r3:List AIns:=[ii 5 (.mv (.c (.lit (.int .i64 1))))]
def F113_r4:List AIns:=[ii 7 (.mv (.t 0)),
 ii 8 (.mv (.t 5)),
 ii 9 (.nck (.t 7)),
 ii 10 (.fa 2 (.t 9)),
 ii 11 (.iaa 2 1 (.t 10) (.t 8)),
 ii 12 (.ld true none (.t 11)),
 ii 13 (.bin .add (.t 12) (.c (.lit (.int .i64 1)))),
 ii 14 (.nck (.t 7)),
 ii 15 (.fa 2 (.t 14)),
 ii 16 (.iaa 2 1 (.t 15) (.t 8)),
 ⟨none,none,.st true 1 (.t 16) (.t 13)⟩]
def F113_r5:List AIns:=[ii 17 (.mv (.t 0)),
 ii 18 (.mv (.t 5)),
 ii 19 (.nck (.t 17)),
 ii 20 (.fa 2 (.t 19)),
 ii 21 (.iaa 2 1 (.t 20) (.t 18)),
 ii 22 (.ld true none (.t 21)),
 ii 23 (.bin .sub (.t 22) (.c (.lit (.int .i64 1)))),
 ii 4 (.mv (.t 23))]
def F113_:AFun:=⟨2,.seq (.reg F113_r0 [] [0,1] []) (.seq (.reg F113_r1 [] [0,1,5] []) (.seq (.seq (.reg F113_r2 [] [0,5,6] []) (.cond (.t 6) (.reg F113_r3 [] [0,5] []) (.skip))) (.seq (.reg F113_r4 [] [0,5] []) (.seq (.reg F113_r5 [] [4] []) (.ret))))),[.t 4]⟩
def F118_r0:List AIns:=[ii 2 (.box true (.t 0)),
 ii 4 (.mv (.c (.lit (.bool false))))]
def F118_r1:List AIns:=[ii 5 (.mv (.t 1)),
 ii 6 (.fa 1 (.t 2)),
 ii 7 (.ld false none (.t 6)),
 ii 8 (.len false (.t 7)),
 ii 9 (.bin .lss (.t 5) (.t 8)),
 ii 10 (.mv (.t 9)),
 ⟨some 11,(some (10,true)),.fa 1 (.t 2)⟩,
 ⟨some 12,(some (10,true)),.ld false none (.t 11)⟩,
 ⟨some 13,(some (10,true)),.mv (.t 1)⟩,
 ⟨some 14,(some (10,true)),.ia 1 (.t 12) (.t 13)⟩,
 ⟨some 15,(some (10,true)),.ld true none (.t 14)⟩,
 ii 16 (.pick (.t 10) (.t 15) (.c (.lit (.bool false)))),
 ii 4 (.mv (.t 16))]
def F118_:AFun:=⟨2,.seq (.reg F118_r0 [] [1,2] [2]) (.seq (.reg F118_r1 [] [4] []) (.ret)),[.t 4]⟩
def F119_r0:List AIns:=[ii 2 (.box true (.t 0)),
 ii 4 (.alloc true [.lit (.int .i64 0),.lit (.int .i64 0)])]
def F119_r1:List AIns:=[ii 5 (.mv (.c (.slice .full 2 []))),
 ii 6 (.mv (.c (.slice .full 2 [])))]
def F119_r2:List AIns:=[ii 14 (.ld false (some 5) (.t 2)),
 ii 15 (.call (.f N105_) [(.t 14)]),
 ii 13 (.mv (.t 15)),
 ii 16 (.ext (.t 13) 0),
 ii 17 (.ext (.t 13) 1),
 ii 7 (.mv (.t 16)),
 ii 8 (.mv (.t 17))]
def F119_r3:List AIns:=[ii 18 (.mv (.t 7)),
 ii 19 (.len false (.t 18)),
 ii 20 (.mv (.c (.lit (.int .i64 0))))]
def F119_r4:List AIns:=[ii 21 (.bin .lss (.t 20) (.t 19))]
def F119_r5:List AIns:=[ii 22 (.ia 5 (.t 18) (.t 20)),
 ii 23 (.ld true (some 5) (.t 22)),
 ii 10 (.alloc true [.lit (.int .i64 0),.lit (.int .i64 0),.lit (.int .i64 0),.slice .full 5 [],.slice .full 7 []]),
 ⟨none,none,.st false 5 (.t 10) (.t 23)⟩]
def F119_r6:List AIns:=[ii 24 (.mv (.t 5)),
 ii 25 (.ld false (some 5) (.t 10)),
 ii 26 (.mv (.t 1)),
 ii 27 (.call (.f N119_) [(.t 25),(.t 26)]),
 ii 28 (.bsl 2 [(.t 27)]),
 ii 29 (.app 2 16 (.t 24) (.t 28)),
 ii 5 (.mv (.t 29))]
def F119_r7:List AIns:=[ii 30 (.bin .add (.t 20) (.c (.lit (.int .i64 1)))),
 ii 20 (.mv (.t 30))]
def F119_l1:AC:=.seq (.reg F119_r4 [] [1,2,4,5,6,8,18,19,20,21] [2,4]) (.seq (.cond (.t 21) (.skip) (.exit 0)) (.seq (.block 1 (.seq (.reg F119_r5 [] [1,2,4,5,6,8,10,18,19,20] [2,4,10]) (.reg F119_r6 [] [1,2,4,5,6,8,18,19,20] [2,4]))) (.reg F119_r7 [] [1,2,4,5,6,8,18,19,20] [2,4])))
def F119_r8:List AIns:=[ii 31 (.mv (.t 8)),
 ii 32 (.len false (.t 31)),
 ii 33 (.mv (.c (.lit (.int .i64 0))))]
def F119_r9:List AIns:=[ii 34 (.bin .lss (.t 33) (.t 32))]
def F119_r10:List AIns:=[ii 35 (.ia 7 (.t 31) (.t 33)),
 ii 36 (.ld true (some 7) (.t 35)),
 ii 12 (.alloc true [.slice .full 1 [],.slice .full 1 [],.lit (.int .i64 0),.lit (.int .i64 0),.lit (.int .i64 0),.slice .full 5 [],.slice .full 7 []]),
 ⟨none,none,.st false 7 (.t 12) (.t 36)⟩]
def F119_r11:List AIns:=[ii 37 (.mv (.t 6)),
 ii 38 (.fa 2 (.t 12)),
 ii 39 (.ld false (some 5) (.t 38)),
 ii 40 (.mv (.t 1)),
 ii 41 (.call (.f N119_) [(.t 39),(.t 40)]),
 ii 42 (.bsl 2 [(.t 41)]),
 ii 43 (.app 2 16 (.t 37) (.t 42)),
 ii 6 (.mv (.t 43))]
def F119_r12:List AIns:=[ii 44 (.bin .add (.t 33) (.c (.lit (.int .i64 1)))),
 ii 33 (.mv (.t 44))]
def F119_l2:AC:=.seq (.reg F119_r9 [] [1,2,4,5,6,31,32,33,34] [2,4]) (.seq (.cond (.t 34) (.skip) (.exit 2)) (.seq (.block 3 (.seq (.reg F119_r10 [] [1,2,4,5,6,12,31,32,33] [2,4,12]) (.reg F119_r11 [] [1,2,4,5,6,31,32,33] [2,4]))) (.reg F119_r12 [] [1,2,4,5,6,31,32,33] [2,4])))
def F119_r13:List AIns:=[ii 45 (.mv (.t 1)),
 ii 46 (.ld false (some 5) (.t 2)),
 ii 47 (.mv (.t 5)),
 ii 48 (.mv (.t 6)),
 ii 49 (.call (.t 45) [(.t 46),(.t 47),(.t 48)]),
 ⟨none,none,.st false 2 (.t 4) (.t 49)⟩]
def F119_:AFun:=⟨2,.seq (.reg F119_r0 [] [1,2,4] [2,4]) (.seq (.reg F119_r1 [] [1,2,4,5,6] [2,4]) (.seq (.reg F119_r2 [] [1,2,4,5,6,7,8] [2,4]) (.seq (.seq (.reg F119_r3 [] [1,2,4,5,6,8,18,19,20] [2,4]) (.block 0 (.loop F119_l1))) (.seq (.seq (.reg F119_r8 [] [1,2,4,5,6,31,32,33] [2,4]) (.block 2 (.loop F119_l2))) (.seq (.reg F119_r13 [] [4] [4]) (.ret)))))),[.cell (some 2) 4]⟩
def F120_r0:List AIns:=[ii 3 (.box true (.t 0)),
 ii 6 (.alloc true [.lit (.int .i64 0),.lit (.int .i64 0)])]
def F120_r1:List AIns:=[ii 10 (.build [.lit (.int .i64 0),.lit (.int .i64 0)] [(0,1,(.c (.lit (.int .i64 1)))),(1,1,(.c (.lit (.int .i64 1))))]),
 ii 7 (.alloc true [.lit (.int .i64 0),.lit (.int .i64 0)]),
 ⟨none,none,.st false 2 (.t 7) (.t 10)⟩]
def F120_r2:List AIns:=[ii 11 (.mv (.t 1)),
 ii 12 (.mv (.t 2)),
 ii 13 (.app 2 16 (.t 11) (.t 12)),
 ii 14 (.len false (.t 13)),
 ii 15 (.mv (.c (.lit (.int .i64 0))))]
def F120_r3:List AIns:=[ii 16 (.bin .lss (.t 15) (.t 14))]
def F120_r4:List AIns:=[ii 17 (.ia 2 (.t 13) (.t 15)),
 ii 18 (.ld true (some 2) (.t 17)),
 ii 9 (.alloc true [.lit (.int .i64 0),.lit (.int .i64 0)]),
 ⟨none,none,.st false 2 (.t 9) (.t 18)⟩]
def F120_r5:List AIns:=[ii 19 (.iaa 2 1 (.t 7) (.c (.lit (.int .i64 0)))),
 ii 20 (.ld false none (.t 19)),
 ii 21 (.iaa 2 1 (.t 9) (.c (.lit (.int .i64 0)))),
 ii 22 (.ld false none (.t 21)),
 ii 23 (.bin .add (.t 20) (.t 22)),
 ii 24 (.iaa 2 1 (.t 7) (.c (.lit (.int .i64 0)))),
 ⟨none,none,.st false 1 (.t 24) (.t 23)⟩]
def F120_r6:List AIns:=[ii 25 (.iaa 2 1 (.t 7) (.c (.lit (.int .i64 1)))),
 ii 26 (.ld false none (.t 25)),
 ii 27 (.iaa 2 1 (.t 9) (.c (.lit (.int .i64 1)))),
 ii 28 (.ld false none (.t 27)),
 ii 29 (.bin .add (.t 28) (.c (.lit (.int .i64 1)))),
 ii 30 (.mmx true (.t 26) (.t 29)),
 ii 31 (.iaa 2 1 (.t 7) (.c (.lit (.int .i64 1)))),
 ⟨none,none,.st false 1 (.t 31) (.t 30)⟩]
def F120_r7:List AIns:=[ii 32 (.bin .add (.t 15) (.c (.lit (.int .i64 1)))),
 ii 15 (.mv (.t 32))]
def F120_l1:AC:=.seq (.reg F120_r3 [] [6,7,13,14,15,16] [6,7]) (.seq (.cond (.t 16) (.skip) (.exit 0)) (.seq (.block 1 (.seq (.reg F120_r4 [] [6,7,9,13,14,15] [6,7,9]) (.seq (.reg F120_r5 [] [6,7,9,13,14,15] [6,7,9]) (.reg F120_r6 [] [6,7,13,14,15] [6,7])))) (.reg F120_r7 [] [6,7,13,14,15] [6,7])))
def F120_r8:List AIns:=[ii 33 (.ld false (some 2) (.t 7)),
 ⟨none,none,.st false 2 (.t 6) (.t 33)⟩]
def F120_:AFun:=⟨3,.seq (.reg F120_r0 [] [1,2,6] [6]) (.seq (.reg F120_r1 [] [1,2,6,7] [6,7]) (.seq (.seq (.reg F120_r2 [] [6,7,13,14,15] [6,7]) (.block 0 (.loop F120_l1))) (.seq (.reg F120_r8 [] [6] [6]) (.ret)))),[.cell (some 2) 6]⟩
def F122_r0:List AIns:=[ii 4 (.mv (.c (.lit (.int .i64 0))))]
def F122_r1:List AIns:=[ii 5 (.mv (.t 0)),
 ii 6 (.mv (.t 1)),
 ii 7 (.nck (.t 5)),
 ii 8 (.fa 0 (.t 7)),
 ii 9 (.iaa 2 1 (.t 8) (.t 6)),
 ii 10 (.ld true none (.t 9)),
 ii 11 (.mv (.t 0)),
 ii 12 (.mv (.t 1)),
 ii 13 (.nck (.t 11)),
 ii 14 (.fa 2 (.t 13)),
 ii 15 (.iaa 2 1 (.t 14) (.t 12)),
 ii 16 (.ld true none (.t 15)),
 ii 17 (.lk (.int .i64) (.lit (.bool false)) false (.t 10) (.t 16))]
def F122_r2:List AIns:=[ii 18 (.mv (.t 0)),
 ii 19 (.mv (.t 1)),
 ii 20 (.nck (.t 18)),
 ii 21 (.fa 2 (.t 20)),
 ii 22 (.iaa 2 1 (.t 21) (.t 19)),
 ii 23 (.ld true none (.t 22)),
 ii 24 (.bin .add (.t 23) (.c (.lit (.int .i64 1)))),
 ii 25 (.nck (.t 18)),
 ii 26 (.fa 2 (.t 25)),
 ii 27 (.iaa 2 1 (.t 26) (.t 19)),
 ⟨none,none,.st true 1 (.t 27) (.t 24)⟩]
def F122_l1:AC:=.seq (.seq (.reg F122_r1 [] [0,1,17] []) (.cond (.t 17) (.skip) (.exit 0))) (.block 1 (.reg F122_r2 [] [0,1] []))
def F122_r3:List AIns:=[ii 28 (.mv (.t 0)),
 ii 29 (.mv (.t 1)),
 ii 30 (.nck (.t 28)),
 ii 31 (.fa 2 (.t 30)),
 ii 32 (.iaa 2 1 (.t 31) (.t 29)),
 ii 33 (.ld true none (.t 32)),
 ii 34 (.bin .add (.t 33) (.c (.lit (.int .i64 1)))),
 ii 35 (.nck (.t 28)),
 ii 36 (.fa 2 (.t 35)),
 ii 37 (.iaa 2 1 (.t 36) (.t 29)),
 ⟨none,none,.st true 1 (.t 37) (.t 34)⟩]
def F122_r4:List AIns:=[ii 38 (.mv (.t 0)),
 ii 39 (.mv (.t 1)),
 ii 40 (.nck (.t 38)),
 ii 41 (.fa 2 (.t 40)),
 ii 42 (.iaa 2 1 (.t 41) (.t 39)),
 ii 43 (.ld true none (.t 42)),
 ii 44 (.bin .sub (.t 43) (.c (.lit (.int .i64 1)))),
 ii 4 (.mv (.t 44))]
def F122_:AFun:=⟨2,.seq (.reg F122_r0 [] [0,1] []) (.seq (.block 0 (.loop F122_l1)) (.seq (.reg F122_r3 [] [0,1] []) (.seq (.reg F122_r4 [] [4] []) (.ret)))),[.t 4]⟩
def F123_r0:List AIns:=[ii 4 (.ld true none (.t 0)),
 ii 5 (.len false (.t 4)),
 ii 6 (.bin .sub (.t 5) (.c (.lit (.int .i64 1)))),
 ii 2 (.mv (.t 6))]
def F123_r1:List AIns:=[ii 7 (.mv (.t 2)),
 ii 8 (.bin .geq (.t 7) (.c (.lit (.int .i64 0))))]
def F123_r3:List AIns:=[ii 11 (.ld true none (.t 0)),
 ii 12 (.mv (.t 2)),
 ii 13 (.ia 8 (.t 11) (.t 12)),
 ii 14 (.ld true (some 8) (.t 13)),
 ii 3 (.alloc true [.lit (.int .i64 0),.lit (.int .i64 0),.lit (.int .i64 0),.lit (.int .i64 0),.lit (.int .i64 0),.slice .full 5 [],.slice .full 7 [],.lit (.bool false)]),
 ⟨none,none,.st false 8 (.t 3) (.t 14)⟩]
def F123_r4:List AIns:=[ii 15 (.ld true none (.t 1)),
 ii 16 (.fa 0 (.t 3)),
 ii 17 (.ld false none (.t 16)),
 ii 18 (.nck (.t 15)),
 ii 19 (.fa 5 (.t 18)),
 ii 20 (.iaa 2 1 (.t 19) (.t 17)),
 ii 21 (.ld true none (.t 20)),
 ii 22 (.fa 1 (.t 3)),
 ii 23 (.ld false none (.t 22)),
 ⟨none,none,.dl (.int .i64) (.t 21) (.t 23)⟩]
def F123_r5:List AIns:=[ii 24 (.fa 7 (.t 3)),
 ii 25 (.ld false none (.t 24))]
def F123_r6:List AIns:=[ii 26 (.ld true none (.t 1)),
 ii 27 (.fa 0 (.t 3)),
 ii 28 (.ld false none (.t 27)),
 ii 29 (.nck (.t 26)),
 ii 30 (.fa 5 (.t 29)),
 ii 31 (.iaa 2 1 (.t 30) (.t 28)),
 ii 32 (.ld true none (.t 31)),
 ii 33 (.fa 1 (.t 3)),
 ii 34 (.ld false none (.t 33)),
 ii 35 (.fa 2 (.t 3)),
 ii 36 (.ld false (some 5) (.t 35)),
 ⟨none,none,.mu (.int .i64) (.t 32) (.t 34) (.t 36)⟩]
def F123_r2:List AIns:=[ii 9 (.mv (.t 2)),
 ii 10 (.bin .sub (.t 9) (.c (.lit (.int .i64 1)))),
 ii 2 (.mv (.t 10))]
def F123_l1:AC:=.seq (.seq (.reg F123_r1 [] [0,1,2,8] []) (.cond (.t 8) (.skip) (.exit 0))) (.seq (.block 1 (.seq (.reg F123_r3 [] [0,1,2,3] [3]) (.seq (.reg F123_r4 [] [0,1,2,3] [3]) (.seq (.reg F123_r5 [] [0,1,2,3,25] [3]) (.cond (.t 25) (.reg F123_r6 [] [0,1,2] []) (.skip)))))) (.reg F123_r2 [] [0,1,2] []))
def F123_:AFun:=⟨2,.seq (.reg F123_r0 [] [0,1,2] []) (.block 0 (.loop F123_l1)),[]⟩
def F124_r0:List AIns:=[ii 3 (.mv (.c (.lit (.bool false))))]
def F124_r1:List AIns:=[ii 4 (.ld true (some 7) (.t 1)),
 ii 5 (.mv (.t 0)),
 ii 6 (.call (.f N118_) [(.t 4),(.t 5)]),
 ii 3 (.mv (.t 6))]
def F124_:AFun:=⟨2,.seq (.reg F124_r0 [] [0,1] []) (.seq (.reg F124_r1 [] [3] []) (.ret)),[.t 3]⟩
def F125_r0:List AIns:=[ii 4 (.alloc true [.lit (.int .i64 0),.lit (.int .i64 0),.lit (.int .i64 0),.slice .full 5 [],.slice .full 7 []])]
def F125_r1:List AIns:=[ii 5 (.mv (.t 0)),
 ii 6 (.app 5 72 (.c (.slice .full 5 [])) (.t 5)),
 ii 7 (.fa 3 (.t 1)),
 ⟨none,none,.st true 1 (.t 7) (.t 6)⟩]
def F125_r2:List AIns:=[ii 8 (.ld true none (.t 2)),
 ii 9 (.ld true (some 5) (.t 1)),
 ii 10 (.call (.t 8) [(.t 9)]),
 ⟨none,none,.st false 5 (.t 4) (.t 10)⟩]
def F125_:AFun:=⟨3,.seq (.reg F125_r0 [] [0,1,2,4] [4]) (.seq (.reg F125_r1 [] [1,2,4] [4]) (.seq (.reg F125_r2 [] [4] [4]) (.ret))),[.cell (some 5) 4]⟩
def F143_r0:List AIns:=[ii 2 (.alloc true [.lit (.int .i64 0),.lit (.int .i64 0),.lit (.int .i64 0),.slice .full 5 [],.slice .full 7 []])]
def F143_r1:List AIns:=[ii 3 (.mv (.t 0)),
 ii 4 (.build [.lit (.int .i64 0),.lit (.int .i64 0),.lit (.int .i64 0),.slice .full 5 [],.slice .full 7 []] [(0,1,(.c (.lit (.int .i64 1)))),(1,1,(.t 3))]),
 ⟨none,none,.st false 5 (.t 2) (.t 4)⟩]
def F143_:AFun:=⟨1,.seq (.reg F143_r0 [] [0,2] [2]) (.seq (.reg F143_r1 [] [2] [2]) (.ret)),[.cell (some 5) 2]⟩
def F144_r0:List AIns:=[ii 1 (.box true (.t 0)),
 ii 2 (.alloc true [.lit (.int .i64 0),.lit (.int .i64 0),.lit (.int .i64 0),.slice .full 5 [],.slice .full 7 []])]
def F144_r1:List AIns:=[ii 3 (.fa 0 (.t 1)),
 ii 4 (.ld false (some 5) (.t 3)),
 ⟨none,none,.st false 5 (.t 2) (.t 4)⟩]
def F144_:AFun:=⟨1,.seq (.reg F144_r0 [] [1,2] [1,2]) (.seq (.reg F144_r1 [] [2] [2]) (.ret)),[.cell (some 5) 2]⟩
def F145_r0:List AIns:=[ii 1 (.box true (.t 0)),
 ii 2 (.alloc true [.lit (.int .i64 0),.lit (.int .i64 0),.lit (.int .i64 0),.slice .full 5 [],.slice .full 7 []])]
def F145_r1:List AIns:=[ii 3 (.fa 0 (.t 1)),
 ii 4 (.ld false (some 5) (.t 3)),
 ⟨none,none,.st false 5 (.t 2) (.t 4)⟩]
def F145_:AFun:=⟨1,.seq (.reg F145_r0 [] [1,2] [1,2]) (.seq (.reg F145_r1 [] [2] [2]) (.ret)),[.cell (some 5) 2]⟩
def F146_r0:List AIns:=[ii 3 (.box true (.t 0)),
 ii 6 (.mv (.c (.lit .nilIface))),
 ii 7 (.mv (.c (.lit (.bool false))))]
def F146_r1:List AIns:=[ii 8 (.fa 0 (.t 3)),
 ii 9 (.fa 1 (.t 8)),
 ii 10 (.ld false none (.t 9)),
 ii 11 (.mv (.t 2)),
 ii 12 (.mv (.t 11)),
 ⟨some 13,(some (12,true)),.fa 0 (.t 3)⟩,
 ⟨some 14,(some (12,true)),.fa 0 (.t 13)⟩,
 ⟨some 15,(some (12,true)),.ld false none (.t 14)⟩,
 ⟨some 16,(some (12,true)),.mv (.t 1)⟩,
 ⟨some 17,(some (12,true)),.bin .eql (.t 15) (.t 16)⟩,
 ii 18 (.pick (.t 12) (.t 17) (.c (.lit (.bool false)))),
 ii 6 (.mv (.t 10)),
 ii 7 (.mv (.t 18))]
def F146_:AFun:=⟨3,.seq (.reg F146_r0 [] [1,2,3] [3]) (.seq (.reg F146_r1 [] [6,7] []) (.ret)),[.t 6,.t 7]⟩
def F147_r0:List AIns:=[ii 3 (.box true (.t 0)),
 ii 6 (.mv (.c (.lit .nilIface))),
 ii 7 (.mv (.c (.lit (.bool false))))]
def F147_r1:List AIns:=[ii 8 (.fa 0 (.t 3)),
 ii 9 (.fa 1 (.t 8)),
 ii 10 (.ld false none (.t 9)),
 ii 11 (.mv (.t 2)),
 ii 12 (.unot (.t 11)),
 ii 13 (.mv (.t 12)),
 ⟨some 14,(some (13,true)),.fa 0 (.t 3)⟩,
 ⟨some 15,(some (13,true)),.fa 0 (.t 14)⟩,
 ⟨some 16,(some (13,true)),.ld false none (.t 15)⟩,
 ⟨some 17,(some (13,true)),.mv (.t 1)⟩,
 ⟨some 18,(some (13,true)),.bin .eql (.t 16) (.t 17)⟩,
 ii 19 (.pick (.t 13) (.t 18) (.c (.lit (.bool false)))),
 ii 6 (.mv (.t 10)),
 ii 7 (.mv (.t 19))]
def F147_:AFun:=⟨3,.seq (.reg F147_r0 [] [1,2,3] [3]) (.seq (.reg F147_r1 [] [6,7] []) (.ret)),[.t 6,.t 7]⟩
def tab:List (Nat × AFun):=[(N3_,F3_),(N4_,F4_),(N5_,F5_),(N6_,F6_),(N7_,F7_),(N8_,F8_),(N9_,F9_),(N10_,F10_),(N12_,⟨2,.ret,[]⟩),(N13_,F13_),(N14_,F14_),(N15_,F15_),(N16_,F16_),(N17_,F17_),(N18_,F18_),(N19_,F19_),(N20_,F20_),(N21_,F21_),(N22_,F22_),(N23_,F23_),(N24_,F24_),(N25_,F25_),(N26_,F26_),(N27_,F27_),(N28_,F28_),(N29_,F29_),(N30_,F30_),(N31_,F31_),(N32_,F32_),(N33_,F33_),(N34_,F34_),(N35_,F35_),(N36_,F36_),(N37_,F37_),(N38_,F38_),(N39_,F39_),(N40_,F40_),(N41_,F41_),(N42_,F42_),(N43_,F43_),(N44_,F44_),(N45_,F45_),(N46_,F46_),(N47_,F47_),(N48_,F48_),(N49_,F49_),(N50_,F50_),(N51_,F51_),(N52_,F52_),(N53_,F53_),(N54_,F54_),(N55_,F55_),(N56_,F56_),(N57_,F57_),(N58_,F58_),(N59_,F59_),(N60_,F60_),(N61_,F61_),(N62_,F62_),(N64_,F64_),(N65_,F65_),(N66_,F66_),(N67_,F67_),(N68_,F68_),(N69_,F69_),(N70_,F70_),(N71_,F71_),(N72_,F72_),(N73_,F73_),(N74_,F74_),(N75_,F75_),(N76_,F76_),(N77_,F77_),(N78_,F78_),(N79_,F79_),(N80_,F80_),(N81_,F81_),(N82_,F82_),(N83_,F83_),(N84_,F84_),(N85_,F85_),(N86_,F86_),(N88_,F88_),(N89_,F89_),(N90_,F90_),(N91_,F91_),(N92_,F92_),(N93_,F93_),(N94_,F94_),(N95_,F95_),(N96_,F96_),(N97_,F97_),(N98_,F98_),(N99_,F99_),(N100_,F100_),(N102_,F102_),(N103_,F103_),(N104_,F104_),(N105_,F105_),(N106_,F106_),(N107_,F107_),(N108_,F108_),(N109_,F109_),(N110_,F110_),(N111_,F111_),(N112_,F112_),(N113_,F113_),(N118_,F118_),(N119_,F119_),(N120_,F120_),(N122_,F122_),(N123_,F123_),(N124_,F124_),(N125_,F125_),(N143_,F143_),(N144_,F144_),(N145_,F145_),(N146_,F146_),(N147_,F147_)]
def fnOf (n:Nat):Option AFun:=(tab.find? fun x=>x.1 == n).map (·.2)
end Go.Sim.Mn
namespace Go.Sim.Mn
open Go Go.Sim
def hasInt (q:Option AV):Bool :=
 match q with
 | some (.lit (.int .i64 _))=>true
 | _=>false
def containsOv (args:List AV) (s:Sg):Option (List AV × Sg) :=
 match args with
 | [.lit (.string a),.lit (.string b)]=>if a.size < 4294967281 ∧ hasInt (s.Q 0 0)=true then some ([.lit (.bool (Lib.contains a.data.toList b.data.toList))],s) else none
 | _=>none
def ov (n:Nat):Option (List AV → Sg → Option (List AV × Sg)):=if n=N63_ then some containsOv else if n=N11_ then some (cloneOv 1 8) else if n=N121_ then some (cloneOv 1 1) else if n=N12_ then some (fun _ _=>none) else none
def p:Pg:=⟨fnOf,ov⟩
def xcontainsOv (args:List AV) (s:XS):Option (List AV × XS) :=
 match args with
 | [.lit (.string a),.lit (.string b)]=>if a.size < 4294967281 then fB (Lib.contains a.data.toList b.data.toList) fun r=>some ([.lit (.bool r)],s) else none
 | _=>none
def xcloneOv (sz by_:Nat) (args:List AV) (s:XS):Option (List AV × XS) :=
 match args with
 | [.slice o sz' []]=>if sz'=sz then some ([.slice .full sz []],s) else none
 | [.slice o sz' (x :: xs)]=>if sz'=sz ∧ (xs.length + 1) * by_ ≤ 2 ^ 47 then some ([.slice .none sz (x :: xs)],s) else none
 | [.ms g off len sz']=>if sz'=sz then (if len=0 then some ([.slice .full sz []],s) else (toE s.mu g).bind fun cs=>if off + len * sz ≤ cs.length ∧ len * by_ ≤ 2 ^ 47 then
    fAs ((cs.drop off).take (len * sz)) fun cs=>xmnew (some cs) s fun s'=>fA dp (.ms s.mn 0 len sz) fun v=>some ([v],s') else none) else none
 | _=>none
def xov (n:Nat):Option (List AV → XS → Option (List AV × XS)):=if n=N63_ then some xcontainsOv else if n=N11_ then some (xcloneOv 1 8) else if n=N121_ then some (xcloneOv 1 1) else if n=N12_ then some (fun _ _=>none) else none
instance:GlQ:=⟨fun _ _=>false⟩
def xp:XPg:=⟨fnOf,xov⟩
def qm (m:Int) (b o:Nat):Option AV:=if b=0 ∧ o=0 then some (.lit (.int .i64 m)) else none
theorem xcontains_ok (m:Int) (a:List AV) (s:XS) (r:List AV × XS) (h:xcontainsOv a s=some r):containsOv a (toSg (qm m) s)=some (r.1,toSg (qm m) r.2):=by
 unfold xcontainsOv at h
 unfold containsOv
 split at h
 ·split at h
  ·rename_i e
   have hQ:hasInt ((toSg (qm m) s).Q 0 0)=true:=by
    show hasInt (qm m 0 0)=true
    unfold qm
    rw [if_pos ⟨rfl,rfl⟩]
    rfl
   simp only [fB_eq,Option.some.injEq] at h
   subst h
   simp only [if_pos (And.intro e hQ)]
  ·cases h
 ·cases h
theorem xclone_ok {q:Nat → Nat → Option AV} {sz by_:Nat} (a:List AV) (s:XS) (r:List AV × XS) (h:xcloneOv sz by_ a s=some r):cloneOv sz by_ a (toSg q s)=some (r.1,toSg q r.2):=by
 unfold xcloneOv at h
 split at h
 ·simp only [cloneOv]
  split at h
  ·rename_i e
   rw [if_pos e]
   cases h;rfl
  ·cases h
 ·simp only [cloneOv]
  split at h
  ·rename_i e
   rw [if_pos e]
   cases h;rfl
  ·cases h
 ·simp only [cloneOv]
  split at h
  ·rename_i e
   rw [if_pos e]
   split at h
   ·rename_i e0
    rw [if_pos e0]
    cases h;rfl
   ·rename_i e0
    rw [if_neg e0]
    obtain ⟨cs,h1,h⟩:=Option.bind_eq_some_iff.1 h
    rw [show (toSg q s).mu _=some cs from h1]
    simp only [Option.bind_some]
    split at h
    ·rename_i hb
     rw [if_pos hb]
     simp only [fAs_eq] at h
     obtain ⟨s',h,h2⟩:=xmnew_eq (q:=q) h
     simp only [fA_eq,Option.some.injEq] at h
     subst h
     simp only [h2]
     rfl
    ·cases h
  ·cases h
 ·cases h
theorem xp_ok (m:Int):XPOK (qm m) xp p:=by
 refine ⟨fun f=>rfl,fun f h=>?_,fun f g h=>?_,fun g cs (h:false=true)=>Bool.noConfusion h⟩
 ·have h:xov f=none:=h
  show ov f=none
  unfold xov at h
  unfold ov
  split at h
  ·cases h
  ·rename_i e;rw [if_neg e]
   split at h
   ·cases h
   ·rename_i e;rw [if_neg e]
    split at h
    ·cases h
    ·rename_i e;rw [if_neg e]
     split at h
     ·cases h
     ·rename_i e;rw [if_neg e]
 ·have h:xov f=some g:=h
  show ∃ g',ov f=some g' ∧ _
  unfold xov at h
  unfold ov
  split at h
  ·rename_i e;rw [if_pos e];cases h;exact ⟨_,rfl,xcontains_ok m⟩
  ·rename_i e;rw [if_neg e]
   split at h
   ·rename_i e;rw [if_pos e];cases h;exact ⟨_,rfl,xclone_ok⟩
   ·rename_i e;rw [if_neg e]
    split at h
    ·rename_i e;rw [if_pos e];cases h;exact ⟨_,rfl,xclone_ok⟩
    ·rename_i e;rw [if_neg e]
     split at h
     ·rename_i e;rw [if_pos e];cases h;exact ⟨_,rfl,fun a s r h=>by cases h⟩
     ·rename_i e;rw [if_neg e]
      cases h
end Go.Sim.Mn
