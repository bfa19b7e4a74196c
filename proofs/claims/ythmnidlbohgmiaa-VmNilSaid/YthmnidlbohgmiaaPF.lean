/-
  A part of a proof: see the last text of this claim.
-/
import Derived.Test.YthmnidlbohgmiaaPB
import Derived.Test.YthmnidlbohgmiaaProg
import Derived.Tactics
import Derived.Tactics2
import Derived.StillTactics
import Derived.Laws.RangeString
import Derived.Laws.RangeAny
import Derived.Laws.Alloc2
import Derived.Laws.Cells
import Derived.Laws.Strings
import Derived.Laws.World
import Derived.Laws.Small
import Derived.Laws.Append
import Derived.Laws.AppendOwn
import Derived.Laws.Build
import Derived.Laws.Slices
import Derived.Laws.Pointers
import Derived.FnLit
import Derived.LoopTactic
import Derived.Test.YthmnidlbohgmiaaPC
set_option linter.unusedVariables false
set_option linter.unusedSimpArgs false
namespace Go.Sim.Vm
open Go Go.Sim
def ii (n:Nat) (o:AOp):AIns:=⟨some n,none,o⟩
def N6_:Nat:=6
def N25_:Nat:=25
def N26_:Nat:=26
def N27_:Nat:=27
def N28_:Nat:=28
def N29_:Nat:=29
def N30_:Nat:=30
def N31_:Nat:=31
def N32_:Nat:=32
def N33_:Nat:=33
def N36_:Nat:=36
def N37_:Nat:=37
def N41_:Nat:=41
def N68_:Nat:=68
def N69_:Nat:=69
def N70_:Nat:=70
def N71_:Nat:=71
def N72_:Nat:=72
def N73_:Nat:=73
def N74_:Nat:=74
def N75_:Nat:=75
def N81_:Nat:=81
def N82_:Nat:=82
def N83_:Nat:=83
def N84_:Nat:=84
def N86_:Nat:=86
def N87_:Nat:=87
def N114_:Nat:=114
def N115_:Nat:=115
def N116_:Nat:=116
def N117_:Nat:=117
def N118_:Nat:=118
def N119_:Nat:=119
def N120_:Nat:=120
def N121_:Nat:=121
def N122_:Nat:=122
def N123_:Nat:=123
def N124_:Nat:=124
def N125_:Nat:=125
def N133_:Nat:=133
def N134_:Nat:=134
def N135_:Nat:=135
def N136_:Nat:=136
def N137_:Nat:=137
def N162_:Nat:=162
def N163_:Nat:=163
def N164_:Nat:=164
def N165_:Nat:=165
def N166_:Nat:=166
def N167_:Nat:=167
def N168_:Nat:=168
def N169_:Nat:=169
def N170_:Nat:=170
def N171_:Nat:=171
def N184_:Nat:=184
def N185_:Nat:=185
def N186_:Nat:=186
def N187_:Nat:=187
def N188_:Nat:=188
def N189_:Nat:=189
def N190_:Nat:=190
def N191_:Nat:=191
def N194_:Nat:=194
def N195_:Nat:=195
def N206_:Nat:=206
def F6_r0:List AIns:=[ii 0 (.mv (.c (.lit (.bool false))))]
def F6_r1:List AIns:=[ii 1 (.mv (.c (.lit (.pointer none))))]
def F6_r2:List AIns:=[ii 5 (.mv (.t 1)),
 ii 6 (.call (.f N25_) [(.t 5)]),
 ii 4 (.mv (.t 6)),
 ii 7 (.ext (.t 4) 0),
 ii 8 (.ext (.t 4) 1),
 ii 2 (.alloc true [.lit (.int .i64 0),.lit (.int .i64 0),.slice .full 1 [],.lit (.int .i64 0)]),
 ⟨none,none,.st false 4 (.t 2) (.t 7)⟩,
 ii 3 (.mv (.t 8))]
def F6_r3:List AIns:=[ii 9 (.mv (.t 1)),
 ii 10 (.call (.f N26_) [(.t 9)]),
 ii 11 (.unot (.t 10)),
 ii 12 (.mv (.t 11)),
 ⟨some 13,(some (12,true)),.ld false (some 4) (.t 2)⟩,
 ⟨some 14,(some (12,true)),.build [.lit (.int .i64 0),.lit (.int .i64 0),.slice .full 1 [],.lit (.int .i64 0)] []⟩,
 ⟨some 15,(some (12,true)),.call (.f N27_) [(.t 13),(.t 14)]⟩,
 ii 16 (.pick (.t 12) (.t 15) (.c (.lit (.bool false)))),
 ii 17 (.mv (.t 16)),
 ⟨some 18,(some (17,true)),.mv (.t 3)⟩,
 ⟨some 19,(some (17,true)),.unot (.t 18)⟩,
 ii 20 (.pick (.t 17) (.t 19) (.c (.lit (.bool false)))),
 ii 21 (.mv (.t 20)),
 ⟨some 22,(some (21,true)),.mv (.t 1)⟩,
 ⟨some 23,(some (21,true)),.call (.f N28_) [(.t 22)]⟩,
 ⟨some 24,(some (21,true)),.bin .eql (.t 23) (.c (.lit (.int .i64 3)))⟩,
 ii 25 (.pick (.t 21) (.t 24) (.c (.lit (.bool false)))),
 ii 26 (.mv (.t 25)),
 ⟨some 27,(some (26,true)),.mv (.t 1)⟩,
 ⟨some 28,(some (26,true)),.call (.f N29_) [(.t 27)]⟩,
 ⟨some 29,(some (26,true)),.len false (.t 28)⟩,
 ⟨some 30,(some (26,true)),.bin .eql (.t 29) (.c (.lit (.int .i64 0)))⟩,
 ii 31 (.pick (.t 26) (.t 30) (.c (.lit (.bool false)))),
 ii 32 (.mv (.t 31)),
 ⟨some 33,(some (32,true)),.mv (.t 1)⟩,
 ⟨some 34,(some (32,true)),.call (.f N30_) [(.t 33)]⟩,
 ⟨some 35,(some (32,true)),.peq false (.t 34) (.c (.lit (.pointer none)))⟩,
 ii 36 (.pick (.t 32) (.t 35) (.c (.lit (.bool false)))),
 ii 37 (.mv (.t 36)),
 ⟨some 38,(some (37,true)),.mv (.t 1)⟩,
 ⟨some 39,(some (37,true)),.call (.f N31_) [(.t 38)]⟩,
 ⟨some 40,(some (37,true)),.bin .eql (.t 39) (.c (.lit (.int .i64 0)))⟩,
 ii 41 (.pick (.t 37) (.t 40) (.c (.lit (.bool false)))),
 ii 42 (.mv (.t 41)),
 ⟨some 43,(some (42,true)),.mv (.t 1)⟩,
 ⟨some 44,(some (42,true)),.call (.f N32_) [(.t 43)]⟩,
 ⟨some 45,(some (42,true)),.peq false (.t 44) (.c (.lit (.pointer none)))⟩,
 ii 46 (.pick (.t 42) (.t 45) (.c (.lit (.bool false)))),
 ii 47 (.mv (.t 46)),
 ⟨some 48,(some (47,true)),.call (.f N33_) []⟩,
 ii 49 (.pick (.t 47) (.t 48) (.c (.lit (.bool false)))),
 ii 0 (.mv (.t 49))]
def F6_:AFun:=⟨0,.seq (.reg F6_r0 [] [] []) (.seq (.reg F6_r1 [] [1] []) (.seq (.reg F6_r2 [] [1,2,3] [2]) (.seq (.reg F6_r3 [] [0] []) (.ret)))),[.t 0]⟩
def F25_r0:List AIns:=[ii 2 (.alloc true [.lit (.int .i64 0),.lit (.int .i64 0),.slice .full 1 [],.lit (.int .i64 0)]),
 ii 3 (.mv (.c (.lit (.bool false))))]
def F25_r1:List AIns:=[ii 5 (.mv (.t 0)),
 ii 6 (.peq false (.t 5) (.c (.lit (.pointer none))))]
def F25_r2:List AIns:=[ii 7 (.build [.lit (.int .i64 0),.lit (.int .i64 0),.slice .full 1 [],.lit (.int .i64 0)] []),
 ⟨none,none,.st false 4 (.t 2) (.t 7)⟩,
 ii 3 (.mv (.c (.lit (.bool false))))]
def F25_r3:List AIns:=[ii 8 (.mv (.t 0)),
 ii 9 (.nck (.t 8)),
 ii 10 (.fa 9 (.t 9)),
 ii 11 (.ld true (some 4) (.t 10)),
 ii 4 (.alloc true [.lit (.int .i64 0),.lit (.int .i64 0),.slice .full 1 [],.lit (.int .i64 0)]),
 ⟨none,none,.st false 4 (.t 4) (.t 11)⟩]
def F25_r4:List AIns:=[ii 12 (.fa 2 (.t 4)),
 ii 13 (.ld false none (.t 12)),
 ii 14 (.call (.f N68_) [(.t 13)]),
 ii 15 (.fa 2 (.t 4)),
 ⟨none,none,.st false 1 (.t 15) (.t 14)⟩]
def F25_r5:List AIns:=[ii 16 (.mv (.t 0)),
 ii 17 (.nck (.t 16)),
 ii 18 (.fa 13 (.t 17)),
 ii 19 (.ld true none (.t 18)),
 ii 20 (.unot (.t 19))]
def F25_r6:List AIns:=[ii 21 (.fa 0 (.t 4)),
 ⟨none,none,.st false 1 (.t 21) (.c (.lit (.int .i64 1)))⟩]
def F25_r7:List AIns:=[ii 22 (.ld false (some 4) (.t 4)),
 ii 23 (.mv (.t 0)),
 ii 24 (.nck (.t 23)),
 ii 25 (.fa 13 (.t 24)),
 ii 26 (.ldo 0 none (.t 25)),
 ⟨none,none,.st false 4 (.t 2) (.t 22)⟩,
 ii 3 (.mv (.t 26))]
def F25_:AFun:=⟨1,.seq (.reg F25_r0 [] [0,2] [2]) (.seq (.seq (.reg F25_r1 [] [0,2,6] [2]) (.cond (.t 6) (.seq (.reg F25_r2 [] [2,3] [2]) (.ret)) (.skip))) (.seq (.reg F25_r3 [] [0,2,4] [2,4]) (.seq (.reg F25_r4 [] [0,2,4] [2,4]) (.seq (.seq (.reg F25_r5 [] [0,2,4,20] [2,4]) (.cond (.t 20) (.reg F25_r6 [] [0,2,4] [2,4]) (.skip))) (.seq (.reg F25_r7 [] [2,3] [2]) (.ret)))))),[.cell (some 4) 2,.t 3]⟩
def F26_r0:List AIns:=[ii 2 (.mv (.c (.lit (.bool false))))]
def F26_r1:List AIns:=[ii 4 (.mv (.t 0)),
 ii 5 (.peq false (.t 4) (.c (.lit (.pointer none)))),
 ii 6 (.mv (.t 5)),
 ⟨some 7,(some (6,false)),.mv (.t 0)⟩,
 ⟨some 8,(some (6,false)),.nck (.t 7)⟩,
 ⟨some 9,(some (6,false)),.fa 13 (.t 8)⟩,
 ⟨some 10,(some (6,false)),.ld true none (.t 9)⟩,
 ii 11 (.pick (.t 6) (.c (.lit (.bool true))) (.t 10))]
def F26_r2:List AIns:=[ii 2 (.mv (.c (.lit (.bool false))))]
def F26_r3:List AIns:=[ii 12 (.mv (.t 0)),
 ii 13 (.nck (.t 12)),
 ii 14 (.fa 9 (.t 13)),
 ii 15 (.fa 3 (.t 14)),
 ii 16 (.ld true none (.t 15)),
 ii 17 (.mv (.t 0)),
 ii 18 (.nck (.t 17)),
 ii 19 (.fa 8 (.t 18)),
 ii 20 (.ld true none (.t 19)),
 ii 21 (.bin .eql (.t 16) (.t 20))]
def F26_r4:List AIns:=[ii 22 (.mv (.t 0)),
 ii 23 (.call (.f N69_) [(.t 22),(.c (.lit (.int .i64 1)))])]
def F26_r5:List AIns:=[ii 24 (.mv (.t 0)),
 ii 25 (.nck (.t 24)),
 ii 26 (.fa 0 (.t 25)),
 ii 27 (.fa 1 (.t 26)),
 ii 28 (.ld true none (.t 27)),
 ii 29 (.mv (.t 0)),
 ii 30 (.nck (.t 29)),
 ii 31 (.fa 5 (.t 30)),
 ii 32 (.ld true none (.t 31)),
 ii 33 (.ia 7 (.t 28) (.t 32)),
 ii 34 (.ld true (some 7) (.t 33)),
 ii 3 (.alloc true [.lit (.int .i64 0),.lit (.int .i64 0),.lit (.int .i64 0),.lit (.int .i64 0),.lit (.int .i64 0),.slice .full 1 [],.slice .full 1 []]),
 ⟨none,none,.st false 7 (.t 3) (.t 34)⟩]
def F26_r6:List AIns:=[ii 35 (.call (.f N70_) []),
 ii 36 (.fa 0 (.t 3)),
 ii 37 (.ld false none (.t 36)),
 ii 38 (.wop (.ixv 11 1 none) [(.t 35),(.t 37)]),
 ii 39 (.mv (.t 0)),
 ii 40 (.ld false (some 7) (.t 3)),
 ii 41 (.call (.t 38) [(.t 39),(.t 40)])]
def F26_r7:List AIns:=[ii 43 (.bin .eql (.t 41) (.c (.lit (.int .i64 1)))),
 ii 42 (.mv (.t 43))]
def F26_r8:List AIns:=[ii 44 (.mv (.t 0)),
 ii 45 (.call (.f N69_) [(.t 44),(.c (.lit (.int .i64 2)))])]
def F26_r9:List AIns:=[ii 47 (.bin .eql (.t 41) (.c (.lit (.int .i64 2)))),
 ii 46 (.mv (.t 47))]
def F26_r10:List AIns:=[ii 48 (.mv (.t 0)),
 ii 49 (.call (.f N69_) [(.t 48),(.c (.lit (.int .i64 3)))])]
def F26_r11:List AIns:=[ii 51 (.bin .eql (.t 41) (.c (.lit (.int .i64 3)))),
 ii 50 (.mv (.t 51))]
def F26_r12:List AIns:=[ii 52 (.mv (.t 0)),
 ii 53 (.call (.f N69_) [(.t 52),(.c (.lit (.int .i64 0)))])]
def F26_r13:List AIns:=[ii 54 (.mv (.t 0)),
 ii 55 (.nck (.t 54)),
 ii 56 (.fa 9 (.t 55)),
 ii 57 (.fa 3 (.t 56)),
 ii 58 (.ld true none (.t 57)),
 ii 59 (.bin .add (.t 58) (.c (.lit (.int .i64 1)))),
 ii 60 (.nck (.t 54)),
 ii 61 (.fa 9 (.t 60)),
 ii 62 (.fa 3 (.t 61)),
 ⟨none,none,.st true 1 (.t 62) (.t 59)⟩]
def F26_r14:List AIns:=[ii 2 (.mv (.c (.lit (.bool true))))]
def F26_l1:AC:=.block 1 (.seq (.seq (.reg F26_r3 [] [0,21] []) (.cond (.t 21) (.seq (.reg F26_r4 [] [] []) (.exit 0)) (.skip))) (.seq (.reg F26_r5 [3] [0,3] [3]) (.seq (.seq (.reg F26_r6 [] [0,41] []) (.block 2 (.seq (.reg F26_r7 [] [0,41,42] []) (.cond (.t 42) (.seq (.reg F26_r8 [] [] []) (.exit 0)) (.seq (.reg F26_r9 [] [0,41,46] []) (.cond (.t 46) (.seq (.reg F26_r10 [] [] []) (.exit 0)) (.seq (.reg F26_r11 [] [0,50] []) (.cond (.t 50) (.reg F26_r12 [] [0] []) (.skip))))))))) (.seq (.reg F26_r13 [] [] []) (.seq (.reg F26_r14 [] [2] []) (.ret))))))
def F26_r15:List AIns:=[ii 2 (.mv (.c (.lit (.bool false))))]
def F26_:AFun:=⟨1,.seq (.reg F26_r0 [] [0] []) (.seq (.seq (.reg F26_r1 [] [0,11] []) (.cond (.t 11) (.seq (.reg F26_r2 [] [2] []) (.ret)) (.skip))) (.seq (.skip) (.seq (.block 0 (.loop F26_l1)) (.seq (.reg F26_r15 [] [2] []) (.ret))))),[.t 2]⟩
def F27_r0:List AIns:=[ii 2 (.box true (.t 0)),
 ii 3 (.box true (.t 1)),
 ii 4 (.mv (.c (.lit (.bool false))))]
def F27_r1:List AIns:=[ii 5 (.fa 0 (.t 2)),
 ii 6 (.ld false none (.t 5)),
 ii 7 (.fa 0 (.t 3)),
 ii 8 (.ld false none (.t 7)),
 ii 9 (.bin .eql (.t 6) (.t 8)),
 ii 10 (.mv (.t 9)),
 ⟨some 11,(some (10,true)),.fa 1 (.t 2)⟩,
 ⟨some 12,(some (10,true)),.ld false none (.t 11)⟩,
 ⟨some 13,(some (10,true)),.fa 1 (.t 3)⟩,
 ⟨some 14,(some (10,true)),.ld false none (.t 13)⟩,
 ⟨some 15,(some (10,true)),.bin .eql (.t 12) (.t 14)⟩,
 ii 16 (.pick (.t 10) (.t 15) (.c (.lit (.bool false)))),
 ii 17 (.mv (.t 16)),
 ⟨some 18,(some (17,true)),.fa 3 (.t 2)⟩,
 ⟨some 19,(some (17,true)),.ld false none (.t 18)⟩,
 ⟨some 20,(some (17,true)),.fa 3 (.t 3)⟩,
 ⟨some 21,(some (17,true)),.ld false none (.t 20)⟩,
 ⟨some 22,(some (17,true)),.bin .eql (.t 19) (.t 21)⟩,
 ii 23 (.pick (.t 17) (.t 22) (.c (.lit (.bool false)))),
 ii 24 (.mv (.t 23)),
 ⟨some 25,(some (24,true)),.fa 2 (.t 2)⟩,
 ⟨some 26,(some (24,true)),.ld false none (.t 25)⟩,
 ⟨some 27,(some (24,true)),.fa 2 (.t 3)⟩,
 ⟨some 28,(some (24,true)),.ld false none (.t 27)⟩,
 ⟨some 29,(some (24,true)),.call (.f N37_) [(.t 26),(.t 28)]⟩,
 ii 30 (.pick (.t 24) (.t 29) (.c (.lit (.bool false)))),
 ii 4 (.mv (.t 30))]
def F27_:AFun:=⟨2,.seq (.reg F27_r0 [] [2,3] [2,3]) (.seq (.reg F27_r1 [] [4] []) (.ret)),[.t 4]⟩
def F28_r0:List AIns:=[ii 2 (.mv (.c (.lit (.int .i64 0))))]
def F28_r1:List AIns:=[ii 3 (.mv (.t 0)),
 ii 4 (.peq false (.t 3) (.c (.lit (.pointer none))))]
def F28_r2:List AIns:=[ii 2 (.mv (.c (.lit (.int .i64 3))))]
def F28_r3:List AIns:=[ii 5 (.mv (.t 0)),
 ii 6 (.call (.f N71_) [(.t 5)])]
def F28_r4:List AIns:=[ii 2 (.mv (.c (.lit (.int .i64 0))))]
def F28_:AFun:=⟨1,.seq (.reg F28_r0 [] [0] []) (.seq (.seq (.reg F28_r1 [] [0,4] []) (.cond (.t 4) (.seq (.reg F28_r2 [] [2] []) (.ret)) (.skip))) (.seq (.reg F28_r3 [] [] []) (.seq (.reg F28_r4 [] [2] []) (.ret)))),[.t 2]⟩
def F29_r0:List AIns:=[ii 2 (.mv (.c (.slice .full 2 [])))]
def F29_r1:List AIns:=[ii 4 (.mv (.t 0)),
 ii 5 (.peq false (.t 4) (.c (.lit (.pointer none))))]
def F29_r2:List AIns:=[ii 2 (.mv (.c (.slice .full 2 [])))]
def F29_r3:List AIns:=[ii 6 (.mv (.t 0)),
 ii 7 (.nck (.t 6)),
 ii 8 (.fa 4 (.t 7)),
 ii 9 (.ld true none (.t 8)),
 ii 10 (.len false (.t 9)),
 ii 3 (.mv (.t 10))]
def F29_r4:List AIns:=[ii 11 (.mv (.t 3)),
 ii 12 (.bin .gtr (.t 11) (.c (.lit (.int .i64 0)))),
 ii 13 (.mv (.t 12)),
 ⟨some 14,(some (13,true)),.mv (.t 0)⟩,
 ⟨some 15,(some (13,true)),.nck (.t 14)⟩,
 ⟨some 16,(some (13,true)),.fa 4 (.t 15)⟩,
 ⟨some 17,(some (13,true)),.ld true none (.t 16)⟩,
 ⟨some 18,(some (13,true)),.mv (.t 3)⟩,
 ⟨some 19,(some (13,true)),.bin .sub (.t 18) (.c (.lit (.int .i64 1)))⟩,
 ⟨some 20,(some (13,true)),.ia 2 (.t 17) (.t 19)⟩,
 ⟨some 21,(some (13,true)),.ld true (some 2) (.t 20)⟩,
 ⟨some 22,(some (13,true)),.build [.lit (.bool false),.lit (.int .i64 0)] []⟩,
 ⟨some 23,(some (13,true)),.aeq false [.b,.i] (.t 21) (.t 22)⟩,
 ii 24 (.pick (.t 13) (.t 23) (.c (.lit (.bool false))))]
def F29_r5:List AIns:=[ii 25 (.mv (.t 3)),
 ii 26 (.bin .sub (.t 25) (.c (.lit (.int .i64 1)))),
 ii 3 (.mv (.t 26))]
def F29_l1:AC:=.seq (.seq (.reg F29_r4 [] [0,3,24] []) (.cond (.t 24) (.skip) (.exit 0))) (.block 1 (.reg F29_r5 [] [0,3] []))
def F29_r6:List AIns:=[ii 27 (.mv (.t 0)),
 ii 28 (.nck (.t 27)),
 ii 29 (.fa 4 (.t 28)),
 ii 30 (.ld true none (.t 29)),
 ii 31 (.mv (.t 3)),
 ii 32 (.sl 2 (.t 30) none (some (.t 31)) none),
 ii 33 (.call (.f N72_) [(.t 32)]),
 ii 2 (.mv (.t 33))]
def F29_:AFun:=⟨1,.seq (.reg F29_r0 [] [0] []) (.seq (.seq (.reg F29_r1 [] [0,5] []) (.cond (.t 5) (.seq (.reg F29_r2 [] [2] []) (.ret)) (.skip))) (.seq (.reg F29_r3 [] [0,3] []) (.seq (.block 0 (.loop F29_l1)) (.seq (.reg F29_r6 [] [2] []) (.ret))))),[.t 2]⟩
def F30_r0:List AIns:=[ii 2 (.mv (.c (.lit (.pointer none))))]
def F30_r1:List AIns:=[ii 3 (.mv (.t 0)),
 ii 4 (.peq false (.t 3) (.c (.lit (.pointer none))))]
def F30_r2:List AIns:=[ii 2 (.mv (.c (.lit (.pointer none))))]
def F30_r3:List AIns:=[ii 5 (.mv (.t 0)),
 ii 6 (.nck (.t 5)),
 ii 7 (.fa 3 (.t 6)),
 ii 8 (.ld true none (.t 7)),
 ii 9 (.call (.f N73_) [(.t 8)]),
 ii 2 (.mv (.t 9))]
def F30_:AFun:=⟨1,.seq (.reg F30_r0 [] [0] []) (.seq (.seq (.reg F30_r1 [] [0,4] []) (.cond (.t 4) (.seq (.reg F30_r2 [] [2] []) (.ret)) (.skip))) (.seq (.reg F30_r3 [] [2] []) (.ret))),[.t 2]⟩
def F31_r0:List AIns:=[ii 2 (.mv (.c (.lit (.int .i64 0))))]
def F31_r1:List AIns:=[ii 3 (.mv (.t 0)),
 ii 4 (.peq false (.t 3) (.c (.lit (.pointer none))))]
def F31_r2:List AIns:=[ii 2 (.mv (.c (.lit (.int .i64 0))))]
def F31_r3:List AIns:=[ii 5 (.mv (.t 0)),
 ii 6 (.nck (.t 5)),
 ii 7 (.fa 5 (.t 6)),
 ii 8 (.ld true none (.t 7)),
 ii 2 (.mv (.t 8))]
def F31_:AFun:=⟨1,.seq (.reg F31_r0 [] [0] []) (.seq (.seq (.reg F31_r1 [] [0,4] []) (.cond (.t 4) (.seq (.reg F31_r2 [] [2] []) (.ret)) (.skip))) (.seq (.reg F31_r3 [] [2] []) (.ret))),[.t 2]⟩
def F32_r0:List AIns:=[ii 2 (.mv (.c (.lit (.pointer none))))]
def F32_r1:List AIns:=[ii 4 (.mv (.t 0)),
 ii 5 (.peq false (.t 4) (.c (.lit (.pointer none))))]
def F32_r2:List AIns:=[ii 2 (.mv (.c (.lit (.pointer none))))]
def F32_r3:List AIns:=[ii 6 (.mv (.t 0)),
 ii 7 (.nck (.t 6)),
 ii 8 (.ld true (some 14) (.t 7)),
 ii 3 (.alloc false [.lit (.int .i64 0),.slice .full 7 [],.slice .full 1 [],.lit (.pointer none),.slice .full 2 [],.lit (.int .i64 0),.lit (.int .i64 0),.lit (.int .i64 0),.lit (.int .i64 0),.lit (.int .i64 0),.lit (.int .i64 0),.slice .full 1 [],.lit (.int .i64 0),.lit (.bool false)]),
 ⟨none,none,.st true 14 (.t 3) (.t 8)⟩]
def F32_r4:List AIns:=[ii 9 (.mv (.t 0)),
 ii 10 (.nck (.t 9)),
 ii 11 (.fa 3 (.t 10)),
 ii 12 (.ld true none (.t 11)),
 ii 13 (.call (.f N73_) [(.t 12)]),
 ii 14 (.fa 3 (.t 3)),
 ⟨none,none,.st true 1 (.t 14) (.t 13)⟩]
def F32_r5:List AIns:=[ii 15 (.mv (.t 0)),
 ii 16 (.nck (.t 15)),
 ii 17 (.fa 4 (.t 16)),
 ii 18 (.ld true none (.t 17)),
 ii 19 (.call (.f N72_) [(.t 18)]),
 ii 20 (.fa 4 (.t 3)),
 ⟨none,none,.st true 1 (.t 20) (.t 19)⟩]
def F32_r6:List AIns:=[ii 21 (.mv (.t 0)),
 ii 22 (.nck (.t 21)),
 ii 23 (.fa 9 (.t 22)),
 ii 24 (.fa 2 (.t 23)),
 ii 25 (.ld true none (.t 24)),
 ii 26 (.call (.f N68_) [(.t 25)]),
 ii 27 (.fa 9 (.t 3)),
 ii 28 (.fa 2 (.t 27)),
 ⟨none,none,.st true 1 (.t 28) (.t 26)⟩]
def F32_r7:List AIns:=[ii 2 (.mv (.t 3))]
def F32_:AFun:=⟨1,.seq (.reg F32_r0 [] [0] []) (.seq (.seq (.reg F32_r1 [] [0,5] []) (.cond (.t 5) (.seq (.reg F32_r2 [] [2] []) (.ret)) (.skip))) (.seq (.reg F32_r3 [] [0,3] []) (.seq (.reg F32_r4 [] [0,3] []) (.seq (.reg F32_r5 [] [0,3] []) (.seq (.reg F32_r6 [] [3] []) (.seq (.reg F32_r7 [] [2] []) (.ret))))))),[.t 2]⟩
def F33_r0:List AIns:=[ii 0 (.mv (.c (.lit (.bool false))))]
def F33_r1:List AIns:=[ii 12 (.call (.f N74_) []),
 ii 13 (.bsl 1 [(.c (.lit (.int .i64 4)))]),
 ii 14 (.call (.f N36_) [(.t 12),(.c (.lit (.int .i64 0))),(.c (.lit (.int .i64 0))),(.c (.lit (.int .i64 100))),(.t 13)]),
 ii 11 (.mv (.t 14)),
 ii 15 (.ext (.t 11) 0),
 ii 16 (.ext (.t 11) 1),
 ii 1 (.alloc true [.lit (.int .i64 0),.lit (.int .i64 0),.slice .full 1 [],.lit (.int .i64 0)]),
 ⟨none,none,.st false 4 (.t 1) (.t 15)⟩,
 ii 2 (.mv (.t 16))]
def F33_r2:List AIns:=[ii 18 (.call (.f N75_) []),
 ii 19 (.call (.f N36_) [(.t 18),(.c (.lit (.int .i64 2))),(.c (.lit (.int .i64 0))),(.c (.lit (.int .i64 50))),(.c (.slice .full 1 []))]),
 ii 17 (.mv (.t 19)),
 ii 20 (.ext (.t 17) 0),
 ii 21 (.ext (.t 17) 1),
 ii 3 (.alloc true [.lit (.int .i64 0),.lit (.int .i64 0),.slice .full 1 [],.lit (.int .i64 0)]),
 ⟨none,none,.st false 4 (.t 3) (.t 20)⟩,
 ii 4 (.mv (.t 21))]
def F33_r3:List AIns:=[ii 23 (.call (.f N75_) []),
 ii 24 (.call (.f N36_) [(.t 23),(.c (.lit (.int .i64 1))),(.c (.lit (.int .i64 0))),(.c (.lit (.int .i64 50))),(.c (.slice .full 1 []))]),
 ii 22 (.mv (.t 24)),
 ii 25 (.ext (.t 22) 0),
 ii 26 (.ext (.t 22) 1),
 ii 5 (.alloc true [.lit (.int .i64 0),.lit (.int .i64 0),.slice .full 1 [],.lit (.int .i64 0)]),
 ⟨none,none,.st false 4 (.t 5) (.t 25)⟩,
 ii 6 (.mv (.t 26))]
def F33_r4:List AIns:=[ii 28 (.call (.f N74_) []),
 ii 29 (.bsl 1 [(.c (.lit (.int .i64 4)))]),
 ii 30 (.call (.f N41_) [(.t 28),(.c (.lit (.int .i64 0))),(.c (.lit (.int .i64 0))),(.c (.lit (.int .i64 100))),(.t 29)]),
 ii 27 (.mv (.t 30)),
 ii 31 (.ext (.t 27) 0),
 ii 32 (.ext (.t 27) 1),
 ii 7 (.mv (.t 31)),
 ii 8 (.mv (.t 32))]
def F33_r5:List AIns:=[ii 34 (.build [.lit (.int .i64 0),.slice .full 7 [],.slice .full 1 []] []),
 ii 35 (.call (.f N41_) [(.t 34),(.c (.lit (.int .i64 0))),(.c (.lit (.int .i64 0))),(.c (.lit (.int .i64 0))),(.c (.slice .full 1 []))]),
 ii 33 (.mv (.t 35)),
 ii 36 (.ext (.t 33) 0),
 ii 37 (.ext (.t 33) 1),
 ii 9 (.mv (.t 36)),
 ii 10 (.mv (.t 37))]
def F33_r6:List AIns:=[ii 38 (.mv (.t 2)),
 ii 39 (.bin .eql (.t 38) (.c (.lit (.int .i64 0)))),
 ii 40 (.mv (.t 39)),
 ⟨some 41,(some (40,true)),.ld false (some 4) (.t 1)⟩,
 ⟨some 42,(some (40,true)),.build [.lit (.int .i64 0),.lit (.int .i64 0),.slice .full 1 [],.lit (.int .i64 0)] [(0,1,(.c (.lit (.int .i64 0)))),(1,1,(.c (.lit (.int .i64 5)))),(3,1,(.c (.lit (.int .i64 3))))]⟩,
 ⟨some 43,(some (40,true)),.call (.f N27_) [(.t 41),(.t 42)]⟩,
 ii 44 (.pick (.t 40) (.t 43) (.c (.lit (.bool false)))),
 ii 45 (.mv (.t 44)),
 ⟨some 46,(some (45,true)),.mv (.t 4)⟩,
 ⟨some 47,(some (45,true)),.bin .eql (.t 46) (.c (.lit (.int .i64 0)))⟩,
 ii 48 (.pick (.t 45) (.t 47) (.c (.lit (.bool false)))),
 ii 49 (.mv (.t 48)),
 ⟨some 50,(some (49,true)),.fa 0 (.t 3)⟩,
 ⟨some 51,(some (49,true)),.ld false none (.t 50)⟩,
 ⟨some 52,(some (49,true)),.bin .eql (.t 51) (.c (.lit (.int .i64 1)))⟩,
 ii 53 (.pick (.t 49) (.t 52) (.c (.lit (.bool false)))),
 ii 54 (.mv (.t 53)),
 ⟨some 55,(some (54,true)),.fa 3 (.t 3)⟩,
 ⟨some 56,(some (54,true)),.ld false none (.t 55)⟩,
 ⟨some 57,(some (54,true)),.bin .eql (.t 56) (.c (.lit (.int .i64 50)))⟩,
 ii 58 (.pick (.t 54) (.t 57) (.c (.lit (.bool false)))),
 ii 59 (.mv (.t 58)),
 ⟨some 60,(some (59,true)),.mv (.t 6)⟩,
 ⟨some 61,(some (59,true)),.bin .eql (.t 60) (.c (.lit (.int .i64 0)))⟩,
 ii 62 (.pick (.t 59) (.t 61) (.c (.lit (.bool false)))),
 ii 63 (.mv (.t 62)),
 ⟨some 64,(some (63,true)),.fa 0 (.t 5)⟩,
 ⟨some 65,(some (63,true)),.ld false none (.t 64)⟩,
 ⟨some 66,(some (63,true)),.bin .eql (.t 65) (.c (.lit (.int .i64 3)))⟩,
 ii 67 (.pick (.t 63) (.t 66) (.c (.lit (.bool false)))),
 ii 68 (.mv (.t 67)),
 ⟨some 69,(some (68,true)),.fa 3 (.t 5)⟩,
 ⟨some 70,(some (68,true)),.ld false none (.t 69)⟩,
 ⟨some 71,(some (68,true)),.bin .eql (.t 70) (.c (.lit (.int .i64 2)))⟩,
 ii 72 (.pick (.t 68) (.t 71) (.c (.lit (.bool false)))),
 ii 73 (.mv (.t 72)),
 ⟨some 74,(some (73,true)),.mv (.t 8)⟩,
 ⟨some 75,(some (73,true)),.bin .eql (.t 74) (.c (.lit (.int .i64 0)))⟩,
 ii 76 (.pick (.t 73) (.t 75) (.c (.lit (.bool false)))),
 ii 77 (.mv (.t 76)),
 ⟨some 78,(some (77,true)),.mv (.t 7)⟩,
 ⟨some 79,(some (77,true)),.call (.f N26_) [(.t 78)]⟩,
 ii 80 (.pick (.t 77) (.t 79) (.c (.lit (.bool false)))),
 ii 81 (.mv (.t 80)),
 ⟨some 82,(some (81,true)),.mv (.t 7)⟩,
 ⟨some 83,(some (81,true)),.call (.f N31_) [(.t 82)]⟩,
 ⟨some 84,(some (81,true)),.bin .eql (.t 83) (.c (.lit (.int .i64 1)))⟩,
 ii 85 (.pick (.t 81) (.t 84) (.c (.lit (.bool false)))),
 ii 86 (.mv (.t 85)),
 ⟨some 87,(some (86,true)),.mv (.t 10)⟩,
 ⟨some 88,(some (86,true)),.bin .eql (.t 87) (.c (.lit (.int .i64 150)))⟩,
 ii 89 (.pick (.t 86) (.t 88) (.c (.lit (.bool false)))),
 ii 0 (.mv (.t 89))]
def F33_:AFun:=⟨0,.seq (.reg F33_r0 [] [] []) (.seq (.reg F33_r1 [] [1,2] [1]) (.seq (.reg F33_r2 [] [1,2,3,4] [1,3]) (.seq (.reg F33_r3 [] [1,2,3,4,5,6] [1,3,5]) (.seq (.reg F33_r4 [] [1,2,3,4,5,6,7,8] [1,3,5]) (.seq (.reg F33_r5 [] [1,2,3,4,5,6,7,8,10] [1,3,5]) (.seq (.reg F33_r6 [] [0] []) (.ret))))))),[.t 0]⟩
def F36_r0:List AIns:=[ii 5 (.box true (.t 0)),
 ii 10 (.alloc true [.lit (.int .i64 0),.lit (.int .i64 0),.slice .full 1 [],.lit (.int .i64 0)]),
 ii 11 (.mv (.c (.lit (.int .i64 0))))]
def F36_r1:List AIns:=[ii 15 (.ld false (some 3) (.t 5)),
 ii 16 (.mv (.t 1)),
 ii 17 (.mv (.t 2)),
 ii 18 (.mv (.t 3)),
 ii 19 (.mv (.t 4)),
 ii 20 (.call (.f N41_) [(.t 15),(.t 16),(.t 17),(.t 18),(.t 19)]),
 ii 14 (.mv (.t 20)),
 ii 21 (.ext (.t 14) 0),
 ii 22 (.ext (.t 14) 1),
 ii 12 (.mv (.t 21)),
 ii 13 (.mv (.t 22))]
def F36_r2:List AIns:=[ii 23 (.mv (.t 13)),
 ii 24 (.bin .neq (.t 23) (.c (.lit (.int .i64 0))))]
def F36_r3:List AIns:=[ii 25 (.build [.lit (.int .i64 0),.lit (.int .i64 0),.slice .full 1 [],.lit (.int .i64 0)] []),
 ii 26 (.mv (.t 13)),
 ⟨none,none,.st false 4 (.t 10) (.t 25)⟩,
 ii 11 (.mv (.t 26))]
def F36_r4:List AIns:=[ii 27 (.mv (.t 12)),
 ii 28 (.call (.f N26_) [(.t 27)])]
def F36_l1:AC:=.seq (.seq (.reg F36_r4 [] [10,12,28] [10]) (.cond (.t 28) (.skip) (.exit 0))) (.block 1 (.skip))
def F36_r5:List AIns:=[ii 29 (.mv (.t 12)),
 ii 30 (.nck (.t 29)),
 ii 31 (.fa 9 (.t 30)),
 ii 32 (.ld true (some 4) (.t 31)),
 ⟨none,none,.st false 4 (.t 10) (.t 32)⟩,
 ii 11 (.mv (.c (.lit (.int .i64 0))))]
def F36_:AFun:=⟨5,.seq (.reg F36_r0 [] [1,2,3,4,5,10] [5,10]) (.seq (.reg F36_r1 [] [10,12,13] [10]) (.seq (.seq (.reg F36_r2 [] [10,12,13,24] [10]) (.cond (.t 24) (.seq (.reg F36_r3 [] [10,11] [10]) (.ret)) (.skip))) (.seq (.block 0 (.loop F36_l1)) (.seq (.reg F36_r5 [] [10,11] [10]) (.ret))))),[.cell (some 4) 10,.t 11]⟩
def F37_r0:List AIns:=[ii 4 (.mv (.c (.lit (.bool false))))]
def F37_r1:List AIns:=[ii 6 (.mv (.t 0)),
 ii 7 (.len false (.t 6)),
 ii 8 (.mv (.t 1)),
 ii 9 (.len false (.t 8)),
 ii 10 (.bin .neq (.t 7) (.t 9))]
def F37_r2:List AIns:=[ii 4 (.mv (.c (.lit (.bool false))))]
def F37_r3:List AIns:=[ii 11 (.mv (.t 0)),
 ii 12 (.len false (.t 11)),
 ii 13 (.mv (.c (.lit (.int .i64 0))))]
def F37_r4:List AIns:=[ii 14 (.bin .lss (.t 13) (.t 12))]
def F37_r5:List AIns:=[ii 15 (.mv (.t 13)),
 ii 5 (.mv (.t 15))]
def F37_r6:List AIns:=[ii 16 (.mv (.t 0)),
 ii 17 (.mv (.t 5)),
 ii 18 (.ia 1 (.t 16) (.t 17)),
 ii 19 (.ld true none (.t 18)),
 ii 20 (.mv (.t 1)),
 ii 21 (.mv (.t 5)),
 ii 22 (.ia 1 (.t 20) (.t 21)),
 ii 23 (.ld true none (.t 22)),
 ii 24 (.bin .neq (.t 19) (.t 23))]
def F37_r7:List AIns:=[ii 4 (.mv (.c (.lit (.bool false))))]
def F37_r8:List AIns:=[ii 25 (.bin .add (.t 13) (.c (.lit (.int .i64 1)))),
 ii 13 (.mv (.t 25))]
def F37_l1:AC:=.seq (.reg F37_r4 [] [0,1,12,13,14] []) (.seq (.cond (.t 14) (.skip) (.exit 0)) (.seq (.block 1 (.seq (.reg F37_r5 [] [0,1,5,12,13] []) (.seq (.reg F37_r6 [] [0,1,12,13,24] []) (.cond (.t 24) (.seq (.reg F37_r7 [] [4] []) (.ret)) (.skip))))) (.reg F37_r8 [] [0,1,12,13] [])))
def F37_r9:List AIns:=[ii 4 (.mv (.c (.lit (.bool true))))]
def F37_:AFun:=⟨2,.seq (.reg F37_r0 [] [0,1] []) (.seq (.seq (.reg F37_r1 [] [0,1,10] []) (.cond (.t 10) (.seq (.reg F37_r2 [] [4] []) (.ret)) (.skip))) (.seq (.seq (.reg F37_r3 [] [0,1,12,13] []) (.block 0 (.loop F37_l1))) (.seq (.reg F37_r9 [] [4] []) (.ret)))),[.t 4]⟩
def F41_r0:List AIns:=[ii 5 (.box true (.t 0)),
 ii 10 (.mv (.c (.lit (.pointer none)))),
 ii 11 (.mv (.c (.lit (.int .i64 0))))]
def F41_r1:List AIns:=[ii 18 (.ld false (some 3) (.t 5)),
 ii 19 (.call (.f N81_) [(.t 18)]),
 ii 12 (.mv (.t 19))]
def F41_r2:List AIns:=[ii 20 (.mv (.t 12)),
 ii 21 (.bin .neq (.t 20) (.c (.lit (.int .i64 0))))]
def F41_r3:List AIns:=[ii 22 (.mv (.t 12)),
 ii 10 (.mv (.c (.lit (.pointer none)))),
 ii 11 (.mv (.t 22))]
def F41_r4:List AIns:=[ii 24 (.mv (.t 1)),
 ii 25 (.call (.f N82_) [(.t 24)]),
 ii 23 (.mv (.t 25)),
 ii 26 (.ext (.t 23) 0),
 ii 27 (.ext (.t 23) 1),
 ii 13 (.mv (.t 26)),
 ii 14 (.mv (.t 27))]
def F41_r5:List AIns:=[ii 28 (.mv (.t 14)),
 ii 29 (.bin .neq (.t 28) (.c (.lit (.int .i64 0)))),
 ii 30 (.mv (.t 29)),
 ⟨some 31,(some (30,false)),.mv (.t 2)⟩,
 ⟨some 32,(some (30,false)),.bin .lss (.t 31) (.c (.lit (.int .i64 0)))⟩,
 ii 33 (.pick (.t 30) (.c (.lit (.bool true))) (.t 32)),
 ii 34 (.mv (.t 33)),
 ⟨some 35,(some (34,false)),.mv (.t 3)⟩,
 ⟨some 36,(some (34,false)),.bin .lss (.t 35) (.c (.lit (.int .i64 0)))⟩,
 ii 37 (.pick (.t 34) (.c (.lit (.bool true))) (.t 36)),
 ii 38 (.mv (.t 37)),
 ⟨some 39,(some (38,false)),.mv (.t 3)⟩,
 ⟨some 40,(some (38,false)),.bin .gtr (.t 39) (.c (.lit (.int .i64 1048576)))⟩,
 ii 41 (.pick (.t 38) (.c (.lit (.bool true))) (.t 40)),
 ii 42 (.mv (.t 41)),
 ⟨some 43,(some (42,false)),.mv (.t 4)⟩,
 ⟨some 44,(some (42,false)),.len false (.t 43)⟩,
 ⟨some 45,(some (42,false)),.fa 0 (.t 5)⟩,
 ⟨some 46,(some (42,false)),.ld false none (.t 45)⟩,
 ⟨some 47,(some (42,false)),.bin .neq (.t 44) (.t 46)⟩,
 ii 48 (.pick (.t 42) (.c (.lit (.bool true))) (.t 47))]
def F41_r6:List AIns:=[ii 10 (.mv (.c (.lit (.pointer none)))),
 ii 11 (.mv (.c (.lit (.int .i64 1))))]
def F41_r7:List AIns:=[ii 49 (.ld false (some 3) (.t 5)),
 ii 50 (.call (.f N83_) [(.t 49)]),
 ii 51 (.mv (.t 13)),
 ii 52 (.mv (.t 2)),
 ii 53 (.mv (.t 3)),
 ii 54 (.build [.lit (.int .i64 0),.slice .full 7 [],.slice .full 1 [],.lit (.pointer none),.slice .full 2 [],.lit (.int .i64 0),.lit (.int .i64 0),.lit (.int .i64 0),.lit (.int .i64 0),.lit (.int .i64 0),.lit (.int .i64 0),.slice .full 1 [],.lit (.int .i64 0),.lit (.bool false)] [(0,3,(.t 50)),(3,1,(.t 51)),(6,1,(.t 52)),(8,1,(.t 53))]),
 ii 55 (.box false (.t 54)),
 ii 15 (.mv (.t 55))]
def F41_r8:List AIns:=[ii 56 (.mv (.t 4)),
 ii 57 (.len false (.t 56)),
 ii 58 (.mv (.c (.lit (.int .i64 0))))]
def F41_r9:List AIns:=[ii 59 (.bin .lss (.t 58) (.t 57))]
def F41_r10:List AIns:=[ii 60 (.ia 1 (.t 56) (.t 58)),
 ii 61 (.ld true none (.t 60)),
 ii 17 (.mv (.t 61))]
def F41_r11:List AIns:=[ii 62 (.mv (.t 15)),
 ii 63 (.mv (.t 15)),
 ii 64 (.nck (.t 63)),
 ii 65 (.fa 4 (.t 64)),
 ii 66 (.ld true none (.t 65)),
 ii 67 (.mv (.t 17)),
 ii 68 (.build [.lit (.bool false),.lit (.int .i64 0)] [(1,1,(.t 67))]),
 ii 69 (.bsl 2 [(.t 68)]),
 ii 70 (.wop (.appm 2 16) [(.t 66),(.t 69)]),
 ii 71 (.nck (.t 62)),
 ii 72 (.fa 4 (.t 71)),
 ⟨none,none,.st true 1 (.t 72) (.t 70)⟩]
def F41_r12:List AIns:=[ii 73 (.bin .add (.t 58) (.c (.lit (.int .i64 1)))),
 ii 58 (.mv (.t 73))]
def F41_l1:AC:=.seq (.reg F41_r9 [] [15,56,57,58,59] []) (.seq (.cond (.t 59) (.skip) (.exit 0)) (.seq (.block 1 (.seq (.reg F41_r10 [] [15,17,56,57,58] []) (.reg F41_r11 [] [15,56,57,58] []))) (.reg F41_r12 [] [15,56,57,58] [])))
def F41_r13:List AIns:=[ii 74 (.mv (.t 15)),
 ii 10 (.mv (.t 74)),
 ii 11 (.mv (.c (.lit (.int .i64 0))))]
def F41_:AFun:=⟨5,.seq (.reg F41_r0 [] [1,2,3,4,5] [5]) (.seq (.seq (.reg F41_r1 [] [1,2,3,4,5,12] [5]) (.seq (.reg F41_r2 [] [1,2,3,4,5,12,21] [5]) (.cond (.t 21) (.seq (.reg F41_r3 [] [10,11] []) (.ret)) (.skip)))) (.seq (.reg F41_r4 [] [2,3,4,5,13,14] [5]) (.seq (.seq (.reg F41_r5 [] [2,3,4,5,13,48] [5]) (.cond (.t 48) (.seq (.reg F41_r6 [] [10,11] []) (.ret)) (.skip))) (.seq (.reg F41_r7 [] [4,15] []) (.seq (.seq (.reg F41_r8 [] [15,56,57,58] []) (.block 0 (.loop F41_l1))) (.seq (.reg F41_r13 [] [10,11] []) (.ret))))))),[.t 10,.t 11]⟩
def F69_r0:List AIns:=[ii 4 (.mv (.t 0)),
 ii 5 (.mv (.t 0)),
 ii 6 (.mv (.t 1)),
 ii 7 (.nck (.t 4)),
 ii 8 (.fa 9 (.t 7)),
 ii 9 (.fa 0 (.t 8)),
 ⟨none,none,.st true 1 (.t 9) (.t 6)⟩,
 ii 10 (.nck (.t 5)),
 ii 11 (.fa 13 (.t 10)),
 ⟨none,none,.st true 1 (.t 11) (.c (.lit (.bool true)))⟩]
def F69_:AFun:=⟨2,.reg F69_r0 [] [] [],[]⟩
def F70_r0:List AIns:=[ii 0 (.alloc true [.lit .nilFunc,.lit .nilFunc,.lit .nilFunc,.lit .nilFunc,.lit .nilFunc,.lit .nilFunc,.lit .nilFunc,.lit .nilFunc,.lit .nilFunc,.lit .nilFunc,.lit .nilFunc])]
def F70_r1:List AIns:=[ii 1 (.build [.lit .nilFunc,.lit .nilFunc,.lit .nilFunc,.lit .nilFunc,.lit .nilFunc,.lit .nilFunc,.lit .nilFunc,.lit .nilFunc,.lit .nilFunc,.lit .nilFunc,.lit .nilFunc] [(0,1,(.f N114_)),(1,1,(.f N115_)),(2,1,(.f N116_)),(3,1,(.f N117_)),(4,1,(.f N118_)),(5,1,(.f N119_)),(6,1,(.f N120_)),(7,1,(.f N121_)),(8,1,(.f N122_)),(9,1,(.f N123_)),(10,1,(.f N124_))]),
 ⟨none,none,.st false 11 (.t 0) (.t 1)⟩]
def F70_:AFun:=⟨0,.seq (.reg F70_r0 [] [0] [0]) (.seq (.reg F70_r1 [] [0] [0]) (.ret)),[.cell (some 11) 0]⟩
def F71_r0:List AIns:=[ii 5 (.mv (.t 0)),
 ii 6 (.nck (.t 5)),
 ii 7 (.fa 3 (.t 6)),
 ii 8 (.ld true none (.t 7)),
 ii 9 (.mv (.t 0)),
 ii 10 (.nck (.t 9)),
 ii 11 (.fa 4 (.t 10)),
 ii 12 (.ld true none (.t 11)),
 ii 13 (.call (.f N125_) [(.t 8),(.t 12)]),
 ii 4 (.mv (.t 13)),
 ii 14 (.ext (.t 4) 0),
 ii 15 (.ext (.t 4) 1),
 ii 2 (.mv (.t 14)),
 ii 3 (.mv (.t 15))]
def F71_r1:List AIns:=[ii 16 (.mv (.t 3)),
 ii 17 (.bin .eql (.t 16) (.c (.lit (.int .i64 0))))]
def F71_r2:List AIns:=[ii 18 (.mv (.t 0)),
 ii 19 (.mv (.t 2)),
 ii 20 (.nck (.t 18)),
 ii 21 (.fa 4 (.t 20)),
 ⟨none,none,.st true 1 (.t 21) (.t 19)⟩]
def F71_:AFun:=⟨1,.seq (.reg F71_r0 [] [0,2,3] []) (.seq (.reg F71_r1 [] [0,2,17] []) (.cond (.t 17) (.reg F71_r2 [] [] []) (.skip))),[]⟩
def F73_r0:List AIns:=[ii 2 (.mv (.c (.lit (.pointer none))))]
def F73_r1:List AIns:=[ii 3 (.mv (.t 0)),
 ii 4 (.peq false (.t 3) (.c (.lit (.pointer none))))]
def F73_r2:List AIns:=[ii 2 (.mv (.c (.lit (.pointer none))))]
def F73_r3:List AIns:=[ii 5 (.mv (.t 0)),
 ii 6 (.nck (.t 5)),
 ii 7 (.fa 0 (.t 6)),
 ii 8 (.ldo 0 none (.t 7)),
 ii 9 (.mv (.t 0)),
 ii 10 (.nck (.t 9)),
 ii 11 (.fa 1 (.t 10)),
 ii 12 (.fa 0 (.t 11)),
 ii 13 (.ld true none (.t 12)),
 ii 14 (.callq [0] (.f N72_) [(.t 13)]),
 ii 15 (.mv (.t 0)),
 ii 16 (.nck (.t 15)),
 ii 17 (.fa 1 (.t 16)),
 ii 18 (.fa 1 (.t 17)),
 ii 19 (.ldo 0 none (.t 18)),
 ii 20 (.callq [0] (.f N68_) [(.t 19)]),
 ii 21 (.mv (.t 0)),
 ii 22 (.nck (.t 21)),
 ii 23 (.fa 1 (.t 22)),
 ii 24 (.fa 2 (.t 23)),
 ii 25 (.ldo 0 none (.t 24)),
 ii 26 (.callq [0] (.f N68_) [(.t 25)]),
 ii 27 (.build [.slice .full 2 [],.slice .full 1 [],.slice .full 1 []] [(0,1,(.t 14)),(1,1,(.t 20)),(2,1,(.t 26))]),
 ii 28 (.build [.lit (.int .i64 0),.slice .full 2 [],.slice .full 1 [],.slice .full 1 []] [(0,1,(.t 8)),(1,3,(.t 27))]),
 ii 29 (.box false (.t 28)),
 ii 2 (.mv (.t 29))]
def F73_:AFun:=⟨1,.seq (.reg F73_r0 [] [0] []) (.seq (.seq (.reg F73_r1 [] [0,4] []) (.cond (.t 4) (.seq (.reg F73_r2 [] [2] []) (.ret)) (.skip))) (.seq (.reg F73_r3 [] [2] []) (.ret))),[.t 2]⟩
def F74_r0:List AIns:=[ii 0 (.alloc true [.lit (.int .i64 0),.slice .full 7 [],.slice .full 1 []])]
def F74_r1:List AIns:=[ii 1 (.build [.lit (.int .i64 0),.lit (.int .i64 0),.lit (.int .i64 0),.lit (.int .i64 0),.lit (.int .i64 0),.slice .full 1 [],.slice .full 1 []] [(0,1,(.c (.lit (.int .i64 0)))),(1,1,(.c (.lit (.int .i64 1)))),(4,1,(.c (.lit (.int .i64 1))))]),
 ii 2 (.build [.lit (.int .i64 0),.lit (.int .i64 0),.lit (.int .i64 0),.lit (.int .i64 0),.lit (.int .i64 0),.slice .full 1 [],.slice .full 1 []] [(0,1,(.c (.lit (.int .i64 2)))),(1,1,(.c (.lit (.int .i64 2)))),(3,1,(.c (.lit (.int .i64 1))))]),
 ii 3 (.build [.lit (.int .i64 0),.lit (.int .i64 0),.lit (.int .i64 0),.lit (.int .i64 0),.lit (.int .i64 0),.slice .full 1 [],.slice .full 1 []] [(0,1,(.c (.lit (.int .i64 10)))),(1,1,(.c (.lit (.int .i64 2))))]),
 ii 4 (.bsl 7 [(.t 1),(.t 2),(.t 3)]),
 ii 5 (.build [.lit (.int .i64 0),.slice .full 7 [],.slice .full 1 []] [(0,1,(.c (.lit (.int .i64 1)))),(1,1,(.t 4))]),
 ⟨none,none,.st false 3 (.t 0) (.t 5)⟩]
def F74_:AFun:=⟨0,.seq (.reg F74_r0 [] [0] [0]) (.seq (.reg F74_r1 [] [0] [0]) (.ret)),[.cell (some 3) 0]⟩
def F75_r0:List AIns:=[ii 0 (.alloc true [.lit (.int .i64 0),.slice .full 7 [],.slice .full 1 []])]
def F75_r1:List AIns:=[ii 1 (.build [.lit (.int .i64 0),.lit (.int .i64 0),.lit (.int .i64 0),.lit (.int .i64 0),.lit (.int .i64 0),.slice .full 1 [],.slice .full 1 []] [(0,1,(.c (.lit (.int .i64 3))))]),
 ii 2 (.bsl 1 [(.c (.lit (.int .i64 0)))]),
 ii 3 (.build [.lit (.int .i64 0),.lit (.int .i64 0),.lit (.int .i64 0),.lit (.int .i64 0),.lit (.int .i64 0),.slice .full 1 [],.slice .full 1 []] [(0,1,(.c (.lit (.int .i64 7)))),(5,1,(.t 2))]),
 ii 4 (.bsl 7 [(.t 1),(.t 3)]),
 ii 5 (.build [.lit (.int .i64 0),.slice .full 7 [],.slice .full 1 []] [(1,1,(.t 4))]),
 ⟨none,none,.st false 3 (.t 0) (.t 5)⟩]
def F75_:AFun:=⟨0,.seq (.reg F75_r0 [] [0] [0]) (.seq (.reg F75_r1 [] [0] [0]) (.ret)),[.cell (some 3) 0]⟩
def F81_r0:List AIns:=[ii 1 (.box true (.t 0)),
 ii 2 (.mv (.c (.lit (.int .i64 0))))]
def F81_r1:List AIns:=[ii 8 (.fa 1 (.t 1)),
 ii 9 (.ld false none (.t 8)),
 ii 10 (.len false (.t 9)),
 ii 3 (.mv (.t 10))]
def F81_r2:List AIns:=[ii 11 (.fa 0 (.t 1)),
 ii 12 (.ld false none (.t 11)),
 ii 13 (.bin .lss (.t 12) (.c (.lit (.int .i64 0)))),
 ii 14 (.mv (.t 13)),
 ⟨some 15,(some (14,false)),.fa 0 (.t 1)⟩,
 ⟨some 16,(some (14,false)),.ld false none (.t 15)⟩,
 ⟨some 17,(some (14,false)),.bin .gtr (.t 16) (.c (.lit (.int .i64 6)))⟩,
 ii 18 (.pick (.t 14) (.c (.lit (.bool true))) (.t 17)),
 ii 19 (.mv (.t 18)),
 ⟨some 20,(some (19,false)),.mv (.t 3)⟩,
 ⟨some 21,(some (19,false)),.bin .lss (.t 20) (.c (.lit (.int .i64 1)))⟩,
 ii 22 (.pick (.t 19) (.c (.lit (.bool true))) (.t 21)),
 ii 23 (.mv (.t 22)),
 ⟨some 24,(some (23,false)),.mv (.t 3)⟩,
 ⟨some 25,(some (23,false)),.bin .gtr (.t 24) (.c (.lit (.int .i64 100000)))⟩,
 ii 26 (.pick (.t 23) (.c (.lit (.bool true))) (.t 25)),
 ii 27 (.mv (.t 26)),
 ⟨some 28,(some (27,false)),.fa 2 (.t 1)⟩,
 ⟨some 29,(some (27,false)),.ld false none (.t 28)⟩,
 ⟨some 30,(some (27,false)),.len false (.t 29)⟩,
 ⟨some 31,(some (27,false)),.bin .gtr (.t 30) (.c (.lit (.int .i64 100000)))⟩,
 ii 32 (.pick (.t 27) (.c (.lit (.bool true))) (.t 31)),
 ii 33 (.mv (.t 32)),
 ⟨some 34,(some (33,false)),.fa 1 (.t 1)⟩,
 ⟨some 35,(some (33,false)),.ld false none (.t 34)⟩,
 ⟨some 36,(some (33,false)),.mv (.t 3)⟩,
 ⟨some 37,(some (33,false)),.bin .sub (.t 36) (.c (.lit (.int .i64 1)))⟩,
 ⟨some 38,(some (33,false)),.ia 7 (.t 35) (.t 37)⟩,
 ⟨some 39,(some (33,false)),.fa 0 (.t 38)⟩,
 ⟨some 40,(some (33,false)),.ld false none (.t 39)⟩,
 ⟨some 41,(some (33,false)),.call (.f N133_) [(.t 40)]⟩,
 ⟨some 42,(some (33,false)),.unot (.t 41)⟩,
 ii 43 (.pick (.t 33) (.c (.lit (.bool true))) (.t 42))]
def F81_r3:List AIns:=[ii 2 (.mv (.c (.lit (.int .i64 150))))]
def F81_r4:List AIns:=[ii 44 (.fa 2 (.t 1)),
 ii 45 (.ld false none (.t 44)),
 ii 46 (.len false (.t 45)),
 ii 47 (.mv (.c (.lit (.int .i64 0))))]
def F81_r5:List AIns:=[ii 48 (.bin .lss (.t 47) (.t 46))]
def F81_r6:List AIns:=[ii 49 (.ia 1 (.t 45) (.t 47)),
 ii 50 (.ld false none (.t 49)),
 ii 5 (.mv (.t 50))]
def F81_r7:List AIns:=[ii 51 (.mv (.t 5)),
 ii 52 (.bin .lss (.t 51) (.c (.lit (.int .i64 0)))),
 ii 53 (.mv (.t 52)),
 ⟨some 54,(some (53,false)),.mv (.t 5)⟩,
 ⟨some 55,(some (53,false)),.mv (.t 3)⟩,
 ⟨some 56,(some (53,false)),.bin .geq (.t 54) (.t 55)⟩,
 ii 57 (.pick (.t 53) (.c (.lit (.bool true))) (.t 56))]
def F81_r8:List AIns:=[ii 2 (.mv (.c (.lit (.int .i64 150))))]
def F81_r9:List AIns:=[ii 58 (.bin .add (.t 47) (.c (.lit (.int .i64 1)))),
 ii 47 (.mv (.t 58))]
def F81_l1:AC:=.seq (.reg F81_r5 [] [1,3,45,46,47,48] [1]) (.seq (.cond (.t 48) (.skip) (.exit 0)) (.seq (.block 1 (.seq (.reg F81_r6 [] [1,3,5,45,46,47] [1]) (.seq (.reg F81_r7 [] [1,3,45,46,47,57] [1]) (.cond (.t 57) (.seq (.reg F81_r8 [] [2] []) (.ret)) (.skip))))) (.reg F81_r9 [] [1,3,45,46,47] [1])))
def F81_r10:List AIns:=[ii 59 (.fa 1 (.t 1)),
 ii 60 (.ld false none (.t 59)),
 ii 61 (.len false (.t 60)),
 ii 62 (.mv (.c (.lit (.int .i64 0))))]
def F81_r11:List AIns:=[ii 63 (.bin .lss (.t 62) (.t 61))]
def F81_r12:List AIns:=[ii 64 (.ia 7 (.t 60) (.t 62)),
 ii 65 (.ld false (some 7) (.t 64)),
 ii 7 (.alloc true [.lit (.int .i64 0),.lit (.int .i64 0),.lit (.int .i64 0),.lit (.int .i64 0),.lit (.int .i64 0),.slice .full 1 [],.slice .full 1 []]),
 ⟨none,none,.st false 7 (.t 7) (.t 65)⟩]
def F81_r13:List AIns:=[ii 66 (.ld false (some 7) (.t 7)),
 ii 67 (.mv (.t 3)),
 ii 68 (.call (.f N134_) [(.t 66),(.t 67)]),
 ii 69 (.unot (.t 68))]
def F81_r14:List AIns:=[ii 2 (.mv (.c (.lit (.int .i64 150))))]
def F81_r15:List AIns:=[ii 70 (.bin .add (.t 62) (.c (.lit (.int .i64 1)))),
 ii 62 (.mv (.t 70))]
def F81_l2:AC:=.seq (.reg F81_r11 [] [3,60,61,62,63] []) (.seq (.cond (.t 63) (.skip) (.exit 2)) (.seq (.block 3 (.seq (.reg F81_r12 [] [3,7,60,61,62] [7]) (.seq (.reg F81_r13 [] [3,60,61,62,69] []) (.cond (.t 69) (.seq (.reg F81_r14 [] [2] []) (.ret)) (.skip))))) (.reg F81_r15 [] [3,60,61,62] [])))
def F81_r16:List AIns:=[ii 2 (.mv (.c (.lit (.int .i64 0))))]
def F81_:AFun:=⟨1,.seq (.reg F81_r0 [] [1] [1]) (.seq (.reg F81_r1 [] [1,3] [1]) (.seq (.seq (.reg F81_r2 [] [1,3,43] [1]) (.cond (.t 43) (.seq (.reg F81_r3 [] [2] []) (.ret)) (.skip))) (.seq (.seq (.reg F81_r4 [] [1,3,45,46,47] [1]) (.block 0 (.loop F81_l1))) (.seq (.seq (.reg F81_r10 [] [3,60,61,62] []) (.block 2 (.loop F81_l2))) (.seq (.reg F81_r16 [] [2] []) (.ret)))))),[.t 2]⟩
def F82_r0:List AIns:=[ii 2 (.mv (.c (.lit (.pointer none)))),
 ii 3 (.mv (.c (.lit (.int .i64 0))))]
def F82_r1:List AIns:=[ii 4 (.mv (.t 0)),
 ii 5 (.bin .lss (.t 4) (.c (.lit (.int .i64 0)))),
 ii 6 (.mv (.t 5)),
 ⟨some 7,(some (6,false)),.mv (.t 0)⟩,
 ⟨some 8,(some (6,false)),.bin .gtr (.t 7) (.c (.lit (.int .i64 1048576)))⟩,
 ii 9 (.pick (.t 6) (.c (.lit (.bool true))) (.t 8))]
def F82_r2:List AIns:=[ii 2 (.mv (.c (.lit (.pointer none)))),
 ii 3 (.mv (.c (.lit (.int .i64 1))))]
def F82_r3:List AIns:=[ii 10 (.mv (.t 0)),
 ii 11 (.build [.lit (.int .i64 0),.slice .full 2 [],.slice .full 1 [],.slice .full 1 []] [(0,1,(.t 10))]),
 ii 12 (.box false (.t 11)),
 ii 2 (.mv (.t 12)),
 ii 3 (.mv (.c (.lit (.int .i64 0))))]
def F82_:AFun:=⟨1,.seq (.reg F82_r0 [] [0] []) (.seq (.seq (.reg F82_r1 [] [0,9] []) (.cond (.t 9) (.seq (.reg F82_r2 [] [2,3] []) (.ret)) (.skip))) (.seq (.reg F82_r3 [] [2,3] []) (.ret))),[.t 2,.t 3]⟩
def F83_r0:List AIns:=[ii 1 (.box true (.t 0)),
 ii 2 (.alloc true [.lit (.int .i64 0),.slice .full 7 [],.slice .full 1 []])]
def F83_r1:List AIns:=[ii 6 (.fa 0 (.t 1)),
 ii 7 (.ld false none (.t 6)),
 ii 8 (.fa 2 (.t 1)),
 ii 9 (.ld false none (.t 8)),
 ii 10 (.call (.f N68_) [(.t 9)]),
 ii 11 (.build [.lit (.int .i64 0),.slice .full 7 [],.slice .full 1 []] [(0,1,(.t 7)),(2,1,(.t 10))]),
 ii 3 (.alloc true [.lit (.int .i64 0),.slice .full 7 [],.slice .full 1 []]),
 ⟨none,none,.st false 3 (.t 3) (.t 11)⟩]
def F83_r2:List AIns:=[ii 12 (.fa 1 (.t 1)),
 ii 13 (.ld false none (.t 12)),
 ii 14 (.len false (.t 13)),
 ii 15 (.mv (.c (.lit (.int .i64 0))))]
def F83_r3:List AIns:=[ii 16 (.bin .lss (.t 15) (.t 14))]
def F83_r4:List AIns:=[ii 17 (.ia 7 (.t 13) (.t 15)),
 ii 18 (.ld true (some 7) (.t 17)),
 ii 5 (.alloc true [.lit (.int .i64 0),.lit (.int .i64 0),.lit (.int .i64 0),.lit (.int .i64 0),.lit (.int .i64 0),.slice .full 1 [],.slice .full 1 []]),
 ⟨none,none,.st false 7 (.t 5) (.t 18)⟩]
def F83_r5:List AIns:=[ii 19 (.fa 5 (.t 5)),
 ii 20 (.ld false none (.t 19)),
 ii 21 (.call (.f N68_) [(.t 20)]),
 ii 22 (.fa 6 (.t 5)),
 ii 23 (.ld false none (.t 22)),
 ii 24 (.call (.f N68_) [(.t 23)]),
 ii 25 (.fa 5 (.t 5)),
 ⟨none,none,.st false 1 (.t 25) (.t 21)⟩,
 ii 26 (.fa 6 (.t 5)),
 ⟨none,none,.st false 1 (.t 26) (.t 24)⟩]
def F83_r6:List AIns:=[ii 27 (.fa 1 (.t 3)),
 ii 28 (.ld false none (.t 27)),
 ii 29 (.ld false (some 7) (.t 5)),
 ii 30 (.bsl 7 [(.t 29)]),
 ii 31 (.app 7 88 (.t 28) (.t 30)),
 ii 32 (.fa 1 (.t 3)),
 ⟨none,none,.st false 1 (.t 32) (.t 31)⟩]
def F83_r7:List AIns:=[ii 33 (.bin .add (.t 15) (.c (.lit (.int .i64 1)))),
 ii 15 (.mv (.t 33))]
def F83_l1:AC:=.seq (.reg F83_r3 [] [2,3,13,14,15,16] [2,3]) (.seq (.cond (.t 16) (.skip) (.exit 0)) (.seq (.block 1 (.seq (.reg F83_r4 [] [2,3,5,13,14,15] [2,3,5]) (.seq (.reg F83_r5 [] [2,3,5,13,14,15] [2,3,5]) (.reg F83_r6 [] [2,3,13,14,15] [2,3])))) (.reg F83_r7 [] [2,3,13,14,15] [2,3])))
def F83_r8:List AIns:=[ii 34 (.ld false (some 3) (.t 3)),
 ⟨none,none,.st false 3 (.t 2) (.t 34)⟩]
def F83_:AFun:=⟨1,.seq (.reg F83_r0 [] [1,2] [1,2]) (.seq (.reg F83_r1 [3] [1,2,3] [1,2,3]) (.seq (.seq (.reg F83_r2 [] [2,3,13,14,15] [2,3]) (.block 0 (.loop F83_l1))) (.seq (.reg F83_r8 [] [2] [2]) (.ret)))),[.cell (some 3) 2]⟩
def F84_r0:List AIns:=[ii 2 (.box false (.t 0)),
 ii 4 (.mv (.c (.lit (.bool false))))]
def F84_r1:List AIns:=[ii 5 (.mv (.t 1)),
 ii 6 (.mkf N136_ [] [(.t 2)]),
 ii 7 (.call (.f N135_) [(.t 5),(.t 6)]),
 ii 8 (.unot (.t 7)),
 ii 4 (.mv (.t 8))]
def F84_:AFun:=⟨2,.seq (.reg F84_r0 [] [1,2] []) (.seq (.reg F84_r1 [] [4] []) (.ret)),[.t 4]⟩
def F86_r0:List AIns:=[ii 4 (.mv (.c (.lit (.int .i64 0))))]
def F86_r1:List AIns:=[ii 5 (.mv (.t 0)),
 ii 6 (.nck (.t 5)),
 ii 7 (.fa 0 (.t 6)),
 ii 8 (.ld true none (.t 7)),
 ii 9 (.mv (.t 1)),
 ii 10 (.ia 2 (.t 8) (.t 9)),
 ii 11 (.fa 1 (.t 10)),
 ii 12 (.ld true none (.t 11)),
 ii 4 (.mv (.t 12))]
def F86_:AFun:=⟨2,.seq (.reg F86_r0 [] [0,1] []) (.seq (.reg F86_r1 [] [4] []) (.ret)),[.t 4]⟩
def F87_r0:List AIns:=[ii 4 (.mv (.c (.slice .full 2 [])))]
def F87_r1:List AIns:=[ii 6 (.mv (.t 1)),
 ii 7 (.mv (.t 0)),
 ii 8 (.nck (.t 7)),
 ii 9 (.fa 1 (.t 8)),
 ii 10 (.ld true none (.t 9)),
 ii 11 (.mv (.t 1)),
 ii 12 (.ia 1 (.t 10) (.t 11)),
 ii 13 (.ld true none (.t 12)),
 ii 14 (.bin .add (.t 6) (.t 13)),
 ii 5 (.mv (.t 14))]
def F87_r2:List AIns:=[ii 15 (.mv (.t 0)),
 ii 16 (.nck (.t 15)),
 ii 17 (.fa 0 (.t 16)),
 ii 18 (.ld true none (.t 17)),
 ii 19 (.mv (.t 1)),
 ii 20 (.bin .add (.t 19) (.c (.lit (.int .i64 1)))),
 ii 21 (.mv (.t 5)),
 ii 22 (.mv (.t 5)),
 ii 23 (.sl 2 (.t 18) (some (.t 20)) (some (.t 21)) (some (.t 22))),
 ii 4 (.mv (.t 23))]
def F87_:AFun:=⟨2,.seq (.reg F87_r0 [] [0,1] []) (.seq (.reg F87_r1 [] [0,1,5] []) (.seq (.reg F87_r2 [] [4] []) (.ret))),[.t 4]⟩
def F114_r0:List AIns:=[ii 3 (.box true (.t 1)),
 ii 4 (.mv (.c (.lit (.int .i64 0))))]
def F114_r1:List AIns:=[ii 5 (.mv (.t 0)),
 ii 6 (.fa 1 (.t 3)),
 ii 7 (.ld false none (.t 6)),
 ii 8 (.fa 4 (.t 3)),
 ii 9 (.ld false none (.t 8)),
 ii 10 (.build [.lit (.bool false),.lit (.int .i64 0)] [(1,1,(.t 9))]),
 ii 11 (.call (.f N162_) [(.t 5),(.t 7),(.t 10)])]
def F114_r2:List AIns:=[ii 12 (.mv (.t 0)),
 ii 13 (.nck (.t 12)),
 ii 14 (.fa 5 (.t 13)),
 ii 15 (.ld true none (.t 14)),
 ii 16 (.bin .add (.t 15) (.c (.lit (.int .i64 1)))),
 ii 17 (.nck (.t 12)),
 ii 18 (.fa 5 (.t 17)),
 ⟨none,none,.st true 1 (.t 18) (.t 16)⟩]
def F114_r3:List AIns:=[ii 4 (.mv (.c (.lit (.int .i64 0))))]
def F114_:AFun:=⟨2,.seq (.reg F114_r0 [] [0,3] [3]) (.seq (.reg F114_r1 [] [0] []) (.seq (.reg F114_r2 [] [] []) (.seq (.reg F114_r3 [] [4] []) (.ret)))),[.t 4]⟩
def F115_r0:List AIns:=[ii 3 (.box true (.t 1)),
 ii 4 (.mv (.c (.lit (.int .i64 0))))]
def F115_r1:List AIns:=[ii 5 (.mv (.t 0)),
 ii 6 (.fa 1 (.t 3)),
 ii 7 (.ld false none (.t 6)),
 ii 8 (.mv (.t 0)),
 ii 9 (.fa 2 (.t 3)),
 ii 10 (.ld false none (.t 9)),
 ii 11 (.call (.f N163_) [(.t 8),(.t 10)]),
 ii 12 (.call (.f N162_) [(.t 5),(.t 7),(.t 11)])]
def F115_r2:List AIns:=[ii 13 (.mv (.t 0)),
 ii 14 (.nck (.t 13)),
 ii 15 (.fa 5 (.t 14)),
 ii 16 (.ld true none (.t 15)),
 ii 17 (.bin .add (.t 16) (.c (.lit (.int .i64 1)))),
 ii 18 (.nck (.t 13)),
 ii 19 (.fa 5 (.t 18)),
 ⟨none,none,.st true 1 (.t 19) (.t 17)⟩]
def F115_r3:List AIns:=[ii 4 (.mv (.c (.lit (.int .i64 0))))]
def F115_:AFun:=⟨2,.seq (.reg F115_r0 [] [0,3] [3]) (.seq (.reg F115_r1 [] [0] []) (.seq (.reg F115_r2 [] [] []) (.seq (.reg F115_r3 [] [4] []) (.ret)))),[.t 4]⟩
def F116_r0:List AIns:=[ii 3 (.box true (.t 1)),
 ii 4 (.mv (.c (.lit (.int .i64 0))))]
def F116_r1:List AIns:=[ii 7 (.mv (.t 0)),
 ii 8 (.fa 2 (.t 3)),
 ii 9 (.ld false none (.t 8)),
 ii 10 (.call (.f N163_) [(.t 7),(.t 9)]),
 ii 11 (.mv (.t 0)),
 ii 12 (.fa 3 (.t 3)),
 ii 13 (.ld false none (.t 12)),
 ii 14 (.call (.f N163_) [(.t 11),(.t 13)]),
 ii 5 (.alloc true [.lit (.bool false),.lit (.int .i64 0)]),
 ii 6 (.alloc true [.lit (.bool false),.lit (.int .i64 0)]),
 ⟨none,none,.st false 2 (.t 5) (.t 10)⟩,
 ⟨none,none,.st false 2 (.t 6) (.t 14)⟩]
def F116_r2:List AIns:=[ii 15 (.fa 0 (.t 5)),
 ii 16 (.ld false none (.t 15)),
 ii 17 (.mv (.t 16)),
 ⟨some 18,(some (17,false)),.fa 0 (.t 6)⟩,
 ⟨some 19,(some (17,false)),.ld false none (.t 18)⟩,
 ii 20 (.pick (.t 17) (.c (.lit (.bool true))) (.t 19))]
def F116_r3:List AIns:=[ii 4 (.mv (.c (.lit (.int .i64 1))))]
def F116_r4:List AIns:=[ii 21 (.mv (.t 0)),
 ii 22 (.fa 1 (.t 3)),
 ii 23 (.ld false none (.t 22)),
 ii 24 (.fa 4 (.t 3)),
 ii 25 (.ld false none (.t 24)),
 ii 26 (.fa 1 (.t 5)),
 ii 27 (.ld false none (.t 26)),
 ii 28 (.fa 1 (.t 6)),
 ii 29 (.ld false none (.t 28)),
 ii 30 (.call (.f N164_) [(.t 25),(.t 27),(.t 29)]),
 ii 31 (.build [.lit (.bool false),.lit (.int .i64 0)] [(1,1,(.t 30))]),
 ii 32 (.call (.f N162_) [(.t 21),(.t 23),(.t 31)])]
def F116_r5:List AIns:=[ii 33 (.mv (.t 0)),
 ii 34 (.nck (.t 33)),
 ii 35 (.fa 5 (.t 34)),
 ii 36 (.ld true none (.t 35)),
 ii 37 (.bin .add (.t 36) (.c (.lit (.int .i64 1)))),
 ii 38 (.nck (.t 33)),
 ii 39 (.fa 5 (.t 38)),
 ⟨none,none,.st true 1 (.t 39) (.t 37)⟩]
def F116_r6:List AIns:=[ii 4 (.mv (.c (.lit (.int .i64 0))))]
def F116_:AFun:=⟨2,.seq (.reg F116_r0 [] [0,3] [3]) (.seq (.reg F116_r1 [5,6] [0,3,5,6] [3,5,6]) (.seq (.seq (.reg F116_r2 [] [0,3,5,6,20] [3,5,6]) (.cond (.t 20) (.seq (.reg F116_r3 [] [4] []) (.ret)) (.skip))) (.seq (.reg F116_r4 [] [0] []) (.seq (.reg F116_r5 [] [] []) (.seq (.reg F116_r6 [] [4] []) (.ret)))))),[.t 4]⟩
def F117_r0:List AIns:=[ii 3 (.box true (.t 1)),
 ii 4 (.mv (.c (.lit (.int .i64 0))))]
def F117_r1:List AIns:=[ii 7 (.mv (.t 0)),
 ii 8 (.nck (.t 7)),
 ii 9 (.fa 6 (.t 8)),
 ii 10 (.ld true none (.t 9)),
 ii 11 (.bin .gtr (.t 10) (.c (.lit (.int .i64 0)))),
 ii 12 (.mv (.t 11)),
 ⟨some 13,(some (12,true)),.mv (.t 0)⟩,
 ⟨some 14,(some (12,true)),.nck (.t 13)⟩,
 ⟨some 15,(some (12,true)),.fa 7 (.t 14)⟩,
 ⟨some 16,(some (12,true)),.ld true none (.t 15)⟩,
 ⟨some 17,(some (12,true)),.mv (.t 0)⟩,
 ⟨some 18,(some (12,true)),.nck (.t 17)⟩,
 ⟨some 19,(some (12,true)),.fa 6 (.t 18)⟩,
 ⟨some 20,(some (12,true)),.ld true none (.t 19)⟩,
 ⟨some 21,(some (12,true)),.bin .rem (.t 16) (.t 20)⟩,
 ⟨some 22,(some (12,true)),.bin .eql (.t 21) (.c (.lit (.int .i64 0)))⟩,
 ii 23 (.pick (.t 12) (.t 22) (.c (.lit (.bool false))))]
def F117_r2:List AIns:=[ii 24 (.mv (.t 0)),
 ii 25 (.call (.f N71_) [(.t 24)])]
def F117_r3:List AIns:=[ii 27 (.mv (.t 0)),
 ii 28 (.nck (.t 27)),
 ii 29 (.fa 3 (.t 28)),
 ii 30 (.ldo 0 none (.t 29)),
 ii 31 (.fa 4 (.t 3)),
 ii 32 (.ld false none (.t 31)),
 ii 33 (.mv (.t 0)),
 ii 34 (.fa 5 (.t 3)),
 ii 35 (.ld false none (.t 34)),
 ii 36 (.callq [0] (.f N166_) [(.t 33),(.t 35)]),
 ii 37 (.call (.f N165_) [(.t 30),(.t 32),(.t 36)]),
 ii 26 (.mv (.t 37)),
 ii 38 (.ext (.t 26) 0),
 ii 39 (.ext (.t 26) 1),
 ii 5 (.mv (.t 38)),
 ii 6 (.mv (.t 39))]
def F117_r4:List AIns:=[ii 40 (.mv (.t 6)),
 ii 41 (.bin .eql (.t 40) (.c (.lit (.int .i64 170))))]
def F117_r5:List AIns:=[ii 42 (.mv (.t 0)),
 ii 43 (.call (.f N71_) [(.t 42)])]
def F117_r6:List AIns:=[ii 45 (.mv (.t 0)),
 ii 46 (.nck (.t 45)),
 ii 47 (.fa 3 (.t 46)),
 ii 48 (.ldo 0 none (.t 47)),
 ii 49 (.fa 4 (.t 3)),
 ii 50 (.ld false none (.t 49)),
 ii 51 (.mv (.t 0)),
 ii 52 (.fa 5 (.t 3)),
 ii 53 (.ld false none (.t 52)),
 ii 54 (.callq [0] (.f N166_) [(.t 51),(.t 53)]),
 ii 55 (.call (.f N165_) [(.t 48),(.t 50),(.t 54)]),
 ii 44 (.mv (.t 55)),
 ii 56 (.ext (.t 44) 0),
 ii 57 (.ext (.t 44) 1),
 ii 5 (.mv (.t 56)),
 ii 6 (.mv (.t 57))]
def F117_r7:List AIns:=[ii 58 (.mv (.t 6)),
 ii 59 (.bin .neq (.t 58) (.c (.lit (.int .i64 0))))]
def F117_r8:List AIns:=[ii 4 (.mv (.c (.lit (.int .i64 2))))]
def F117_r9:List AIns:=[ii 60 (.mv (.t 0)),
 ii 61 (.nck (.t 60)),
 ii 62 (.fa 7 (.t 61)),
 ii 63 (.ld true none (.t 62)),
 ii 64 (.bin .add (.t 63) (.c (.lit (.int .i64 1)))),
 ii 65 (.nck (.t 60)),
 ii 66 (.fa 7 (.t 65)),
 ⟨none,none,.st true 1 (.t 66) (.t 64)⟩]
def F117_r10:List AIns:=[ii 67 (.mv (.t 0)),
 ii 68 (.fa 1 (.t 3)),
 ii 69 (.ld false none (.t 68)),
 ii 70 (.mv (.t 5)),
 ii 71 (.build [.lit (.bool false),.lit (.int .i64 0)] [(0,1,(.c (.lit (.bool true)))),(1,1,(.t 70))]),
 ii 72 (.call (.f N162_) [(.t 67),(.t 69),(.t 71)])]
def F117_r11:List AIns:=[ii 73 (.mv (.t 0)),
 ii 74 (.nck (.t 73)),
 ii 75 (.fa 5 (.t 74)),
 ii 76 (.ld true none (.t 75)),
 ii 77 (.bin .add (.t 76) (.c (.lit (.int .i64 1)))),
 ii 78 (.nck (.t 73)),
 ii 79 (.fa 5 (.t 78)),
 ⟨none,none,.st true 1 (.t 79) (.t 77)⟩]
def F117_r12:List AIns:=[ii 4 (.mv (.c (.lit (.int .i64 0))))]
def F117_:AFun:=⟨2,.seq (.reg F117_r0 [] [0,3] [3]) (.seq (.seq (.reg F117_r1 [] [0,3,23] [3]) (.cond (.t 23) (.reg F117_r2 [] [0,3] [3]) (.skip))) (.seq (.reg F117_r3 [] [0,3,5,6] [3]) (.seq (.seq (.reg F117_r4 [] [0,3,5,6,41] [3]) (.cond (.t 41) (.seq (.reg F117_r5 [] [0,3] [3]) (.reg F117_r6 [] [0,3,5,6] [3])) (.skip))) (.seq (.seq (.reg F117_r7 [] [0,3,5,59] [3]) (.cond (.t 59) (.seq (.reg F117_r8 [] [4] []) (.ret)) (.skip))) (.seq (.reg F117_r9 [] [0,3,5] [3]) (.seq (.reg F117_r10 [] [0] []) (.seq (.reg F117_r11 [] [] []) (.seq (.reg F117_r12 [] [4] []) (.ret))))))))),[.t 4]⟩
def F118_r0:List AIns:=[ii 3 (.box true (.t 1)),
 ii 4 (.mv (.c (.lit (.int .i64 0))))]
def F118_r1:List AIns:=[ii 8 (.mv (.t 0)),
 ii 9 (.fa 2 (.t 3)),
 ii 10 (.ld false none (.t 9)),
 ii 11 (.call (.f N163_) [(.t 8),(.t 10)]),
 ii 5 (.alloc true [.lit (.bool false),.lit (.int .i64 0)]),
 ⟨none,none,.st false 2 (.t 5) (.t 11)⟩]
def F118_r2:List AIns:=[ii 12 (.fa 0 (.t 5)),
 ii 13 (.ld false none (.t 12)),
 ii 14 (.unot (.t 13))]
def F118_r3:List AIns:=[ii 4 (.mv (.c (.lit (.int .i64 1))))]
def F118_r4:List AIns:=[ii 16 (.mv (.t 0)),
 ii 17 (.nck (.t 16)),
 ii 18 (.fa 3 (.t 17)),
 ii 19 (.ld true none (.t 18)),
 ii 20 (.fa 1 (.t 5)),
 ii 21 (.ld false none (.t 20)),
 ii 22 (.fa 4 (.t 3)),
 ii 23 (.ld false none (.t 22)),
 ii 24 (.call (.f N167_) [(.t 19),(.t 21),(.t 23)]),
 ii 15 (.mv (.t 24)),
 ii 25 (.ext (.t 15) 0),
 ii 26 (.ext (.t 15) 1),
 ii 6 (.alloc true [.lit (.bool false),.lit (.int .i64 0)]),
 ⟨none,none,.st false 2 (.t 6) (.t 25)⟩,
 ii 7 (.mv (.t 26))]
def F118_r5:List AIns:=[ii 27 (.mv (.t 7)),
 ii 28 (.bin .neq (.t 27) (.c (.lit (.int .i64 0))))]
def F118_r6:List AIns:=[ii 4 (.mv (.c (.lit (.int .i64 1))))]
def F118_r7:List AIns:=[ii 29 (.mv (.t 0)),
 ii 30 (.fa 1 (.t 3)),
 ii 31 (.ld false none (.t 30)),
 ii 32 (.ld false (some 2) (.t 6)),
 ii 33 (.call (.f N162_) [(.t 29),(.t 31),(.t 32)])]
def F118_r8:List AIns:=[ii 34 (.mv (.t 0)),
 ii 35 (.nck (.t 34)),
 ii 36 (.fa 5 (.t 35)),
 ii 37 (.ld true none (.t 36)),
 ii 38 (.bin .add (.t 37) (.c (.lit (.int .i64 1)))),
 ii 39 (.nck (.t 34)),
 ii 40 (.fa 5 (.t 39)),
 ⟨none,none,.st true 1 (.t 40) (.t 38)⟩]
def F118_r9:List AIns:=[ii 4 (.mv (.c (.lit (.int .i64 0))))]
def F118_:AFun:=⟨2,.seq (.reg F118_r0 [] [0,3] [3]) (.seq (.reg F118_r1 [] [0,3,5] [3,5]) (.seq (.seq (.reg F118_r2 [] [0,3,5,14] [3,5]) (.cond (.t 14) (.seq (.reg F118_r3 [] [4] []) (.ret)) (.skip))) (.seq (.reg F118_r4 [6] [0,3,6,7] [3,6]) (.seq (.seq (.reg F118_r5 [] [0,3,6,28] [3,6]) (.cond (.t 28) (.seq (.reg F118_r6 [] [4] []) (.ret)) (.skip))) (.seq (.reg F118_r7 [] [0] []) (.seq (.reg F118_r8 [] [] []) (.seq (.reg F118_r9 [] [4] []) (.ret)))))))),[.t 4]⟩
def F119_r0:List AIns:=[ii 3 (.box true (.t 1)),
 ii 4 (.mv (.c (.lit (.int .i64 0))))]
def F119_r1:List AIns:=[ii 6 (.mv (.t 0)),
 ii 7 (.fa 1 (.t 3)),
 ii 8 (.ld false none (.t 7)),
 ii 9 (.call (.f N163_) [(.t 6),(.t 8)]),
 ii 5 (.alloc true [.lit (.bool false),.lit (.int .i64 0)]),
 ⟨none,none,.st false 2 (.t 5) (.t 9)⟩]
def F119_r3:List AIns:=[ii 18 (.fa 0 (.t 5)),
 ii 19 (.ld false none (.t 18)),
 ii 17 (.mv (.t 19))]
def F119_r4:List AIns:=[ii 4 (.mv (.c (.lit (.int .i64 1))))]
def F119_r5:List AIns:=[ii 21 (.fa 1 (.t 5)),
 ii 22 (.ld false none (.t 21)),
 ii 23 (.bin .eql (.t 22) (.c (.lit (.int .i64 0)))),
 ii 20 (.mv (.t 23))]
def F119_r6:List AIns:=[ii 24 (.mv (.t 0)),
 ii 25 (.fa 4 (.t 3)),
 ii 26 (.ld false none (.t 25)),
 ii 27 (.nck (.t 24)),
 ii 28 (.fa 5 (.t 27)),
 ⟨none,none,.st true 1 (.t 28) (.t 26)⟩]
def F119_r2:List AIns:=[ii 10 (.mv (.t 0)),
 ii 11 (.nck (.t 10)),
 ii 12 (.fa 5 (.t 11)),
 ii 13 (.ld true none (.t 12)),
 ii 14 (.bin .add (.t 13) (.c (.lit (.int .i64 1)))),
 ii 15 (.nck (.t 10)),
 ii 16 (.fa 5 (.t 15)),
 ⟨none,none,.st true 1 (.t 16) (.t 14)⟩]
def F119_r7:List AIns:=[ii 4 (.mv (.c (.lit (.int .i64 0))))]
def F119_:AFun:=⟨2,.seq (.reg F119_r0 [] [0,3] [3]) (.seq (.reg F119_r1 [] [0,3,5] [3,5]) (.seq (.block 0 (.seq (.reg F119_r3 [] [0,3,5,17] [3,5]) (.cond (.t 17) (.seq (.reg F119_r4 [] [4] []) (.ret)) (.seq (.reg F119_r5 [] [0,3,20] [3]) (.cond (.t 20) (.reg F119_r6 [] [] []) (.reg F119_r2 [] [] [])))))) (.seq (.reg F119_r7 [] [4] []) (.ret)))),[.t 4]⟩
def F120_r0:List AIns:=[ii 3 (.box true (.t 1)),
 ii 4 (.mv (.c (.lit (.int .i64 0))))]
def F120_r1:List AIns:=[ii 6 (.mv (.t 0)),
 ii 7 (.fa 1 (.t 3)),
 ii 8 (.ld false none (.t 7)),
 ii 9 (.call (.f N168_) [(.t 6),(.t 8)]),
 ii 5 (.mv (.t 9))]
def F120_r2:List AIns:=[ii 10 (.mv (.t 5)),
 ii 11 (.bin .lss (.t 10) (.c (.lit (.int .i64 0)))),
 ii 12 (.mv (.t 11)),
 ⟨some 13,(some (12,false)),.mv (.t 5)⟩,
 ⟨some 14,(some (12,false)),.fa 6 (.t 3)⟩,
 ⟨some 15,(some (12,false)),.ld false none (.t 14)⟩,
 ⟨some 16,(some (12,false)),.len false (.t 15)⟩,
 ⟨some 17,(some (12,false)),.bin .geq (.t 13) (.t 16)⟩,
 ii 18 (.pick (.t 12) (.c (.lit (.bool true))) (.t 17))]
def F120_r3:List AIns:=[ii 4 (.mv (.c (.lit (.int .i64 1))))]
def F120_r4:List AIns:=[ii 19 (.mv (.t 0)),
 ii 20 (.fa 6 (.t 3)),
 ii 21 (.ld false none (.t 20)),
 ii 22 (.mv (.t 5)),
 ii 23 (.ia 1 (.t 21) (.t 22)),
 ii 24 (.ld true none (.t 23)),
 ii 25 (.nck (.t 19)),
 ii 26 (.fa 5 (.t 25)),
 ⟨none,none,.st true 1 (.t 26) (.t 24)⟩]
def F120_r5:List AIns:=[ii 4 (.mv (.c (.lit (.int .i64 0))))]
def F120_:AFun:=⟨2,.seq (.reg F120_r0 [] [0,3] [3]) (.seq (.reg F120_r1 [] [0,3,5] [3]) (.seq (.seq (.reg F120_r2 [] [0,3,5,18] [3]) (.cond (.t 18) (.seq (.reg F120_r3 [] [4] []) (.ret)) (.skip))) (.seq (.reg F120_r4 [] [] []) (.seq (.reg F120_r5 [] [4] []) (.ret))))),[.t 4]⟩
def F121_r0:List AIns:=[ii 3 (.box true (.t 1)),
 ii 4 (.mv (.c (.lit (.int .i64 0))))]
def F121_r1:List AIns:=[ii 5 (.mv (.t 0)),
 ii 6 (.mv (.t 0)),
 ii 7 (.fa 5 (.t 3)),
 ii 8 (.ld false none (.t 7)),
 ii 9 (.call (.f N166_) [(.t 6),(.t 8)]),
 ii 10 (.nck (.t 5)),
 ii 11 (.fa 4 (.t 10)),
 ⟨none,none,.st true 1 (.t 11) (.t 9)⟩]
def F121_r2:List AIns:=[ii 12 (.mv (.t 0)),
 ii 13 (.fa 4 (.t 3)),
 ii 14 (.ld false none (.t 13)),
 ii 15 (.nck (.t 12)),
 ii 16 (.fa 5 (.t 15)),
 ⟨none,none,.st true 1 (.t 16) (.t 14)⟩]
def F121_r3:List AIns:=[ii 4 (.mv (.c (.lit (.int .i64 0))))]
def F121_:AFun:=⟨2,.seq (.reg F121_r0 [] [0,3] [3]) (.seq (.reg F121_r1 [] [0,3] [3]) (.seq (.reg F121_r2 [] [] []) (.seq (.reg F121_r3 [] [4] []) (.ret)))),[.t 4]⟩
def F122_r0:List AIns:=[ii 3 (.box true (.t 1)),
 ii 4 (.mv (.c (.lit (.int .i64 0))))]
def F122_r1:List AIns:=[ii 6 (.mv (.t 0)),
 ii 7 (.fa 1 (.t 3)),
 ii 8 (.ld false none (.t 7)),
 ii 9 (.call (.f N168_) [(.t 6),(.t 8)]),
 ii 5 (.mv (.t 9))]
def F122_r2:List AIns:=[ii 10 (.mv (.t 5)),
 ii 11 (.bin .lss (.t 10) (.c (.lit (.int .i64 0)))),
 ii 12 (.mv (.t 11)),
 ⟨some 13,(some (12,false)),.mv (.t 5)⟩,
 ⟨some 14,(some (12,false)),.mv (.t 0)⟩,
 ⟨some 15,(some (12,false)),.nck (.t 14)⟩,
 ⟨some 16,(some (12,false)),.fa 0 (.t 15)⟩,
 ⟨some 17,(some (12,false)),.fa 2 (.t 16)⟩,
 ⟨some 18,(some (12,false)),.ld true none (.t 17)⟩,
 ⟨some 19,(some (12,false)),.len false (.t 18)⟩,
 ⟨some 20,(some (12,false)),.bin .geq (.t 13) (.t 19)⟩,
 ii 21 (.pick (.t 12) (.c (.lit (.bool true))) (.t 20))]
def F122_r3:List AIns:=[ii 4 (.mv (.c (.lit (.int .i64 1))))]
def F122_r4:List AIns:=[ii 22 (.mv (.t 0)),
 ii 23 (.mv (.t 0)),
 ii 24 (.fa 5 (.t 3)),
 ii 25 (.ld false none (.t 24)),
 ii 26 (.call (.f N166_) [(.t 23),(.t 25)]),
 ii 27 (.mv (.t 0)),
 ii 28 (.fa 1 (.t 3)),
 ii 29 (.ld false none (.t 28)),
 ii 30 (.call (.f N163_) [(.t 27),(.t 29)]),
 ii 31 (.bsl 2 [(.t 30)]),
 ii 32 (.call (.f N169_) [(.t 26),(.c (.lit (.int .i64 0))),(.t 31)]),
 ii 33 (.nck (.t 22)),
 ii 34 (.fa 4 (.t 33)),
 ⟨none,none,.st true 1 (.t 34) (.t 32)⟩]
def F122_r5:List AIns:=[ii 35 (.mv (.t 0)),
 ii 36 (.mv (.t 0)),
 ii 37 (.nck (.t 36)),
 ii 38 (.fa 0 (.t 37)),
 ii 39 (.fa 2 (.t 38)),
 ii 40 (.ld true none (.t 39)),
 ii 41 (.mv (.t 5)),
 ii 42 (.ia 1 (.t 40) (.t 41)),
 ii 43 (.ld true none (.t 42)),
 ii 44 (.nck (.t 35)),
 ii 45 (.fa 5 (.t 44)),
 ⟨none,none,.st true 1 (.t 45) (.t 43)⟩]
def F122_r6:List AIns:=[ii 4 (.mv (.c (.lit (.int .i64 0))))]
def F122_:AFun:=⟨2,.seq (.reg F122_r0 [] [0,3] [3]) (.seq (.reg F122_r1 [] [0,3,5] [3]) (.seq (.seq (.reg F122_r2 [] [0,3,5,21] [3]) (.cond (.t 21) (.seq (.reg F122_r3 [] [4] []) (.ret)) (.skip))) (.seq (.reg F122_r4 [] [0,5] []) (.seq (.reg F122_r5 [] [] []) (.seq (.reg F122_r6 [] [4] []) (.ret)))))),[.t 4]⟩
def F123_r0:List AIns:=[ii 3 (.box true (.t 1)),
 ii 4 (.mv (.c (.lit (.int .i64 0))))]
def F123_r1:List AIns:=[ii 6 (.mv (.t 0)),
 ii 7 (.fa 1 (.t 3)),
 ii 8 (.ld false none (.t 7)),
 ii 9 (.call (.f N163_) [(.t 6),(.t 8)]),
 ii 5 (.alloc true [.lit (.bool false),.lit (.int .i64 0)]),
 ⟨none,none,.st false 2 (.t 5) (.t 9)⟩]
def F123_r2:List AIns:=[ii 10 (.fa 0 (.t 5)),
 ii 11 (.ld false none (.t 10))]
def F123_r3:List AIns:=[ii 4 (.mv (.c (.lit (.int .i64 1))))]
def F123_r4:List AIns:=[ii 12 (.mv (.t 0)),
 ii 13 (.mv (.t 0)),
 ii 14 (.nck (.t 13)),
 ii 15 (.fa 9 (.t 14)),
 ii 16 (.fa 2 (.t 15)),
 ii 17 (.ld true none (.t 16)),
 ii 18 (.fa 1 (.t 5)),
 ii 19 (.ld false none (.t 18)),
 ii 20 (.bsl 1 [(.t 19)]),
 ii 21 (.wop (.appm 1 8) [(.t 17),(.t 20)]),
 ii 22 (.nck (.t 12)),
 ii 23 (.fa 9 (.t 22)),
 ii 24 (.fa 2 (.t 23)),
 ⟨none,none,.st true 1 (.t 24) (.t 21)⟩]
def F123_r5:List AIns:=[ii 25 (.mv (.t 0)),
 ii 26 (.nck (.t 25)),
 ii 27 (.fa 5 (.t 26)),
 ii 28 (.ld true none (.t 27)),
 ii 29 (.bin .add (.t 28) (.c (.lit (.int .i64 1)))),
 ii 30 (.nck (.t 25)),
 ii 31 (.fa 5 (.t 30)),
 ⟨none,none,.st true 1 (.t 31) (.t 29)⟩]
def F123_r6:List AIns:=[ii 4 (.mv (.c (.lit (.int .i64 0))))]
def F123_:AFun:=⟨2,.seq (.reg F123_r0 [] [0,3] [3]) (.seq (.reg F123_r1 [] [0,5] [5]) (.seq (.seq (.reg F123_r2 [] [0,5,11] [5]) (.cond (.t 11) (.seq (.reg F123_r3 [] [4] []) (.ret)) (.skip))) (.seq (.reg F123_r4 [] [0] []) (.seq (.reg F123_r5 [] [] []) (.seq (.reg F123_r6 [] [4] []) (.ret)))))),[.t 4]⟩
def F124_r0:List AIns:=[ii 3 (.box true (.t 1)),
 ii 4 (.mv (.c (.lit (.int .i64 0))))]
def F124_r1:List AIns:=[ii 6 (.mv (.t 0)),
 ii 7 (.fa 1 (.t 3)),
 ii 8 (.ld false none (.t 7)),
 ii 9 (.call (.f N163_) [(.t 6),(.t 8)]),
 ii 5 (.alloc true [.lit (.bool false),.lit (.int .i64 0)]),
 ⟨none,none,.st false 2 (.t 5) (.t 9)⟩]
def F124_r2:List AIns:=[ii 10 (.fa 0 (.t 5)),
 ii 11 (.ld false none (.t 10))]
def F124_r3:List AIns:=[ii 4 (.mv (.c (.lit (.int .i64 1))))]
def F124_r4:List AIns:=[ii 12 (.mv (.t 0)),
 ii 13 (.fa 1 (.t 5)),
 ii 14 (.ld false none (.t 13)),
 ii 15 (.nck (.t 12)),
 ii 16 (.fa 9 (.t 15)),
 ii 17 (.fa 1 (.t 16)),
 ⟨none,none,.st true 1 (.t 17) (.t 14)⟩]
def F124_r5:List AIns:=[ii 4 (.mv (.c (.lit (.int .i64 3))))]
def F124_:AFun:=⟨2,.seq (.reg F124_r0 [] [0,3] [3]) (.seq (.reg F124_r1 [] [0,5] [5]) (.seq (.seq (.reg F124_r2 [] [0,5,11] [5]) (.cond (.t 11) (.seq (.reg F124_r3 [] [4] []) (.ret)) (.skip))) (.seq (.reg F124_r4 [] [] []) (.seq (.reg F124_r5 [] [4] []) (.ret))))),[.t 4]⟩
def F125_r0:List AIns:=[ii 2 (.box false (.t 0)),
 ii 4 (.mv (.c (.slice .full 2 []))),
 ii 5 (.mv (.c (.lit (.int .i64 0))))]
def F125_r1:List AIns:=[ii 12 (.ld true none (.t 2)),
 ii 13 (.peq false (.t 12) (.c (.lit (.pointer none))))]
def F125_r2:List AIns:=[ii 4 (.mv (.c (.slice .full 2 []))),
 ii 5 (.mv (.c (.lit (.int .i64 3))))]
def F125_r3:List AIns:=[ii 14 (.ld true none (.t 2)),
 ii 15 (.nck (.t 14)),
 ii 16 (.fa 1 (.t 15)),
 ii 17 (.mv (.t 1)),
 ii 18 (.call (.f N84_) [(.t 16),(.t 17)]),
 ii 19 (.unot (.t 18))]
def F125_r4:List AIns:=[ii 4 (.mv (.c (.slice .full 2 []))),
 ii 5 (.mv (.c (.lit (.int .i64 171))))]
def F125_r5:List AIns:=[ii 6 (.alloc false [.slice .full 2 [],.slice .full 1 [],.slice .full 1 []])]
def F125_r6:List AIns:=[ii 20 (.ld true none (.t 2)),
 ii 21 (.nck (.t 20)),
 ii 22 (.fa 1 (.t 21)),
 ii 23 (.fa 0 (.t 22)),
 ii 24 (.ld true none (.t 23)),
 ii 25 (.len false (.t 24)),
 ii 26 (.wop (.mks 1 8 [.lit (.int .i64 0)]) [(.t 25),(.t 25)]),
 ii 7 (.alloc false [.slice .full 1 []]),
 ⟨none,none,.st true 1 (.t 7) (.t 26)⟩]
def F125_r7:List AIns:=[ii 27 (.mkf N170_ [] [(.t 7),(.t 6),(.t 2)]),
 ii 8 (.mv (.t 27))]
def F125_r8:List AIns:=[ii 28 (.mv (.t 1)),
 ii 29 (.len false (.t 28)),
 ii 30 (.wop (.mks 2 16 [.lit (.bool false),.lit (.int .i64 0)]) [(.t 29),(.t 29)]),
 ii 9 (.mv (.t 30))]
def F125_r9:List AIns:=[ii 31 (.mv (.t 9)),
 ii 32 (.mv (.t 1)),
 ii 33 (.wop (.cpy 2) [(.t 31),(.t 32)])]
def F125_r10:List AIns:=[ii 34 (.mv (.t 8)),
 ii 35 (.mv (.t 9)),
 ii 36 (.call (.t 34) [(.t 35)])]
def F125_r11:List AIns:=[ii 10 (.mv (.c (.lit (.int .i64 0))))]
def F125_r12:List AIns:=[ii 37 (.mv (.t 10)),
 ii 38 (.fa 2 (.t 6)),
 ii 39 (.ld true none (.t 38)),
 ii 40 (.len false (.t 39)),
 ii 41 (.bin .lss (.t 37) (.t 40))]
def F125_r14:List AIns:=[ii 44 (.fa 2 (.t 6)),
 ii 45 (.ld true none (.t 44)),
 ii 46 (.mv (.t 10)),
 ii 47 (.ia 1 (.t 45) (.t 46)),
 ii 48 (.ld true none (.t 47)),
 ii 49 (.call (.f N87_) [(.t 6),(.t 48)]),
 ii 50 (.call (.f N72_) [(.t 49)]),
 ii 11 (.mv (.t 50))]
def F125_r15:List AIns:=[ii 51 (.mv (.t 8)),
 ii 52 (.mv (.t 11)),
 ii 53 (.call (.t 51) [(.t 52)])]
def F125_r16:List AIns:=[ii 54 (.fa 2 (.t 6)),
 ii 55 (.ld true none (.t 54)),
 ii 56 (.mv (.t 10)),
 ii 57 (.ia 1 (.t 55) (.t 56)),
 ii 58 (.ld true none (.t 57)),
 ii 59 (.call (.f N87_) [(.t 6),(.t 58)]),
 ii 60 (.mv (.t 11)),
 ii 61 (.wop (.cpy 2) [(.t 59),(.t 60)])]
def F125_r13:List AIns:=[ii 42 (.mv (.t 10)),
 ii 43 (.bin .add (.t 42) (.c (.lit (.int .i64 1)))),
 ii 10 (.mv (.t 43))]
def F125_l1:AC:=.seq (.seq (.reg F125_r12 [] [2,6,8,9,10,41] []) (.cond (.t 41) (.skip) (.exit 0))) (.seq (.block 1 (.seq (.reg F125_r14 [] [2,6,8,9,10,11] []) (.seq (.reg F125_r15 [] [2,6,8,9,10,11] []) (.reg F125_r16 [] [2,6,8,9,10] [])))) (.reg F125_r13 [] [2,6,8,9,10] []))
def F125_r17:List AIns:=[ii 62 (.ld true none (.t 2)),
 ii 63 (.ld true (some 3) (.t 6)),
 ii 64 (.nck (.t 62)),
 ii 65 (.fa 1 (.t 64)),
 ⟨none,none,.st true 3 (.t 65) (.t 63)⟩]
def F125_r18:List AIns:=[ii 66 (.mv (.t 9)),
 ii 4 (.mv (.t 66)),
 ii 5 (.mv (.c (.lit (.int .i64 0))))]
def F125_:AFun:=⟨2,.seq (.reg F125_r0 [] [1,2] []) (.seq (.seq (.reg F125_r1 [] [1,2,13] []) (.cond (.t 13) (.seq (.reg F125_r2 [] [4,5] []) (.ret)) (.skip))) (.seq (.seq (.reg F125_r3 [] [1,2,19] []) (.cond (.t 19) (.seq (.reg F125_r4 [] [4,5] []) (.ret)) (.skip))) (.seq (.reg F125_r5 [] [1,2,6] []) (.seq (.reg F125_r6 [] [1,2,6,7] []) (.seq (.reg F125_r7 [] [1,2,6,8] []) (.seq (.reg F125_r8 [] [1,2,6,8,9] []) (.seq (.reg F125_r9 [] [2,6,8,9] []) (.seq (.reg F125_r10 [] [2,6,8,9] []) (.seq (.seq (.reg F125_r11 [] [2,6,8,9,10] []) (.block 0 (.loop F125_l1))) (.seq (.reg F125_r17 [] [9] []) (.seq (.reg F125_r18 [] [4,5] []) (.ret)))))))))))),[.t 4,.t 5]⟩
def F133_r0:List AIns:=[ii 2 (.mv (.c (.lit (.bool false))))]
def F133_r1:List AIns:=[ii 3 (.mv (.t 0)),
 ii 4 (.bin .eql (.t 3) (.c (.lit (.int .i64 7)))),
 ii 5 (.mv (.t 4)),
 ⟨some 6,(some (5,false)),.mv (.t 0)⟩,
 ⟨some 7,(some (5,false)),.bin .eql (.t 6) (.c (.lit (.int .i64 8)))⟩,
 ii 8 (.pick (.t 5) (.c (.lit (.bool true))) (.t 7)),
 ii 9 (.mv (.t 8)),
 ⟨some 10,(some (9,false)),.mv (.t 0)⟩,
 ⟨some 11,(some (9,false)),.bin .eql (.t 10) (.c (.lit (.int .i64 6)))⟩,
 ii 12 (.pick (.t 9) (.c (.lit (.bool true))) (.t 11)),
 ii 13 (.mv (.t 12)),
 ⟨some 14,(some (13,false)),.mv (.t 0)⟩,
 ⟨some 15,(some (13,false)),.bin .eql (.t 14) (.c (.lit (.int .i64 10)))⟩,
 ii 16 (.pick (.t 13) (.c (.lit (.bool true))) (.t 15)),
 ii 2 (.mv (.t 16))]
def F133_:AFun:=⟨1,.seq (.reg F133_r0 [] [0] []) (.seq (.reg F133_r1 [] [2] []) (.ret)),[.t 2]⟩
def F134_r0:List AIns:=[ii 2 (.box true (.t 0)),
 ii 3 (.box false (.t 1)),
 ii 4 (.mv (.c (.lit (.bool false))))]
def F134_r1:List AIns:=[ii 9 (.fa 0 (.t 2)),
 ii 10 (.ld false none (.t 9)),
 ii 11 (.bin .lss (.t 10) (.c (.lit (.int .i64 0)))),
 ii 12 (.mv (.t 11)),
 ⟨some 13,(some (12,false)),.fa 0 (.t 2)⟩,
 ⟨some 14,(some (12,false)),.ld false none (.t 13)⟩,
 ⟨some 15,(some (12,false)),.bin .gtr (.t 14) (.c (.lit (.int .i64 10)))⟩,
 ii 16 (.pick (.t 12) (.c (.lit (.bool true))) (.t 15))]
def F134_r2:List AIns:=[ii 4 (.mv (.c (.lit (.bool false))))]
def F134_r3:List AIns:=[ii 17 (.call (.f N184_) []),
 ii 18 (.fa 0 (.t 2)),
 ii 19 (.ld false none (.t 18)),
 ii 20 (.wop (.ixv 11 2 (some 2)) [(.t 17),(.t 19)]),
 ii 5 (.alloc true [.lit (.string ⟨#[]⟩),.lit (.string ⟨#[]⟩)]),
 ⟨none,none,.st false 2 (.t 5) (.t 20)⟩]
def F134_r4:List AIns:=[ii 21 (.fa 1 (.t 2)),
 ii 22 (.ld false none (.t 21)),
 ii 23 (.fa 2 (.t 2)),
 ii 24 (.ld false none (.t 23)),
 ii 25 (.fa 3 (.t 2)),
 ii 26 (.ld false none (.t 25)),
 ii 27 (.bsl 1 [(.t 22),(.t 24),(.t 26)]),
 ii 28 (.len false (.t 27)),
 ii 29 (.mv (.c (.lit (.int .i64 0))))]
def F134_r5:List AIns:=[ii 30 (.bin .lss (.t 29) (.t 28))]
def F134_r6:List AIns:=[ii 31 (.mv (.t 29)),
 ii 32 (.ia 1 (.t 27) (.t 29)),
 ii 33 (.ld false none (.t 32)),
 ii 6 (.mv (.t 31)),
 ii 7 (.mv (.t 33))]
def F134_r7:List AIns:=[ii 34 (.ld false (some 2) (.t 5)),
 ii 35 (.mv (.t 6)),
 ii 36 (.bin .add (.c (.lit (.int .i64 97))) (.t 35)),
 ii 37 (.cvt .i32 (.t 36)),
 ii 38 (.call (.f N185_) [(.t 34),(.t 37)]),
 ii 39 (.mv (.t 38)),
 ⟨some 40,(some (39,true)),.mv (.t 7)⟩,
 ⟨some 41,(some (39,true)),.call (.f N186_) [(.t 40)]⟩,
 ⟨some 42,(some (39,true)),.unot (.t 41)⟩,
 ii 43 (.pick (.t 39) (.t 42) (.c (.lit (.bool false)))),
 ii 44 (.mv (.t 43)),
 ⟨some 45,(some (44,false)),.ld false (some 2) (.t 5)⟩,
 ⟨some 46,(some (44,false)),.mv (.t 6)⟩,
 ⟨some 47,(some (44,false)),.bin .add (.c (.lit (.int .i64 97))) (.t 46)⟩,
 ⟨some 48,(some (44,false)),.cvt .i32 (.t 47)⟩,
 ⟨some 49,(some (44,false)),.call (.f N185_) [(.t 45),(.t 48)]⟩,
 ⟨some 50,(some (44,false)),.unot (.t 49)⟩,
 ⟨some 51,(some (44,false)),.mv (.t 50)⟩,
 ⟨some 52,(some (51,true)),.mv (.t 7)⟩,
 ⟨some 53,(some (51,true)),.bin .neq (.t 52) (.c (.lit (.int .i64 0)))⟩,
 ⟨some 54,(some (44,false)),.pick (.t 51) (.t 53) (.c (.lit (.bool false)))⟩,
 ii 55 (.pick (.t 44) (.c (.lit (.bool true))) (.t 54))]
def F134_r8:List AIns:=[ii 4 (.mv (.c (.lit (.bool false))))]
def F134_r9:List AIns:=[ii 56 (.bin .add (.t 29) (.c (.lit (.int .i64 1)))),
 ii 29 (.mv (.t 56))]
def F134_l1:AC:=.seq (.reg F134_r5 [] [2,3,5,27,28,29,30] [2,5]) (.seq (.cond (.t 30) (.skip) (.exit 0)) (.seq (.block 1 (.seq (.reg F134_r6 [] [2,3,5,6,7,27,28,29] [2,5]) (.seq (.reg F134_r7 [] [2,3,5,27,28,29,55] [2,5]) (.cond (.t 55) (.seq (.reg F134_r8 [] [4] []) (.ret)) (.skip))))) (.reg F134_r9 [] [2,3,5,27,28,29] [2,5])))
def F134_r10:List AIns:=[ii 8 (.mv (.c (.lit (.int .i64 0))))]
def F134_r11:List AIns:=[ii 57 (.fa 0 (.t 2)),
 ii 58 (.ld false none (.t 57))]
def F134_r12:List AIns:=[ii 60 (.bin .eql (.t 58) (.c (.lit (.int .i64 3)))),
 ii 59 (.mv (.t 60))]
def F134_r13:List AIns:=[ii 8 (.mv (.c (.lit (.int .i64 1024))))]
def F134_r14:List AIns:=[ii 62 (.bin .eql (.t 58) (.c (.lit (.int .i64 7)))),
 ii 61 (.mv (.t 62))]
def F134_r15:List AIns:=[ii 8 (.mv (.c (.lit (.int .i64 1024))))]
def F134_r16:List AIns:=[ii 64 (.bin .eql (.t 58) (.c (.lit (.int .i64 8)))),
 ii 63 (.mv (.t 64))]
def F134_r17:List AIns:=[ii 8 (.mv (.c (.lit (.int .i64 1023))))]
def F134_r18:List AIns:=[ii 65 (.fa 5 (.t 2)),
 ii 66 (.ld false none (.t 65)),
 ii 67 (.len false (.t 66)),
 ii 68 (.mv (.t 8)),
 ii 69 (.bin .gtr (.t 67) (.t 68)),
 ii 70 (.mv (.t 69)),
 ⟨some 71,(some (70,false)),.fa 5 (.t 2)⟩,
 ⟨some 72,(some (70,false)),.ld false none (.t 71)⟩,
 ⟨some 73,(some (70,false)),.call (.f N187_) [(.t 72),(.f N188_)]⟩,
 ii 74 (.pick (.t 70) (.c (.lit (.bool true))) (.t 73))]
def F134_r19:List AIns:=[ii 4 (.mv (.c (.lit (.bool false))))]
def F134_r20:List AIns:=[ii 75 (.fa 0 (.t 2)),
 ii 76 (.ld false none (.t 75)),
 ii 77 (.bin .eql (.t 76) (.c (.lit (.int .i64 6)))),
 ii 78 (.fa 6 (.t 2)),
 ii 79 (.ld false none (.t 78)),
 ii 80 (.len false (.t 79)),
 ii 81 (.bin .gtr (.t 80) (.c (.lit (.int .i64 0)))),
 ii 82 (.beq true (.t 77) (.t 81)),
 ii 83 (.mv (.t 82)),
 ⟨some 84,(some (83,false)),.fa 6 (.t 2)⟩,
 ⟨some 85,(some (83,false)),.ld false none (.t 84)⟩,
 ⟨some 86,(some (83,false)),.len false (.t 85)⟩,
 ⟨some 87,(some (83,false)),.bin .gtr (.t 86) (.c (.lit (.int .i64 6)))⟩,
 ii 88 (.pick (.t 83) (.c (.lit (.bool true))) (.t 87)),
 ii 89 (.mv (.t 88)),
 ⟨some 90,(some (89,false)),.fa 6 (.t 2)⟩,
 ⟨some 91,(some (89,false)),.ld false none (.t 90)⟩,
 ⟨some 92,(some (89,false)),.mkf N189_ [] [(.t 3)]⟩,
 ⟨some 93,(some (89,false)),.call (.f N187_) [(.t 91),(.t 92)]⟩,
 ii 94 (.pick (.t 89) (.c (.lit (.bool true))) (.t 93))]
def F134_r21:List AIns:=[ii 4 (.mv (.c (.lit (.bool false))))]
def F134_r22:List AIns:=[ii 95 (.ld false (some 2) (.t 5)),
 ii 96 (.fa 4 (.t 2)),
 ii 97 (.ld false none (.t 96)),
 ii 98 (.ld true none (.t 3)),
 ii 99 (.call (.f N190_) [(.t 95),(.t 97),(.t 98)]),
 ii 4 (.mv (.t 99))]
def F134_:AFun:=⟨2,.seq (.reg F134_r0 [] [2,3] [2]) (.seq (.seq (.reg F134_r1 [] [2,3,16] [2]) (.cond (.t 16) (.seq (.reg F134_r2 [] [4] []) (.ret)) (.skip))) (.seq (.reg F134_r3 [5] [2,3,5] [2,5]) (.seq (.seq (.reg F134_r4 [] [2,3,5,27,28,29] [2,5]) (.block 0 (.loop F134_l1))) (.seq (.reg F134_r10 [] [2,3,5,8] [2,5]) (.seq (.seq (.reg F134_r11 [] [2,3,5,8,58] [2,5]) (.block 2 (.seq (.reg F134_r12 [] [2,3,5,8,58,59] [2,5]) (.cond (.t 59) (.reg F134_r13 [] [2,3,5,8] [2,5]) (.seq (.reg F134_r14 [] [2,3,5,8,58,61] [2,5]) (.cond (.t 61) (.reg F134_r15 [] [2,3,5,8] [2,5]) (.seq (.reg F134_r16 [] [2,3,5,8,63] [2,5]) (.cond (.t 63) (.reg F134_r17 [] [2,3,5,8] [2,5]) (.skip))))))))) (.seq (.seq (.reg F134_r18 [] [2,3,5,74] [2,5]) (.cond (.t 74) (.seq (.reg F134_r19 [] [4] []) (.ret)) (.skip))) (.seq (.seq (.reg F134_r20 [] [2,3,5,94] [2,5]) (.cond (.t 94) (.seq (.reg F134_r21 [] [4] []) (.ret)) (.skip))) (.seq (.reg F134_r22 [] [4] []) (.ret))))))))),[.t 4]⟩
def F135_r0:List AIns:=[ii 4 (.mv (.c (.lit (.bool false))))]
def F135_r1:List AIns:=[ii 5 (.mv (.t 0)),
 ii 6 (.mv (.t 1)),
 ii 7 (.call (.f N191_) [(.t 5),(.t 6)]),
 ii 8 (.bin .geq (.t 7) (.c (.lit (.int .i64 0)))),
 ii 4 (.mv (.t 8))]
def F135_:AFun:=⟨2,.seq (.reg F135_r0 [] [0,1] []) (.seq (.reg F135_r1 [] [4] []) (.ret)),[.t 4]⟩
def F136_r0:List AIns:=[ii 2 (.box true (.t 0)),
 ii 3 (.mv (.c (.lit (.bool false))))]
def F136_r1:List AIns:=[ii 4 (.fa 0 (.t 2)),
 ii 5 (.ld false none (.t 4)),
 ii 6 (.mv (.t 5)),
 ⟨some 7,(some (6,true)),.ld true none (.t 1)⟩,
 ⟨some 8,(some (6,true)),.fa 1 (.t 2)⟩,
 ⟨some 9,(some (6,true)),.ld false none (.t 8)⟩,
 ⟨some 10,(some (6,true)),.call (.f N137_) [(.t 7),(.t 9)]⟩,
 ⟨some 11,(some (6,true)),.unot (.t 10)⟩,
 ii 12 (.pick (.t 6) (.t 11) (.c (.lit (.bool false)))),
 ii 3 (.mv (.t 12))]
def F136_:AFun:=⟨2,.seq (.reg F136_r0 [] [1,2] [2]) (.seq (.reg F136_r1 [] [3] []) (.ret)),[.t 3]⟩
def F137_r0:List AIns:=[ii 4 (.mv (.c (.lit (.bool false))))]
def F137_r1:List AIns:=[ii 5 (.mv (.t 1)),
 ii 6 (.bin .geq (.t 5) (.c (.lit (.int .i64 0)))),
 ii 7 (.mv (.t 6)),
 ⟨some 8,(some (7,true)),.mv (.t 1)⟩,
 ⟨some 9,(some (7,true)),.mv (.t 0)⟩,
 ⟨some 10,(some (7,true)),.nck (.t 9)⟩,
 ⟨some 11,(some (7,true)),.fa 1 (.t 10)⟩,
 ⟨some 12,(some (7,true)),.ld true none (.t 11)⟩,
 ⟨some 13,(some (7,true)),.len false (.t 12)⟩,
 ⟨some 14,(some (7,true)),.bin .lss (.t 8) (.t 13)⟩,
 ii 15 (.pick (.t 7) (.t 14) (.c (.lit (.bool false)))),
 ii 16 (.mv (.t 15)),
 ⟨some 17,(some (16,true)),.mv (.t 0)⟩,
 ⟨some 18,(some (16,true)),.nck (.t 17)⟩,
 ⟨some 19,(some (16,true)),.fa 1 (.t 18)⟩,
 ⟨some 20,(some (16,true)),.ld true none (.t 19)⟩,
 ⟨some 21,(some (16,true)),.mv (.t 1)⟩,
 ⟨some 22,(some (16,true)),.ia 1 (.t 20) (.t 21)⟩,
 ⟨some 23,(some (16,true)),.ld true none (.t 22)⟩,
 ⟨some 24,(some (16,true)),.bin .gtr (.t 23) (.c (.lit (.int .i64 0)))⟩,
 ii 25 (.pick (.t 16) (.t 24) (.c (.lit (.bool false)))),
 ii 4 (.mv (.t 25))]
def F137_:AFun:=⟨2,.seq (.reg F137_r0 [] [0,1] []) (.seq (.reg F137_r1 [] [4] []) (.ret)),[.t 4]⟩
def F162_r0:List AIns:=[ii 5 (.box true (.t 2))]
def F162_r1:List AIns:=[ii 6 (.mv (.t 1)),
 ii 7 (.mv (.t 0)),
 ii 8 (.nck (.t 7)),
 ii 9 (.fa 4 (.t 8)),
 ii 10 (.ld true none (.t 9)),
 ii 11 (.len false (.t 10)),
 ii 12 (.bin .geq (.t 6) (.t 11))]
def F162_r2:List AIns:=[ii 13 (.mv (.t 0)),
 ii 14 (.mv (.t 0)),
 ii 15 (.nck (.t 14)),
 ii 16 (.fa 4 (.t 15)),
 ii 17 (.ld true none (.t 16)),
 ii 18 (.build [.lit (.bool false),.lit (.int .i64 0)] []),
 ii 19 (.bsl 2 [(.t 18)]),
 ii 20 (.wop (.appm 2 16) [(.t 17),(.t 19)]),
 ii 21 (.nck (.t 13)),
 ii 22 (.fa 4 (.t 21)),
 ⟨none,none,.st true 1 (.t 22) (.t 20)⟩]
def F162_l1:AC:=.seq (.seq (.reg F162_r1 [] [0,1,5,12] [5]) (.cond (.t 12) (.skip) (.exit 0))) (.block 1 (.reg F162_r2 [] [0,1,5] [5]))
def F162_r3:List AIns:=[ii 23 (.mv (.t 0)),
 ii 24 (.nck (.t 23)),
 ii 25 (.fa 4 (.t 24)),
 ii 26 (.ld true none (.t 25)),
 ii 27 (.mv (.t 1)),
 ii 28 (.ld false (some 2) (.t 5)),
 ii 29 (.ia 2 (.t 26) (.t 27)),
 ⟨none,none,.st true 2 (.t 29) (.t 28)⟩]
def F162_:AFun:=⟨3,.seq (.reg F162_r0 [] [0,1,5] [5]) (.seq (.block 0 (.loop F162_l1)) (.reg F162_r3 [] [] [])),[]⟩
def F163_r0:List AIns:=[ii 4 (.alloc true [.lit (.bool false),.lit (.int .i64 0)])]
def F163_r1:List AIns:=[ii 5 (.mv (.t 1)),
 ii 6 (.mv (.t 0)),
 ii 7 (.nck (.t 6)),
 ii 8 (.fa 4 (.t 7)),
 ii 9 (.ld true none (.t 8)),
 ii 10 (.len false (.t 9)),
 ii 11 (.bin .lss (.t 5) (.t 10))]
def F163_r2:List AIns:=[ii 12 (.mv (.t 0)),
 ii 13 (.nck (.t 12)),
 ii 14 (.fa 4 (.t 13)),
 ii 15 (.ld true none (.t 14)),
 ii 16 (.mv (.t 1)),
 ii 17 (.ia 2 (.t 15) (.t 16)),
 ii 18 (.ld true (some 2) (.t 17)),
 ⟨none,none,.st false 2 (.t 4) (.t 18)⟩]
def F163_r3:List AIns:=[ii 19 (.build [.lit (.bool false),.lit (.int .i64 0)] []),
 ⟨none,none,.st false 2 (.t 4) (.t 19)⟩]
def F163_:AFun:=⟨2,.seq (.reg F163_r0 [] [0,1,4] [4]) (.seq (.seq (.reg F163_r1 [] [0,1,4,11] [4]) (.cond (.t 11) (.seq (.reg F163_r2 [] [4] [4]) (.ret)) (.skip))) (.seq (.reg F163_r3 [] [4] [4]) (.ret))),[.cell (some 2) 4]⟩
def F164_r0:List AIns:=[ii 6 (.mv (.c (.lit (.int .i64 0))))]
def F164_r1:List AIns:=[ii 7 (.mv (.c (.lit (.int .i64 0))))]
def F164_r2:List AIns:=[ii 9 (.mv (.t 2)),
 ii 10 (.bin .neq (.t 9) (.c (.lit (.int .i64 0))))]
def F164_r3:List AIns:=[ii 11 (.mv (.t 1)),
 ii 12 (.mv (.t 2)),
 ii 13 (.bin .quo (.t 11) (.t 12)),
 ii 7 (.mv (.t 13))]
def F164_r4:List AIns:=[ii 8 (.mv (.c (.lit (.bool false))))]
def F164_r5:List AIns:=[ii 14 (.mv (.t 0))]
def F164_r7:List AIns:=[ii 19 (.bin .eql (.t 14) (.c (.lit (.int .i64 0)))),
 ii 18 (.mv (.t 19))]
def F164_r8:List AIns:=[ii 20 (.mv (.t 1)),
 ii 21 (.mv (.t 2)),
 ii 22 (.bin .add (.t 20) (.t 21)),
 ii 6 (.mv (.t 22))]
def F164_r9:List AIns:=[ii 24 (.bin .eql (.t 14) (.c (.lit (.int .i64 1)))),
 ii 23 (.mv (.t 24))]
def F164_r10:List AIns:=[ii 25 (.mv (.t 1)),
 ii 26 (.mv (.t 2)),
 ii 27 (.bin .sub (.t 25) (.t 26)),
 ii 6 (.mv (.t 27))]
def F164_r11:List AIns:=[ii 29 (.bin .eql (.t 14) (.c (.lit (.int .i64 2)))),
 ii 28 (.mv (.t 29))]
def F164_r12:List AIns:=[ii 30 (.mv (.t 1)),
 ii 31 (.mv (.t 2)),
 ii 32 (.bin .mul (.t 30) (.t 31)),
 ii 6 (.mv (.t 32))]
def F164_r13:List AIns:=[ii 34 (.bin .eql (.t 14) (.c (.lit (.int .i64 3)))),
 ii 33 (.mv (.t 34))]
def F164_r14:List AIns:=[ii 35 (.mv (.t 7)),
 ii 6 (.mv (.t 35))]
def F164_r15:List AIns:=[ii 37 (.bin .eql (.t 14) (.c (.lit (.int .i64 4)))),
 ii 36 (.mv (.t 37))]
def F164_r16:List AIns:=[ii 38 (.mv (.t 1)),
 ii 39 (.mv (.t 2)),
 ii 40 (.mv (.t 7)),
 ii 41 (.bin .mul (.t 39) (.t 40)),
 ii 42 (.bin .sub (.t 38) (.t 41)),
 ii 6 (.mv (.t 42))]
def F164_r17:List AIns:=[ii 44 (.bin .eql (.t 14) (.c (.lit (.int .i64 5)))),
 ii 43 (.mv (.t 44))]
def F164_r18:List AIns:=[ii 45 (.mv (.t 1)),
 ii 46 (.mv (.t 2)),
 ii 47 (.bin .eql (.t 45) (.t 46)),
 ii 8 (.mv (.t 47))]
def F164_r6:List AIns:=[ii 15 (.mv (.t 1)),
 ii 16 (.mv (.t 2)),
 ii 17 (.bin .lss (.t 15) (.t 16)),
 ii 8 (.mv (.t 17))]
def F164_r19:List AIns:=[ii 48 (.mv (.t 8))]
def F164_r20:List AIns:=[ii 6 (.mv (.c (.lit (.int .i64 1))))]
def F164_r21:List AIns:=[ii 6 (.mv (.c (.lit (.int .i64 0))))]
def F164_:AFun:=⟨3,.seq (.reg F164_r0 [] [0,1,2] []) (.seq (.reg F164_r1 [] [0,1,2,7] []) (.seq (.seq (.reg F164_r2 [] [0,1,2,7,10] []) (.cond (.t 10) (.reg F164_r3 [] [0,1,2,7] []) (.skip))) (.seq (.reg F164_r4 [] [0,1,2,7] []) (.seq (.seq (.reg F164_r5 [] [1,2,7,14] []) (.block 0 (.seq (.reg F164_r7 [] [1,2,7,14,18] []) (.cond (.t 18) (.seq (.reg F164_r8 [] [6] []) (.ret)) (.seq (.reg F164_r9 [] [1,2,7,14,23] []) (.cond (.t 23) (.seq (.reg F164_r10 [] [6] []) (.ret)) (.seq (.reg F164_r11 [] [1,2,7,14,28] []) (.cond (.t 28) (.seq (.reg F164_r12 [] [6] []) (.ret)) (.seq (.reg F164_r13 [] [1,2,7,14,33] []) (.cond (.t 33) (.seq (.reg F164_r14 [] [6] []) (.ret)) (.seq (.reg F164_r15 [] [1,2,7,14,36] []) (.cond (.t 36) (.seq (.reg F164_r16 [] [6] []) (.ret)) (.seq (.reg F164_r17 [] [1,2,43] []) (.cond (.t 43) (.reg F164_r18 [] [8] []) (.reg F164_r6 [] [8] []))))))))))))))) (.seq (.seq (.reg F164_r19 [] [48] []) (.cond (.t 48) (.seq (.reg F164_r20 [] [6] []) (.ret)) (.skip))) (.seq (.reg F164_r21 [] [6] []) (.ret))))))),[.t 6]⟩
def F165_r0:List AIns:=[ii 6 (.mv (.c (.lit (.int .i64 0)))),
 ii 7 (.mv (.c (.lit (.int .i64 0))))]
def F165_r1:List AIns:=[ii 9 (.mv (.t 0)),
 ii 10 (.peq false (.t 9) (.c (.lit (.pointer none)))),
 ii 8 (.mv (.t 10))]
def F165_r2:List AIns:=[ii 6 (.mv (.c (.lit (.int .i64 0)))),
 ii 7 (.mv (.c (.lit (.int .i64 3))))]
def F165_r3:List AIns:=[ii 12 (.mv (.t 1)),
 ii 13 (.bin .lss (.t 12) (.c (.lit (.int .i64 0)))),
 ii 14 (.mv (.t 13)),
 ⟨some 15,(some (14,false)),.mv (.t 1)⟩,
 ⟨some 16,(some (14,false)),.bin .gtr (.t 15) (.c (.lit (.int .i64 100000)))⟩,
 ii 17 (.pick (.t 14) (.c (.lit (.bool true))) (.t 16)),
 ii 18 (.mv (.t 17)),
 ⟨some 19,(some (18,false)),.mv (.t 2)⟩,
 ⟨some 20,(some (18,false)),.len false (.t 19)⟩,
 ⟨some 21,(some (18,false)),.bin .gtr (.t 20) (.c (.lit (.int .i64 1024)))⟩,
 ii 22 (.pick (.t 18) (.c (.lit (.bool true))) (.t 21)),
 ii 11 (.mv (.t 22))]
def F165_r4:List AIns:=[ii 6 (.mv (.c (.lit (.int .i64 0)))),
 ii 7 (.mv (.c (.lit (.int .i64 1))))]
def F165_r5:List AIns:=[ii 24 (.mv (.t 0)),
 ii 25 (.nck (.t 24)),
 ii 26 (.fa 1 (.t 25)),
 ii 27 (.mv (.t 2)),
 ii 28 (.call (.f N84_) [(.t 26),(.t 27)]),
 ii 29 (.unot (.t 28)),
 ii 23 (.mv (.t 29))]
def F165_r6:List AIns:=[ii 6 (.mv (.c (.lit (.int .i64 0)))),
 ii 7 (.mv (.c (.lit (.int .i64 171))))]
def F165_r7:List AIns:=[ii 31 (.mv (.t 0)),
 ii 32 (.nck (.t 31)),
 ii 33 (.fa 1 (.t 32)),
 ii 34 (.fa 0 (.t 33)),
 ii 35 (.ld true none (.t 34)),
 ii 36 (.len false (.t 35)),
 ii 37 (.bin .add (.t 36) (.c (.lit (.int .i64 1)))),
 ii 38 (.mv (.t 2)),
 ii 39 (.len false (.t 38)),
 ii 40 (.bin .add (.t 37) (.t 39)),
 ii 41 (.mv (.t 0)),
 ii 42 (.nck (.t 41)),
 ii 43 (.fa 0 (.t 42)),
 ii 44 (.ld true none (.t 43)),
 ii 45 (.bin .gtr (.t 40) (.t 44)),
 ii 30 (.mv (.t 45))]
def F165_r8:List AIns:=[ii 6 (.mv (.c (.lit (.int .i64 0)))),
 ii 7 (.mv (.c (.lit (.int .i64 170))))]
def F165_r9:List AIns:=[ii 46 (.mv (.t 0)),
 ii 47 (.nck (.t 46)),
 ii 48 (.fa 1 (.t 47)),
 ii 49 (.mv (.t 1)),
 ii 50 (.mv (.t 2)),
 ii 51 (.call (.f N171_) [(.t 48),(.t 49),(.t 50)]),
 ii 6 (.mv (.t 51)),
 ii 7 (.mv (.c (.lit (.int .i64 0))))]
def F165_:AFun:=⟨3,.seq (.reg F165_r0 [] [0,1,2] []) (.seq (.block 0 (.seq (.reg F165_r1 [] [0,1,2,8] []) (.cond (.t 8) (.seq (.reg F165_r2 [] [6,7] []) (.ret)) (.seq (.reg F165_r3 [] [0,1,2,11] []) (.cond (.t 11) (.seq (.reg F165_r4 [] [6,7] []) (.ret)) (.seq (.reg F165_r5 [] [0,1,2,23] []) (.cond (.t 23) (.seq (.reg F165_r6 [] [6,7] []) (.ret)) (.seq (.reg F165_r7 [] [0,1,2,30] []) (.cond (.t 30) (.seq (.reg F165_r8 [] [6,7] []) (.ret)) (.skip)))))))))) (.seq (.reg F165_r9 [] [6,7] []) (.ret))),[.t 6,.t 7]⟩
def F166_r0:List AIns:=[ii 4 (.mv (.c (.slice .full 2 [])))]
def F166_r1:List AIns:=[ii 8 (.mv (.t 1)),
 ii 9 (.len false (.t 8)),
 ii 10 (.bin .add (.t 9) (.c (.lit (.int .i64 1)))),
 ii 11 (.wop (.mks 2 16 [.lit (.bool false),.lit (.int .i64 0)]) [(.c (.lit (.int .i64 0))),(.t 10)]),
 ii 5 (.mv (.t 11))]
def F166_r2:List AIns:=[ii 12 (.mv (.t 1)),
 ii 13 (.len false (.t 12)),
 ii 14 (.mv (.c (.lit (.int .i64 0))))]
def F166_r3:List AIns:=[ii 15 (.bin .lss (.t 14) (.t 13))]
def F166_r4:List AIns:=[ii 16 (.ia 1 (.t 12) (.t 14)),
 ii 17 (.ld true none (.t 16)),
 ii 7 (.mv (.t 17))]
def F166_r5:List AIns:=[ii 18 (.mv (.t 5)),
 ii 19 (.mv (.t 0)),
 ii 20 (.mv (.t 7)),
 ii 21 (.call (.f N163_) [(.t 19),(.t 20)]),
 ii 22 (.bsl 2 [(.t 21)]),
 ii 23 (.wop (.appm 2 16) [(.t 18),(.t 22)]),
 ii 5 (.mv (.t 23))]
def F166_r6:List AIns:=[ii 24 (.bin .add (.t 14) (.c (.lit (.int .i64 1)))),
 ii 14 (.mv (.t 24))]
def F166_l1:AC:=.seq (.reg F166_r3 [] [0,5,12,13,14,15] []) (.seq (.cond (.t 15) (.skip) (.exit 0)) (.seq (.block 1 (.seq (.reg F166_r4 [] [0,5,7,12,13,14] []) (.reg F166_r5 [] [0,5,12,13,14] []))) (.reg F166_r6 [] [0,5,12,13,14] [])))
def F166_r7:List AIns:=[ii 25 (.mv (.t 5)),
 ii 4 (.mv (.t 25))]
def F166_:AFun:=⟨2,.seq (.reg F166_r0 [] [0,1] []) (.seq (.reg F166_r1 [] [0,1,5] []) (.seq (.seq (.reg F166_r2 [] [0,5,12,13,14] []) (.block 0 (.loop F166_l1))) (.seq (.reg F166_r7 [] [4] []) (.ret)))),[.t 4]⟩
def F167_r0:List AIns:=[ii 6 (.alloc true [.lit (.bool false),.lit (.int .i64 0)]),
 ii 7 (.mv (.c (.lit (.int .i64 0))))]
def F167_r1:List AIns:=[ii 10 (.mv (.t 0)),
 ii 11 (.mv (.t 1)),
 ii 12 (.call (.f N194_) [(.t 10),(.t 11)]),
 ii 8 (.mv (.t 12))]
def F167_r2:List AIns:=[ii 13 (.mv (.t 8)),
 ii 14 (.bin .neq (.t 13) (.c (.lit (.int .i64 0))))]
def F167_r3:List AIns:=[ii 15 (.build [.lit (.bool false),.lit (.int .i64 0)] []),
 ii 16 (.mv (.t 8)),
 ⟨none,none,.st false 2 (.t 6) (.t 15)⟩,
 ii 7 (.mv (.t 16))]
def F167_r4:List AIns:=[ii 17 (.mv (.t 0)),
 ii 18 (.nck (.t 17)),
 ii 19 (.fa 1 (.t 18)),
 ii 20 (.mv (.t 1)),
 ii 21 (.call (.f N87_) [(.t 19),(.t 20)]),
 ii 9 (.mv (.t 21))]
def F167_r5:List AIns:=[ii 22 (.mv (.t 2)),
 ii 23 (.bin .geq (.t 22) (.c (.lit (.int .i64 0)))),
 ii 24 (.mv (.t 23)),
 ⟨some 25,(some (24,true)),.mv (.t 2)⟩,
 ⟨some 26,(some (24,true)),.mv (.t 9)⟩,
 ⟨some 27,(some (24,true)),.len false (.t 26)⟩,
 ⟨some 28,(some (24,true)),.bin .lss (.t 25) (.t 27)⟩,
 ii 29 (.pick (.t 24) (.t 28) (.c (.lit (.bool false))))]
def F167_r6:List AIns:=[ii 30 (.mv (.t 9)),
 ii 31 (.mv (.t 2)),
 ii 32 (.ia 2 (.t 30) (.t 31)),
 ii 33 (.ld true (some 2) (.t 32)),
 ⟨none,none,.st false 2 (.t 6) (.t 33)⟩,
 ii 7 (.mv (.c (.lit (.int .i64 0))))]
def F167_r7:List AIns:=[ii 34 (.build [.lit (.bool false),.lit (.int .i64 0)] []),
 ⟨none,none,.st false 2 (.t 6) (.t 34)⟩,
 ii 7 (.mv (.c (.lit (.int .i64 1))))]
def F167_:AFun:=⟨3,.seq (.reg F167_r0 [] [0,1,2,6] [6]) (.seq (.seq (.reg F167_r1 [] [0,1,2,6,8] [6]) (.seq (.reg F167_r2 [] [0,1,2,6,8,14] [6]) (.cond (.t 14) (.seq (.reg F167_r3 [] [6,7] [6]) (.ret)) (.skip)))) (.seq (.seq (.reg F167_r4 [] [2,6,9] [6]) (.seq (.reg F167_r5 [] [2,6,9,29] [6]) (.cond (.t 29) (.seq (.reg F167_r6 [] [6,7] [6]) (.ret)) (.skip)))) (.seq (.reg F167_r7 [] [6,7] [6]) (.ret)))),[.cell (some 2) 6,.t 7]⟩
def F168_r0:List AIns:=[ii 4 (.mv (.c (.lit (.int .i64 0))))]
def F168_r1:List AIns:=[ii 8 (.mv (.t 0)),
 ii 9 (.mv (.t 1)),
 ii 10 (.call (.f N163_) [(.t 8),(.t 9)]),
 ii 5 (.alloc true [.lit (.bool false),.lit (.int .i64 0)]),
 ⟨none,none,.st false 2 (.t 5) (.t 10)⟩]
def F168_r2:List AIns:=[ii 11 (.fa 0 (.t 5)),
 ii 12 (.ld false none (.t 11)),
 ii 13 (.unot (.t 12))]
def F168_r3:List AIns:=[ii 4 (.mv (.c (.lit (.int .i64 (-1)))))]
def F168_r4:List AIns:=[ii 15 (.mv (.t 0)),
 ii 16 (.nck (.t 15)),
 ii 17 (.fa 3 (.t 16)),
 ii 18 (.ld true none (.t 17)),
 ii 19 (.fa 1 (.t 5)),
 ii 20 (.ld false none (.t 19)),
 ii 21 (.call (.f N195_) [(.t 18),(.t 20)]),
 ii 14 (.mv (.t 21)),
 ii 22 (.ext (.t 14) 0),
 ii 23 (.ext (.t 14) 1),
 ii 6 (.mv (.t 22)),
 ii 7 (.mv (.t 23))]
def F168_r5:List AIns:=[ii 24 (.mv (.t 6)),
 ii 4 (.mv (.t 24))]
def F168_:AFun:=⟨2,.seq (.reg F168_r0 [] [0,1] []) (.seq (.reg F168_r1 [] [0,5] [5]) (.seq (.seq (.reg F168_r2 [] [0,5,13] [5]) (.cond (.t 13) (.seq (.reg F168_r3 [] [4] []) (.ret)) (.skip))) (.seq (.reg F168_r4 [] [6] []) (.seq (.reg F168_r5 [] [4] []) (.ret))))),[.t 4]⟩
def F170_r0:List AIns:=[ii 7 (.mv (.t 0)),
 ii 8 (.len false (.t 7)),
 ii 9 (.mv (.c (.lit (.int .i64 0))))]
def F170_r1:List AIns:=[ii 10 (.bin .lss (.t 9) (.t 8))]
def F170_r2:List AIns:=[ii 11 (.mv (.t 9)),
 ii 12 (.ia 2 (.t 7) (.t 9)),
 ii 13 (.ld true (some 2) (.t 12)),
 ii 6 (.alloc true [.lit (.bool false),.lit (.int .i64 0)]),
 ii 5 (.mv (.t 11)),
 ⟨none,none,.st false 2 (.t 6) (.t 13)⟩]
def F170_r3:List AIns:=[ii 14 (.fa 0 (.t 6)),
 ii 15 (.ld false none (.t 14)),
 ii 16 (.unot (.t 15))]
def F170_r4:List AIns:=[ii 17 (.ld true none (.t 1)),
 ii 18 (.fa 1 (.t 6)),
 ii 19 (.ld false none (.t 18)),
 ii 20 (.ia 1 (.t 17) (.t 19)),
 ii 21 (.ld true none (.t 20)),
 ii 22 (.bin .eql (.t 21) (.c (.lit (.int .i64 0))))]
def F170_r5:List AIns:=[ii 23 (.ldo 1 none (.t 1)),
 ii 24 (.fa 1 (.t 6)),
 ii 25 (.ld false none (.t 24)),
 ii 26 (.ld true none (.t 3)),
 ii 27 (.nck (.t 26)),
 ii 28 (.fa 1 (.t 27)),
 ii 29 (.fa 1 (.t 6)),
 ii 30 (.ld false none (.t 29)),
 ii 31 (.callq [1,3] (.f N86_) [(.t 28),(.t 30)]),
 ii 32 (.ldo 3 none (.t 3)),
 ii 33 (.nck (.t 32)),
 ii 34 (.fa 1 (.t 33)),
 ii 35 (.fa 1 (.t 6)),
 ii 36 (.ld false none (.t 35)),
 ii 37 (.callq [1] (.f N87_) [(.t 34),(.t 36)]),
 ii 38 (.callq [1] (.f N171_) [(.t 2),(.t 31),(.t 37)]),
 ii 39 (.bin .add (.t 38) (.c (.lit (.int .i64 1)))),
 ii 40 (.ia 1 (.t 23) (.t 25)),
 ⟨none,none,.st true 1 (.t 40) (.t 39)⟩]
def F170_r6:List AIns:=[ii 41 (.mv (.t 0)),
 ii 42 (.mv (.t 5)),
 ii 43 (.ld true none (.t 1)),
 ii 44 (.fa 1 (.t 6)),
 ii 45 (.ld false none (.t 44)),
 ii 46 (.ia 1 (.t 43) (.t 45)),
 ii 47 (.ld true none (.t 46)),
 ii 48 (.bin .sub (.t 47) (.c (.lit (.int .i64 1)))),
 ii 49 (.ia 2 (.t 41) (.t 42)),
 ii 50 (.fa 1 (.t 49)),
 ⟨none,none,.st true 1 (.t 50) (.t 48)⟩]
def F170_r7:List AIns:=[ii 51 (.bin .add (.t 9) (.c (.lit (.int .i64 1)))),
 ii 9 (.mv (.t 51))]
def F170_l1:AC:=.seq (.reg F170_r1 [] [0,1,2,3,7,8,9,10] []) (.seq (.cond (.t 10) (.skip) (.exit 0)) (.seq (.block 1 (.seq (.reg F170_r2 [] [0,1,2,3,5,6,7,8,9] [6]) (.seq (.seq (.reg F170_r3 [] [0,1,2,3,5,6,7,8,9,16] [6]) (.cond (.t 16) (.exit 1) (.skip))) (.seq (.seq (.reg F170_r4 [] [0,1,2,3,5,6,7,8,9,22] [6]) (.cond (.t 22) (.reg F170_r5 [] [0,1,2,3,5,6,7,8,9] [6]) (.skip))) (.reg F170_r6 [] [0,1,2,3,7,8,9] []))))) (.reg F170_r7 [] [0,1,2,3,7,8,9] [])))
def F170_:AFun:=⟨4,.seq (.reg F170_r0 [] [0,1,2,3,7,8,9] []) (.block 0 (.loop F170_l1)),[]⟩
def F171_r0:List AIns:=[ii 6 (.mv (.c (.lit (.int .i64 0))))]
def F171_r1:List AIns:=[ii 8 (.mv (.t 0)),
 ii 9 (.nck (.t 8)),
 ii 10 (.fa 0 (.t 9)),
 ii 11 (.ld true none (.t 10)),
 ii 12 (.len false (.t 11)),
 ii 7 (.mv (.t 12))]
def F171_r2:List AIns:=[ii 13 (.mv (.t 0)),
 ii 14 (.mv (.t 0)),
 ii 15 (.nck (.t 14)),
 ii 16 (.fa 2 (.t 15)),
 ii 17 (.ld true none (.t 16)),
 ii 18 (.mv (.t 7)),
 ii 19 (.bsl 1 [(.t 18)]),
 ii 20 (.wop (.appm 1 8) [(.t 17),(.t 19)]),
 ii 21 (.nck (.t 13)),
 ii 22 (.fa 2 (.t 21)),
 ⟨none,none,.st true 1 (.t 22) (.t 20)⟩]
def F171_r3:List AIns:=[ii 23 (.mv (.t 0)),
 ii 24 (.mv (.t 0)),
 ii 25 (.nck (.t 24)),
 ii 26 (.fa 0 (.t 25)),
 ii 27 (.ld true none (.t 26)),
 ii 28 (.mv (.t 1)),
 ii 29 (.build [.lit (.bool false),.lit (.int .i64 0)] [(1,1,(.t 28))]),
 ii 30 (.bsl 2 [(.t 29)]),
 ii 31 (.wop (.appm 2 16) [(.t 27),(.t 30)]),
 ii 32 (.mv (.t 2)),
 ii 33 (.wop (.appm 2 16) [(.t 31),(.t 32)]),
 ii 34 (.nck (.t 23)),
 ii 35 (.fa 0 (.t 34)),
 ⟨none,none,.st true 1 (.t 35) (.t 33)⟩]
def F171_r4:List AIns:=[ii 36 (.mv (.t 0)),
 ii 37 (.mv (.t 0)),
 ii 38 (.nck (.t 37)),
 ii 39 (.fa 1 (.t 38)),
 ii 40 (.ld true none (.t 39)),
 ii 41 (.mv (.t 2)),
 ii 42 (.len false (.t 41)),
 ii 43 (.bin .add (.t 42) (.c (.lit (.int .i64 1)))),
 ii 44 (.bsl 1 [(.t 43)]),
 ii 45 (.wop (.appm 1 8) [(.t 40),(.t 44)]),
 ii 46 (.nck (.t 36)),
 ii 47 (.fa 1 (.t 46)),
 ⟨none,none,.st true 1 (.t 47) (.t 45)⟩]
def F171_r5:List AIns:=[ii 48 (.mv (.t 2)),
 ii 49 (.len false (.t 48)),
 ii 50 (.mv (.c (.lit (.int .i64 0))))]
def F171_r6:List AIns:=[ii 51 (.bin .lss (.t 50) (.t 49))]
def F171_r7:List AIns:=[ii 52 (.mv (.t 0)),
 ii 53 (.mv (.t 0)),
 ii 54 (.nck (.t 53)),
 ii 55 (.fa 1 (.t 54)),
 ii 56 (.ld true none (.t 55)),
 ii 57 (.bsl 1 [(.c (.lit (.int .i64 0)))]),
 ii 58 (.wop (.appm 1 8) [(.t 56),(.t 57)]),
 ii 59 (.nck (.t 52)),
 ii 60 (.fa 1 (.t 59)),
 ⟨none,none,.st true 1 (.t 60) (.t 58)⟩]
def F171_r8:List AIns:=[ii 61 (.bin .add (.t 50) (.c (.lit (.int .i64 1)))),
 ii 50 (.mv (.t 61))]
def F171_l1:AC:=.seq (.reg F171_r6 [] [0,7,49,50,51] []) (.seq (.cond (.t 51) (.skip) (.exit 0)) (.seq (.block 1 (.reg F171_r7 [] [0,7,49,50] [])) (.reg F171_r8 [] [0,7,49,50] [])))
def F171_r9:List AIns:=[ii 62 (.mv (.t 7)),
 ii 6 (.mv (.t 62))]
def F171_:AFun:=⟨3,.seq (.reg F171_r0 [] [0,1,2] []) (.seq (.reg F171_r1 [] [0,1,2,7] []) (.seq (.reg F171_r2 [] [0,1,2,7] []) (.seq (.reg F171_r3 [] [0,2,7] []) (.seq (.reg F171_r4 [] [0,2,7] []) (.seq (.seq (.reg F171_r5 [] [0,7,49,50] []) (.block 0 (.loop F171_l1))) (.seq (.reg F171_r9 [] [6] []) (.ret))))))),[.t 6]⟩
def F184_r0:List AIns:=[ii 0 (.alloc true [.lit (.string ⟨#[]⟩),.lit (.string ⟨#[]⟩),.lit (.string ⟨#[]⟩),.lit (.string ⟨#[]⟩),.lit (.string ⟨#[]⟩),.lit (.string ⟨#[]⟩),.lit (.string ⟨#[]⟩),.lit (.string ⟨#[]⟩),.lit (.string ⟨#[]⟩),.lit (.string ⟨#[]⟩),.lit (.string ⟨#[]⟩),.lit (.string ⟨#[]⟩),.lit (.string ⟨#[]⟩),.lit (.string ⟨#[]⟩),.lit (.string ⟨#[]⟩),.lit (.string ⟨#[]⟩),.lit (.string ⟨#[]⟩),.lit (.string ⟨#[]⟩),.lit (.string ⟨#[]⟩),.lit (.string ⟨#[]⟩),.lit (.string ⟨#[]⟩),.lit (.string ⟨#[]⟩)])]
def F184_r1:List AIns:=[ii 1 (.build [.lit (.string ⟨#[]⟩),.lit (.string ⟨#[]⟩)] [(0,1,(.c (.lit (.string ⟨#[108,105,116]⟩)))),(1,1,(.c (.lit (.string ⟨#[97,110]⟩))))]),
 ii 2 (.build [.lit (.string ⟨#[]⟩),.lit (.string ⟨#[]⟩)] [(0,1,(.c (.lit (.string ⟨#[109,111,118,101]⟩)))),(1,1,(.c (.lit (.string ⟨#[97,98]⟩))))]),
 ii 3 (.build [.lit (.string ⟨#[]⟩),.lit (.string ⟨#[]⟩)] [(0,1,(.c (.lit (.string ⟨#[112,114,105,109]⟩)))),(1,1,(.c (.lit (.string ⟨#[111,97,98,99]⟩))))]),
 ii 4 (.build [.lit (.string ⟨#[]⟩),.lit (.string ⟨#[]⟩)] [(0,1,(.c (.lit (.string ⟨#[110,101,119]⟩)))),(1,1,(.c (.lit (.string ⟨#[97,116,114]⟩))))]),
 ii 5 (.build [.lit (.string ⟨#[]⟩),.lit (.string ⟨#[]⟩)] [(0,1,(.c (.lit (.string ⟨#[108,111,97,100]⟩)))),(1,1,(.c (.lit (.string ⟨#[97,98,102]⟩))))]),
 ii 6 (.build [.lit (.string ⟨#[]⟩),.lit (.string ⟨#[]⟩)] [(0,1,(.c (.lit (.string ⟨#[122,101,114,111]⟩)))),(1,1,(.c (.lit (.string ⟨#[97,112]⟩))))]),
 ii 7 (.build [.lit (.string ⟨#[]⟩),.lit (.string ⟨#[]⟩)] [(0,1,(.c (.lit (.string ⟨#[115,119,105,116,99,104]⟩)))),(1,1,(.c (.lit (.string ⟨#[97,115]⟩))))]),
 ii 8 (.build [.lit (.string ⟨#[]⟩),.lit (.string ⟨#[]⟩)] [(0,1,(.c (.lit (.string ⟨#[106,117,109,112]⟩)))),(1,1,(.c (.lit (.string ⟨#[112,114]⟩))))]),
 ii 9 (.build [.lit (.string ⟨#[]⟩),.lit (.string ⟨#[]⟩)] [(0,1,(.c (.lit (.string ⟨#[101,110,116,101,114]⟩)))),(1,1,(.c (.lit (.string ⟨#[97,114]⟩))))]),
 ii 10 (.build [.lit (.string ⟨#[]⟩),.lit (.string ⟨#[]⟩)] [(0,1,(.c (.lit (.string ⟨#[101,109,105,116]⟩)))),(1,1,(.c (.lit (.string ⟨#[97]⟩))))]),
 ii 11 (.build [.lit (.string ⟨#[]⟩),.lit (.string ⟨#[]⟩)] [(0,1,(.c (.lit (.string ⟨#[100,111,110,101]⟩)))),(1,1,(.c (.lit (.string ⟨#[97]⟩))))]),
 ii 12 (.build [.lit (.string ⟨#[]⟩),.lit (.string ⟨#[]⟩),.lit (.string ⟨#[]⟩),.lit (.string ⟨#[]⟩),.lit (.string ⟨#[]⟩),.lit (.string ⟨#[]⟩),.lit (.string ⟨#[]⟩),.lit (.string ⟨#[]⟩),.lit (.string ⟨#[]⟩),.lit (.string ⟨#[]⟩),.lit (.string ⟨#[]⟩),.lit (.string ⟨#[]⟩),.lit (.string ⟨#[]⟩),.lit (.string ⟨#[]⟩),.lit (.string ⟨#[]⟩),.lit (.string ⟨#[]⟩),.lit (.string ⟨#[]⟩),.lit (.string ⟨#[]⟩),.lit (.string ⟨#[]⟩),.lit (.string ⟨#[]⟩),.lit (.string ⟨#[]⟩),.lit (.string ⟨#[]⟩)] [(0,2,(.t 1)),(2,2,(.t 2)),(4,2,(.t 3)),(6,2,(.t 4)),(8,2,(.t 5)),(10,2,(.t 6)),(12,2,(.t 7)),(14,2,(.t 8)),(16,2,(.t 9)),(18,2,(.t 10)),(20,2,(.t 11))]),
 ⟨none,none,.st false 22 (.t 0) (.t 12)⟩]
def F184_:AFun:=⟨0,.seq (.reg F184_r0 [] [0] [0]) (.seq (.reg F184_r1 [] [0] [0]) (.ret)),[.cell (some 22) 0]⟩
def F186_r0:List AIns:=[ii 2 (.mv (.c (.lit (.bool false))))]
def F186_r1:List AIns:=[ii 3 (.mv (.t 0)),
 ii 4 (.bin .geq (.t 3) (.c (.lit (.int .i64 0)))),
 ii 5 (.mv (.t 4)),
 ⟨some 6,(some (5,true)),.mv (.t 0)⟩,
 ⟨some 7,(some (5,true)),.bin .lss (.t 6) (.c (.lit (.int .i64 1024)))⟩,
 ii 8 (.pick (.t 5) (.t 7) (.c (.lit (.bool false)))),
 ii 2 (.mv (.t 8))]
def F186_:AFun:=⟨1,.seq (.reg F186_r0 [] [0] []) (.seq (.reg F186_r1 [] [2] []) (.ret)),[.t 2]⟩
def F187_r0:List AIns:=[ii 4 (.mv (.c (.lit (.bool false))))]
def F187_r1:List AIns:=[ii 5 (.mv (.t 0)),
 ii 6 (.mv (.t 1)),
 ii 7 (.call (.f N206_) [(.t 5),(.t 6)]),
 ii 8 (.bin .geq (.t 7) (.c (.lit (.int .i64 0)))),
 ii 4 (.mv (.t 8))]
def F187_:AFun:=⟨2,.seq (.reg F187_r0 [] [0,1] []) (.seq (.reg F187_r1 [] [4] []) (.ret)),[.t 4]⟩
def F188_r0:List AIns:=[ii 2 (.mv (.c (.lit (.bool false))))]
def F188_r1:List AIns:=[ii 3 (.mv (.t 0)),
 ii 4 (.call (.f N186_) [(.t 3)]),
 ii 5 (.unot (.t 4)),
 ii 2 (.mv (.t 5))]
def F188_:AFun:=⟨1,.seq (.reg F188_r0 [] [0] []) (.seq (.reg F188_r1 [] [2] []) (.ret)),[.t 2]⟩
def F189_r0:List AIns:=[ii 3 (.mv (.c (.lit (.bool false))))]
def F189_r1:List AIns:=[ii 4 (.mv (.t 0)),
 ii 5 (.bin .lss (.t 4) (.c (.lit (.int .i64 0)))),
 ii 6 (.mv (.t 5)),
 ⟨some 7,(some (6,false)),.mv (.t 0)⟩,
 ⟨some 8,(some (6,false)),.ld true none (.t 1)⟩,
 ⟨some 9,(some (6,false)),.bin .geq (.t 7) (.t 8)⟩,
 ii 10 (.pick (.t 6) (.c (.lit (.bool true))) (.t 9)),
 ii 3 (.mv (.t 10))]
def F189_:AFun:=⟨2,.seq (.reg F189_r0 [] [0,1] []) (.seq (.reg F189_r1 [] [3] []) (.ret)),[.t 3]⟩
def F190_r0:List AIns:=[ii 3 (.box true (.t 0)),
 ii 6 (.mv (.c (.lit (.bool false))))]
def F190_r1:List AIns:=[ii 8 (.ld false (some 2) (.t 3)),
 ii 9 (.call (.f N185_) [(.t 8),(.c (.lit (.int .i32 110)))]),
 ii 7 (.mv (.t 9))]
def F190_r2:List AIns:=[ii 6 (.mv (.c (.lit (.bool true))))]
def F190_r3:List AIns:=[ii 11 (.ld false (some 2) (.t 3)),
 ii 12 (.call (.f N185_) [(.t 11),(.c (.lit (.int .i32 111)))]),
 ii 10 (.mv (.t 12))]
def F190_r4:List AIns:=[ii 13 (.mv (.t 1)),
 ii 14 (.bin .geq (.t 13) (.c (.lit (.int .i64 0)))),
 ii 15 (.mv (.t 14)),
 ⟨some 16,(some (15,true)),.mv (.t 1)⟩,
 ⟨some 17,(some (15,true)),.bin .leq (.t 16) (.c (.lit (.int .i64 6)))⟩,
 ii 18 (.pick (.t 15) (.t 17) (.c (.lit (.bool false)))),
 ii 6 (.mv (.t 18))]
def F190_r5:List AIns:=[ii 20 (.ld false (some 2) (.t 3)),
 ii 21 (.call (.f N185_) [(.t 20),(.c (.lit (.int .i32 116)))]),
 ii 19 (.mv (.t 21))]
def F190_r6:List AIns:=[ii 22 (.mv (.t 1)),
 ii 23 (.bin .geq (.t 22) (.c (.lit (.int .i64 0)))),
 ii 24 (.mv (.t 23)),
 ⟨some 25,(some (24,true)),.mv (.t 1)⟩,
 ⟨some 26,(some (24,true)),.bin .leq (.t 25) (.c (.lit (.int .i64 100000)))⟩,
 ii 27 (.pick (.t 24) (.t 26) (.c (.lit (.bool false)))),
 ii 6 (.mv (.t 27))]
def F190_r7:List AIns:=[ii 29 (.ld false (some 2) (.t 3)),
 ii 30 (.call (.f N185_) [(.t 29),(.c (.lit (.int .i32 102)))]),
 ii 28 (.mv (.t 30))]
def F190_r8:List AIns:=[ii 31 (.mv (.t 1)),
 ii 32 (.bin .geq (.t 31) (.c (.lit (.int .i64 0)))),
 ii 33 (.mv (.t 32)),
 ⟨some 34,(some (33,true)),.mv (.t 1)⟩,
 ⟨some 35,(some (33,true)),.bin .lss (.t 34) (.c (.lit (.int .i64 1024)))⟩,
 ii 36 (.pick (.t 33) (.t 35) (.c (.lit (.bool false)))),
 ii 6 (.mv (.t 36))]
def F190_r9:List AIns:=[ii 38 (.ld false (some 2) (.t 3)),
 ii 39 (.call (.f N185_) [(.t 38),(.c (.lit (.int .i32 112)))]),
 ii 37 (.mv (.t 39))]
def F190_r10:List AIns:=[ii 40 (.mv (.t 1)),
 ii 41 (.bin .geq (.t 40) (.c (.lit (.int .i64 0)))),
 ii 42 (.mv (.t 41)),
 ⟨some 43,(some (42,true)),.mv (.t 1)⟩,
 ⟨some 44,(some (42,true)),.mv (.t 2)⟩,
 ⟨some 45,(some (42,true)),.bin .lss (.t 43) (.t 44)⟩,
 ii 46 (.pick (.t 42) (.t 45) (.c (.lit (.bool false)))),
 ii 6 (.mv (.t 46))]
def F190_r11:List AIns:=[ii 47 (.mv (.t 1)),
 ii 48 (.bin .eql (.t 47) (.c (.lit (.int .i64 0)))),
 ii 6 (.mv (.t 48))]
def F190_:AFun:=⟨3,.seq (.reg F190_r0 [] [1,2,3] [3]) (.seq (.block 0 (.seq (.reg F190_r1 [] [1,2,3,7] [3]) (.cond (.t 7) (.seq (.reg F190_r2 [] [6] []) (.ret)) (.seq (.reg F190_r3 [] [1,2,3,10] [3]) (.cond (.t 10) (.seq (.reg F190_r4 [] [6] []) (.ret)) (.seq (.reg F190_r5 [] [1,2,3,19] [3]) (.cond (.t 19) (.seq (.reg F190_r6 [] [6] []) (.ret)) (.seq (.reg F190_r7 [] [1,2,3,28] [3]) (.cond (.t 28) (.seq (.reg F190_r8 [] [6] []) (.ret)) (.seq (.reg F190_r9 [] [1,2,37] []) (.cond (.t 37) (.seq (.reg F190_r10 [] [6] []) (.ret)) (.skip)))))))))))) (.seq (.reg F190_r11 [] [6] []) (.ret))),[.t 6]⟩
def F191_r0:List AIns:=[ii 4 (.mv (.c (.lit (.int .i64 0))))]
def F191_r1:List AIns:=[ii 6 (.mv (.t 0)),
 ii 7 (.len false (.t 6)),
 ii 8 (.mv (.c (.lit (.int .i64 0))))]
def F191_r2:List AIns:=[ii 9 (.bin .lss (.t 8) (.t 7))]
def F191_r3:List AIns:=[ii 10 (.mv (.t 8)),
 ii 5 (.mv (.t 10))]
def F191_r4:List AIns:=[ii 11 (.mv (.t 1)),
 ii 12 (.mv (.t 0)),
 ii 13 (.mv (.t 5)),
 ii 14 (.ia 2 (.t 12) (.t 13)),
 ii 15 (.ld true (some 2) (.t 14)),
 ii 16 (.call (.t 11) [(.t 15)])]
def F191_r5:List AIns:=[ii 17 (.mv (.t 5)),
 ii 4 (.mv (.t 17))]
def F191_r6:List AIns:=[ii 18 (.bin .add (.t 8) (.c (.lit (.int .i64 1)))),
 ii 8 (.mv (.t 18))]
def F191_l1:AC:=.seq (.reg F191_r2 [] [0,1,7,8,9] []) (.seq (.cond (.t 9) (.skip) (.exit 0)) (.seq (.block 1 (.seq (.reg F191_r3 [] [0,1,5,7,8] []) (.seq (.reg F191_r4 [] [0,1,5,7,8,16] []) (.cond (.t 16) (.seq (.reg F191_r5 [] [4] []) (.ret)) (.skip))))) (.reg F191_r6 [] [0,1,7,8] [])))
def F191_r7:List AIns:=[ii 4 (.mv (.c (.lit (.int .i64 (-1)))))]
def F191_:AFun:=⟨2,.seq (.reg F191_r0 [] [0,1] []) (.seq (.seq (.reg F191_r1 [] [0,1,7,8] []) (.block 0 (.loop F191_l1))) (.seq (.reg F191_r7 [] [4] []) (.ret))),[.t 4]⟩
def F194_r0:List AIns:=[ii 4 (.mv (.c (.lit (.int .i64 0))))]
def F194_r1:List AIns:=[ii 6 (.mv (.t 0)),
 ii 7 (.peq false (.t 6) (.c (.lit (.pointer none)))),
 ii 5 (.mv (.t 7))]
def F194_r2:List AIns:=[ii 4 (.mv (.c (.lit (.int .i64 3))))]
def F194_r3:List AIns:=[ii 9 (.mv (.t 0)),
 ii 10 (.nck (.t 9)),
 ii 11 (.fa 1 (.t 10)),
 ii 12 (.mv (.t 1)),
 ii 13 (.call (.f N137_) [(.t 11),(.t 12)]),
 ii 14 (.unot (.t 13)),
 ii 8 (.mv (.t 14))]
def F194_r4:List AIns:=[ii 4 (.mv (.c (.lit (.int .i64 171))))]
def F194_r5:List AIns:=[ii 4 (.mv (.c (.lit (.int .i64 0))))]
def F194_:AFun:=⟨2,.seq (.reg F194_r0 [] [0,1] []) (.seq (.block 0 (.seq (.reg F194_r1 [] [0,1,5] []) (.cond (.t 5) (.seq (.reg F194_r2 [] [4] []) (.ret)) (.seq (.reg F194_r3 [] [8] []) (.cond (.t 8) (.seq (.reg F194_r4 [] [4] []) (.ret)) (.skip)))))) (.seq (.reg F194_r5 [] [4] []) (.ret))),[.t 4]⟩
def F195_r0:List AIns:=[ii 4 (.mv (.c (.lit (.int .i64 0)))),
 ii 5 (.mv (.c (.lit (.int .i64 0))))]
def F195_r1:List AIns:=[ii 7 (.mv (.t 0)),
 ii 8 (.mv (.t 1)),
 ii 9 (.call (.f N194_) [(.t 7),(.t 8)]),
 ii 6 (.mv (.t 9))]
def F195_r2:List AIns:=[ii 10 (.mv (.t 6)),
 ii 11 (.bin .neq (.t 10) (.c (.lit (.int .i64 0))))]
def F195_r3:List AIns:=[ii 12 (.mv (.t 6)),
 ii 4 (.mv (.c (.lit (.int .i64 0)))),
 ii 5 (.mv (.t 12))]
def F195_r4:List AIns:=[ii 13 (.mv (.t 0)),
 ii 14 (.nck (.t 13)),
 ii 15 (.fa 1 (.t 14)),
 ii 16 (.mv (.t 1)),
 ii 17 (.call (.f N86_) [(.t 15),(.t 16)]),
 ii 4 (.mv (.t 17)),
 ii 5 (.mv (.c (.lit (.int .i64 0))))]
def F195_:AFun:=⟨2,.seq (.reg F195_r0 [] [0,1] []) (.seq (.seq (.reg F195_r1 [] [0,1,6] []) (.seq (.reg F195_r2 [] [0,1,6,11] []) (.cond (.t 11) (.seq (.reg F195_r3 [] [4,5] []) (.ret)) (.skip)))) (.seq (.reg F195_r4 [] [4,5] []) (.ret))),[.t 4,.t 5]⟩
def F206_r0:List AIns:=[ii 4 (.mv (.c (.lit (.int .i64 0))))]
def F206_r1:List AIns:=[ii 6 (.mv (.t 0)),
 ii 7 (.len false (.t 6)),
 ii 8 (.mv (.c (.lit (.int .i64 0))))]
def F206_r2:List AIns:=[ii 9 (.bin .lss (.t 8) (.t 7))]
def F206_r3:List AIns:=[ii 10 (.mv (.t 8)),
 ii 5 (.mv (.t 10))]
def F206_r4:List AIns:=[ii 11 (.mv (.t 1)),
 ii 12 (.mv (.t 0)),
 ii 13 (.mv (.t 5)),
 ii 14 (.ia 1 (.t 12) (.t 13)),
 ii 15 (.ld true none (.t 14)),
 ii 16 (.call (.t 11) [(.t 15)])]
def F206_r5:List AIns:=[ii 17 (.mv (.t 5)),
 ii 4 (.mv (.t 17))]
def F206_r6:List AIns:=[ii 18 (.bin .add (.t 8) (.c (.lit (.int .i64 1)))),
 ii 8 (.mv (.t 18))]
def F206_l1:AC:=.seq (.reg F206_r2 [] [0,1,7,8,9] []) (.seq (.cond (.t 9) (.skip) (.exit 0)) (.seq (.block 1 (.seq (.reg F206_r3 [] [0,1,5,7,8] []) (.seq (.reg F206_r4 [] [0,1,5,7,8,16] []) (.cond (.t 16) (.seq (.reg F206_r5 [] [4] []) (.ret)) (.skip))))) (.reg F206_r6 [] [0,1,7,8] [])))
def F206_r7:List AIns:=[ii 4 (.mv (.c (.lit (.int .i64 (-1)))))]
def F206_:AFun:=⟨2,.seq (.reg F206_r0 [] [0,1] []) (.seq (.seq (.reg F206_r1 [] [0,1,7,8] []) (.block 0 (.loop F206_l1))) (.seq (.reg F206_r7 [] [4] []) (.ret))),[.t 4]⟩
def tab:List (Nat × AFun):=[(N6_,F6_),(N25_,F25_),(N26_,F26_),(N27_,F27_),(N28_,F28_),(N29_,F29_),(N30_,F30_),(N31_,F31_),(N32_,F32_),(N33_,F33_),(N36_,F36_),(N37_,F37_),(N41_,F41_),(N69_,F69_),(N70_,F70_),(N71_,F71_),(N73_,F73_),(N74_,F74_),(N75_,F75_),(N81_,F81_),(N82_,F82_),(N83_,F83_),(N84_,F84_),(N86_,F86_),(N87_,F87_),(N114_,F114_),(N115_,F115_),(N116_,F116_),(N117_,F117_),(N118_,F118_),(N119_,F119_),(N120_,F120_),(N121_,F121_),(N122_,F122_),(N123_,F123_),(N124_,F124_),(N125_,F125_),(N133_,F133_),(N134_,F134_),(N135_,F135_),(N136_,F136_),(N137_,F137_),(N162_,F162_),(N163_,F163_),(N164_,F164_),(N165_,F165_),(N166_,F166_),(N167_,F167_),(N168_,F168_),(N170_,F170_),(N171_,F171_),(N184_,F184_),(N186_,F186_),(N187_,F187_),(N188_,F188_),(N189_,F189_),(N190_,F190_),(N191_,F191_),(N194_,F194_),(N195_,F195_),(N206_,F206_)]
def fnOf (n:Nat):Option AFun:=(tab.find? fun x=>x.1 == n).map (·.2)
end Go.Sim.Vm
namespace Go.Sim.Vm
open Go Go.Sim Go.Proofs
theorem any_drop {l:List UInt8} {p:UInt8 → Bool} {i:Nat} {b:UInt8} (h:l[i]?=some b):(l.drop i).any p=(p b || (l.drop (i + 1)).any p):=by
 have hi:i < l.length:=by
  rcases Nat.lt_or_ge i l.length with h' | h'
  ·exact h'
  ·rw [List.getElem?_eq_none h'] at h;cases h
 rw [List.getElem?_eq_getElem hi] at h
 cases h
 rw [List.drop_eq_getElem_cons hi,List.any_cons]
theorem grew_iter (w:World) (o:Obj) (f:ByteArray) (pos:Nat):∃ w1,Grew w w1 ∧ Grew w1 ((w.alloc o).iter f pos):=⟨w.alloc o,grew_push w o w.drawn,grew_push (w.alloc o) _ w.drawn⟩
def hasB (f:ByteArray) (r:Int):Bool:=f.data.toList.any fun b=>decide ((b.toNat:Int)=r)
def hasFrom (f:ByteArray) (r:Int) (i:Nat):Bool:=(f.data.toList.drop i).any fun b=>decide ((b.toNat:Int)=r)
theorem hasFrom_step {f:ByteArray} {r:Int} {i:Nat} {b:UInt8} (h:f.data.toList[i]?=some b):hasFrom f r i=(decide ((b.toNat:Int)=r) || hasFrom f r (i + 1)):=any_drop h
theorem hasFrom_end {f:ByteArray} {r:Int} {i:Nat} (h:¬ i < f.size):hasFrom f r i=false:=by
 unfold hasFrom
 rw [List.drop_eq_nil_of_le (by simpa using h)]
 rfl
theorem get_byte {f:ByteArray} {pos:Nat} (hlt:pos < f.size):f.data.toList[pos]?=some (f[pos]'hlt):=by
 have hl2:pos < f.data.toList.length:=by simpa using hlt
 rw [List.getElem?_eq_getElem hl2]
 rfl
set_option maxRecDepth 1000000 in
theorem has_walk (nm f:ByteArray) (r:Int) (ha:∀ b ∈ f.data.toList,b.toNat < 128) (w:World) :
 Calls Try.prog 185 #[.agg #[.string nm,.string f],.int .i32 r] w fun e w'=>e=.returned (.bool (hasB f r)) ∧ ∃ w1,Grew w w1 ∧ Grew w1 w':=by
 go_enter Try.func185,Try.ntmps185
 go_wp2
 generalize hW:w.alloc (Obj.cells #[Value.string nm,Value.string f] 242)=W
 have hs:w.heap.size + 1=W.heap.size:=by rw [← hW];exact (Array.size_push _).symm
 rw [hs]
 go_loopw [6] (fun v w'=>∃ pos:Nat,w'=W.iter f pos ∧ hasFrom f r pos=hasB f r) (fun _ w'=>f.size - w'.iterPos W.heap.size)
 case atStart=>exact ⟨0,rfl,rfl⟩
 case round =>
  obtain ⟨pos,rfl,hp⟩:=hrel
  by_cases hlt:pos < f.size
  ·have h128:(f[pos]'hlt).toNat < 128:=ha _ (List.mem_of_getElem? (get_byte hlt))
   rw [hasFrom_step (get_byte hlt)] at hp
   have hnx:∀ ty,(Instr.next (.pointer (some ⟨W.heap.size,0,none⟩)) true ty).run Try.prog (W.iter f pos)=_:=fun ty=>run_next_ascii W f pos ty hlt h128
   clear ha
   go_wp2
   ·rename_i hb
    go_ret
    have e:((f[pos]'hlt).toNat:Int)=r:=by simpa using hb
    rw [← hp,decide_eq_true e,← hW]
    exact ⟨rfl,grew_iter _ _ _ _⟩
   ·rename_i hb
    have e:¬ ((f[pos]'hlt).toNat:Int)=r:=by simpa using hb
    rw [decide_eq_false e,Bool.false_or] at hp
    go_roundw
    case rel=>exact ⟨pos + 1,rfl,hp⟩
    case measure =>
     rw [World.iterPos_iter,World.iterPos_iter]
     omega
  ·have hnx:∀ ty,(Instr.next (.pointer (some ⟨W.heap.size,0,none⟩)) true ty).run Try.prog (W.iter f pos)=_:=fun ty=>run_next_end W f pos ty hlt
   clear ha
   go_wp2
   go_ret
   rw [← hp,hasFrom_end hlt,← hW]
   exact ⟨rfl,grew_iter _ _ _ _⟩
theorem snil_nil {P:Program} {t e:Nat} (hu:P.underlying t=some (.slice e)) (w:World):(binOp .eql t (.slice none 0 0) (.slice none 0 0)).run P w=.ok (.bool true) w:=by
 have heq:∀ n,(Op.equalIn (n + 1) t (.slice none 0 0) (.slice none 0 0)).run P w=.ok true w:=fun n=>by simp [Op.equalIn,run_underlying hu]
 simp [binOp,Op.equal,Op.maxDepth,heq]
theorem snil_some {P:Program} {t e:Nat} (hu:P.underlying t=some (.slice e)) (a:Addr) (n c:Nat) (w:World):(binOp .eql t (.slice (some a) n c) (.slice none 0 0)).run P w=.ok (.bool false) w:=by
 have heq:∀ k,(Op.equalIn (k + 1) t (.slice (some a) n c) (.slice none 0 0)).run P w=.ok false w:=fun n=>by simp [Op.equalIn,run_underlying hu]
 simp [binOp,Op.equal,Op.maxDepth,heq]
set_option maxRecDepth 100000
theorem clone_nilI (w:World):Calls Try.prog 68 #[.slice none 0 0] w fun e w'=>e=.returned (.slice none 0 0) ∧ w'=w:=by
 have h1:=snil_nil (P:=Try.prog) Try.underlying31
 go_enter Try.func68,Try.ntmps68
 go_wp2
 go_ret
 exact ⟨rfl,rfl⟩
theorem clone_empI (w:World) (a:Addr) (c:Nat):Calls Try.prog 68 #[.slice (some a) 0 c] w fun e w'=>e=.returned (.slice (some ⟨w.heap.size,0,none⟩) 0 0) ∧ Grew w w':=by
 have h1:=snil_some (P:=Try.prog) Try.underlying31 a 0 c
 go_enter Try.func68,Try.ntmps68
 go_wp2
 go_ret
 exact ⟨rfl,grew_push w _ w.drawn⟩
theorem clone_nilW (w:World):Calls Try.prog 72 #[.slice none 0 0] w fun e w'=>e=.returned (.slice none 0 0) ∧ w'=w:=by
 have h1:=snil_nil (P:=Try.prog) Try.underlying57
 go_enter Try.func72,Try.ntmps72
 go_wp2
 go_ret
 exact ⟨rfl,rfl⟩
theorem clone_empW (w:World) (a:Addr) (c:Nat):Calls Try.prog 72 #[.slice (some a) 0 c] w fun e w'=>e=.returned (.slice (some ⟨w.heap.size,0,none⟩) 0 0) ∧ Grew w w':=by
 have h1:=snil_some (P:=Try.prog) Try.underlying57 a 0 c
 go_enter Try.func72,Try.ntmps72
 go_wp2
 go_ret
 exact ⟨rfl,grew_push w _ w.drawn⟩
end Go.Sim.Vm
namespace Go.Sim.Vm
open Go Go.Sim
def asciiB (f:ByteArray):Bool:=f.data.toList.all fun b=>decide (b.toNat < 128)
def hasOv (args:List AV) (s:Sg):Option (List AV × Sg) :=
 match args with
 | [.agg [.lit (.string nm),.lit (.string f)],.lit (.int .i32 r)]=>if asciiB f=true then some ([.lit (.bool (hasB f r))],s) else none
 | _=>none
def ov (n:Nat):Option (List AV → Sg → Option (List AV × Sg)) :=
 if n=N185_ then some hasOv else if n=N68_ then some (cloneOv 1 8) else if n=N72_ then some (cloneOv 2 16) else none
def p:Pg:=⟨fnOf,ov⟩
def xhasOv (args:List AV) (s:XS):Option (List AV × XS) :=
 match args with
 | [.agg [.lit (.string nm),.lit (.string f)],.lit (.int .i32 r)]=>(match asciiB f with
   | true=>fB (hasB f r) fun b=>some ([.lit (.bool b)],s)
   | false=>none)
 | _=>none
def xcloneOv (sz by_:Nat) (args:List AV) (s:XS):Option (List AV × XS) :=
 match args with
 | [.slice o sz' []]=>if sz'=sz then some ([.slice .full sz []],s) else none
 | [.slice o sz' (x :: xs)]=>if sz'=sz ∧ (xs.length + 1) * by_ ≤ 2 ^ 47 then some ([.slice .none sz (x :: xs)],s) else none
 | [.ms g off len sz']=>if sz'=sz then (if len=0 then some ([.slice .full sz []],s) else (toE s.mu g).bind fun cs=>if off + len * sz ≤ cs.length ∧ len * by_ ≤ 2 ^ 47 then
    fAs ((cs.drop off).take (len * sz)) fun cs=>xmnew (some cs) s fun s'=>fA dp (.ms s.mn 0 len sz) fun v=>some ([v],s') else none) else none
 | _=>none
def xov (n:Nat):Option (List AV → XS → Option (List AV × XS)) :=
 if n=N185_ then some xhasOv else if n=N68_ then some (xcloneOv 1 8) else if n=N72_ then some (xcloneOv 2 16) else none
def xp:XPg:=⟨fnOf,xov⟩
theorem xhas_ok {q:Nat → Nat → Option AV} (a:List AV) (s:XS) (r:List AV × XS) (h:xhasOv a s=some r):hasOv a (toSg q s)=some (r.1,toSg q r.2):=by
 unfold xhasOv at h
 unfold hasOv
 split at h
 ·split at h
  ·rename_i e
   rw [if_pos e]
   simp only [fB_eq,Option.some.injEq] at h
   subst h
   rfl
  ·cases h
 ·cases h
theorem xclone_ok {q:Nat → Nat → Option AV} {sz by_:Nat} (a:List AV) (s:XS) (r:List AV × XS) (h:xcloneOv sz by_ a s=some r):cloneOv sz by_ a (toSg q s)=some (r.1,toSg q r.2):=by
 unfold xcloneOv at h
 split at h
 ·simp only [cloneOv]
  split at h
  ·rename_i e
   rw [if_pos e]
   cases h;rfl
  ·cases h
 ·simp only [cloneOv]
  split at h
  ·rename_i e
   rw [if_pos e]
   cases h;rfl
  ·cases h
 ·simp only [cloneOv]
  split at h
  ·rename_i e
   rw [if_pos e]
   split at h
   ·rename_i e0
    rw [if_pos e0]
    cases h;rfl
   ·rename_i e0
    rw [if_neg e0]
    obtain ⟨cs,h1,h⟩:=Option.bind_eq_some_iff.1 h
    rw [show (toSg q s).mu _=some cs from h1]
    simp only [Option.bind_some]
    split at h
    ·rename_i hb
     rw [if_pos hb]
     simp only [fAs_eq] at h
     obtain ⟨s',h,h2⟩:=xmnew_eq (q:=q) h
     simp only [fA_eq,Option.some.injEq] at h
     subst h
     simp only [h2]
     rfl
    ·cases h
  ·cases h
 ·cases h
theorem xp_ok {q:Nat → Nat → Option AV}:XPOK q xp p:=by
 refine ⟨fun f=>rfl,fun f h=>?_,fun f g h=>?_⟩
 ·have h:xov f=none:=h
  show ov f=none
  unfold xov at h
  unfold ov
  split at h
  ·cases h
  ·rename_i e;rw [if_neg e]
   split at h
   ·cases h
   ·rename_i e;rw [if_neg e]
    split at h
    ·cases h
    ·rename_i e;rw [if_neg e]
 ·have h:xov f=some g:=h
  show ∃ g',ov f=some g' ∧ _
  unfold xov at h
  unfold ov
  split at h
  ·rename_i e;rw [if_pos e];cases h;exact ⟨_,rfl,xhas_ok⟩
  ·rename_i e;rw [if_neg e]
   split at h
   ·rename_i e;rw [if_pos e];cases h;exact ⟨_,rfl,xclone_ok⟩
   ·rename_i e;rw [if_neg e]
    split at h
    ·rename_i e;rw [if_pos e];cases h;exact ⟨_,rfl,xclone_ok⟩
    ·cases h
end Go.Sim.Vm
namespace Go.Sim.Vm
open Go Go.Sim Go.Proofs
theorem all_ok:tab.all (fun x=>mF Try.prog x.1 x.2)=true:=by kernel_rfl
theorem mix_ok:Try.prog.follows .mixedOrders=true:=by kernel_rfl
theorem cloneI_ok:OvOK Try.prog N68_ (cloneOv 1 8):=clone_ok mix_ok (by kernel_rfl) (by kernel_rfl) clone_nilI clone_empI
theorem cloneW_ok:OvOK Try.prog N72_ (cloneOv 2 16):=clone_ok mix_ok (by kernel_rfl) (by kernel_rfl) clone_nilW clone_empW
theorem enters_has:Enters Try.prog N185_:=⟨_,Try.func185,by kernel_rfl,of_decide_eq_true (by kernel_rfl)⟩
theorem has_ok:OvOK Try.prog N185_ hasOv:=by
 intro args s res s' he G w vs hw hB hv hn
 unfold hasOv at he
 split at he
 ·rename_i nm f r
  split at he
  ·rename_i ha
   cases he
   refine ⟨enters_has,?_⟩
   simp only [VRs] at hv
   obtain ⟨v1,r1,rfl,h1,v2,r2,rfl,h2,rfl⟩:=hv
   simp only [VR] at h1 h2
   obtain ⟨us,rfl,h1,_⟩:=h1
   simp only [VRs,VR] at h1
   obtain ⟨u1,t1,rfl,⟨rfl,_⟩,u2,t2,rfl,⟨rfl,_⟩,rfl⟩:=h1
   obtain ⟨rfl,_⟩:=h2
   refine (has_walk nm f r (fun b hb=>of_decide_eq_true (List.all_eq_true.1 ha b hb)) w).mono ?_
   rintro e w' ⟨rfl,w1,g1,g2⟩
   have hR:=(((RR.start (n:=0) (args:=[]) (vs:=[]) hw hB rfl (Nat.le_refl 0)).1.grow g1).grow g2)
   exact ⟨[.bool _],G,rfl,hR.wi,hB,by simp only [VRs];exact ⟨_,[],rfl,(by unfold VR;exact ⟨rfl,rfl⟩),rfl⟩,rfl,hR.pres⟩
  ·cases he
 ·cases he
theorem pg_ok:PgOK Try.prog p:=by
 refine ⟨mix_ok,?_,?_⟩
 ·intro f fn h
  have h':fnOf f=some fn:=h
  unfold fnOf at h'
  obtain ⟨x,hx,rfl⟩:=Option.map_eq_some_iff.1 h'
  have h1:=List.find?_some hx
  have h2:=List.mem_of_find?_eq_some hx
  have e:x.1=f:=by simpa using h1
  rw [← e]
  exact List.all_eq_true.1 all_ok x h2
 ·intro f g h
  have h':ov f=some g:=h
  unfold ov at h'
  split at h'
  ·rename_i e;subst e;cases h';exact has_ok
  ·split at h'
   ·rename_i e;subst e;cases h';exact cloneI_ok
   ·split at h'
    ·rename_i e;subst e;cases h';exact cloneW_ok
    ·cases h'
end Go.Sim.Vm
