/-
  A part of a proof: see the last text of this claim.
-/
import Derived.Test.YthmnidlbohgmiaaPB
import Derived.Lib.IndexMore
set_option linter.unusedVariables false
set_option linter.unusedSimpArgs false
namespace Go.Sim
open Go
structure Arg where
 ty:Int
 co:Bool
structure Xtor where
 name:ByteArray
 args:List Arg
structure Decl where
 name:ByteArray
 codata:Bool
 xtors:List Xtor
mutual
inductive Node
 | mk (op n ty:Int) (args:List Node) (brs:List Br)
inductive Br
 | mk (vars:List Int) (co:List Bool) (body:Node)
end
structure CFun where
 name:ByteArray
 params:List Arg
 vars:List Int
 body:Node
structure Core where
 decls:List Decl
 funs:List CFun
def Node.op:Node → Int | .mk op _ _ _ _=>op
def Node.n:Node → Int | .mk _ n _ _ _=>n
def Node.ty:Node → Int | .mk _ _ ty _ _=>ty
def Node.args:Node → List Node | .mk _ _ _ args _=>args
def Node.brs:Node → List Br | .mk _ _ _ _ brs=>brs
def Br.vars:Br → List Int | .mk v _ _=>v
def Br.co:Br → List Bool | .mk _ c _=>c
def Br.body:Br → Node | .mk _ _ b=>b
abbrev SL (sz:Nat) (xs:List AV):AV:=.slice .none sz xs
abbrev ints (l:List Int):AV:=SL 1 (l.map I)
abbrev bools (l:List Bool):AV:=SL 1 (l.map B)
def Arg.enc (a:Arg):AV:=.agg [I a.ty,B a.co]
abbrev encArgs (l:List Arg):AV:=SL 2 (l.map Arg.enc)
def Xtor.enc (x:Xtor):AV:=.agg [Str x.name,encArgs x.args]
def Decl.enc (d:Decl):AV:=.agg [Str d.name,B d.codata,SL 2 (d.xtors.map Xtor.enc)]
mutual
def Node.enc:Node → AV
 | .mk op n ty args brs=>.agg [I op,I n,I ty,SL 5 (encNs args),SL 7 (encBs brs)]
def encNs:List Node → List AV
 | []=>[]
 | a :: as=>a.enc :: encNs as
def Br.enc:Br → AV
 | .mk vars co body=>.agg (ints vars :: bools co :: body.enc.cells)
def encBs:List Br → List AV
 | []=>[]
 | a :: as=>a.enc :: encBs as
end
def CFun.enc (f:CFun):AV:=.agg (Str f.name :: encArgs f.params :: ints f.vars :: f.body.enc.cells)
def Core.enc (c:Core):AV:=.agg [SL 3 (c.decls.map Decl.enc),SL 8 (c.funs.map CFun.enc)]
theorem encNs_eq (l:List Node):encNs l=l.map Node.enc:=by induction l with
 | nil=>rfl
 | cons a l ih=>simp [encNs,ih]
theorem encBs_eq (l:List Br):encBs l=l.map Br.enc:=by induction l with
 | nil=>rfl
 | cons a l ih=>simp [encBs,ih]
def Node.cs (a:Node):List AV:=[I a.op,I a.n,I a.ty,SL 5 (a.args.map Node.enc),SL 7 (a.brs.map Br.enc)]
theorem Node.enc_eq (a:Node):a.enc=.agg a.cs:=by
 cases a
 simp only [Node.enc,encNs_eq,encBs_eq]
 rfl
theorem Node.enc_cells (a:Node):a.enc.cells=a.cs:=by rw [a.enc_eq];rfl
theorem Br.enc_eq (b:Br):b.enc=.agg (ints b.vars :: bools b.co :: b.body.cs):=by
 cases b
 simp only [Br.enc,Node.enc_cells]
 rfl
theorem CFun.enc_eq (f:CFun):f.enc=.agg (Str f.name :: encArgs f.params :: ints f.vars :: f.body.cs):=by
 unfold CFun.enc
 rw [Node.enc_cells]
def Arg.sz (_:Arg):Nat:=1
def Xtor.sz (x:Xtor):Nat:=1 + x.name.size + x.args.length
def szL {α:Type} (f:α → Nat):List α → Nat
 | []=>0
 | a :: as=>f a + szL f as
def Decl.sz (d:Decl):Nat:=1 + d.name.size + szL Xtor.sz d.xtors
mutual
def Node.sz:Node → Nat
 | .mk _ _ _ args brs=>1 + szNs args + szBs brs
def szNs:List Node → Nat
 | []=>0
 | a :: as=>a.sz + szNs as
def Br.sz:Br → Nat
 | .mk vars co body=>1 + vars.length + co.length + body.sz
def szBs:List Br → Nat
 | []=>0
 | a :: as=>a.sz + szBs as
end
def CFun.sz (f:CFun):Nat:=1 + f.name.size + f.params.length + f.vars.length + f.body.sz
def Core.sz (c:Core):Nat:=1 + szL Decl.sz c.decls + szL CFun.sz c.funs
theorem szNs_mem {l:List Node} {a:Node} (h:a ∈ l):a.sz ≤ szNs l:=by induction l with
 | nil=>cases h
 | cons b l ih =>
   simp only [szNs]
   cases h with
   | head=>omega
   | tail _ h=>have:=ih h;omega
theorem szBs_mem {l:List Br} {a:Br} (h:a ∈ l):a.sz ≤ szBs l:=by induction l with
 | nil=>cases h
 | cons b l ih =>
   simp only [szBs]
   cases h with
   | head=>omega
   | tail _ h=>have:=ih h;omega
theorem szL_mem {α:Type} {f:α → Nat} {l:List α} {a:α} (h:a ∈ l):f a ≤ szL f l:=by induction l with
 | nil=>cases h
 | cons b l ih =>
   simp only [szL]
   cases h with
   | head=>omega
   | tail _ h=>have:=ih h;omega
theorem szL_len {α:Type} {f:α → Nat} {l:List α} (hf:∀ a,1 ≤ f a):l.length ≤ szL f l:=by induction l with
 | nil=>simp [szL]
 | cons b l ih=>simp only [szL,List.length_cons];have:=hf b;omega
theorem Node.sz_pos (a:Node):1 ≤ a.sz:=by cases a;simp only [Node.sz];omega
theorem Br.sz_pos (a:Br):1 ≤ a.sz:=by cases a;simp only [Br.sz];omega
theorem szNs_len (l:List Node):l.length ≤ szNs l:=by induction l with
 | nil=>simp [szNs]
 | cons b l ih=>simp only [szNs,List.length_cons];have:=b.sz_pos;omega
theorem szBs_len (l:List Br):l.length ≤ szBs l:=by induction l with
 | nil=>simp [szBs]
 | cons b l ih=>simp only [szBs,List.length_cons];have:=b.sz_pos;omega
theorem Node.sz_arg {a b:Node} (h:b ∈ a.args):b.sz < a.sz:=by cases a;simp only [Node.sz];have:=szNs_mem h;simp only [Node.args] at this;omega
theorem Node.sz_br {a:Node} {b:Br} (h:b ∈ a.brs):b.sz < a.sz:=by cases a;simp only [Node.sz];have:=szBs_mem h;simp only [Node.brs] at this;omega
theorem Br.sz_body (b:Br):b.body.sz < b.sz:=by cases b;simp only [Br.sz,Br.body];omega
theorem Node.sz_args (a:Node):a.args.length < a.sz:=by cases a;simp only [Node.sz,Node.args];have:=szNs_len ‹List Node›;omega
theorem Node.sz_brs (a:Node):a.brs.length < a.sz:=by cases a;simp only [Node.sz,Node.brs];have:=szBs_len ‹List Br›;omega
theorem Br.sz_vars (b:Br):b.vars.length < b.sz:=by cases b;simp only [Br.sz,Br.vars];omega
theorem Br.sz_co (b:Br):b.co.length < b.sz:=by cases b;simp only [Br.sz,Br.co];omega
theorem Node.ind {P:Node → Prop} (h:∀ a:Node,(∀ b ∈ a.args,P b) → (∀ b ∈ a.brs,P b.body) → P a) (a:Node):P a:=by
 generalize hn:a.sz=n
 induction n using Nat.strongRecOn generalizing a with
 | _ n ih =>
   subst hn
   refine h a (fun b hb=>ih _ (Node.sz_arg hb) b rfl) (fun b hb=>ih _ ?_ b.body rfl)
   have:=Node.sz_br hb
   have:=b.sz_body
   omega
end Go.Sim
namespace Go.Sim.Kd
open Go Go.Sim
def ii (n:Nat) (o:AOp):AIns:=⟨some n,none,o⟩
def N5_:Nat:=5
def N10_:Nat:=10
def N11_:Nat:=11
def N12_:Nat:=12
def N15_:Nat:=15
def N16_:Nat:=16
def N20_:Nat:=20
def N21_:Nat:=21
def N22_:Nat:=22
def N23_:Nat:=23
def N24_:Nat:=24
def N43_:Nat:=43
def N44_:Nat:=44
def N45_:Nat:=45
def N53_:Nat:=53
def N54_:Nat:=54
def N55_:Nat:=55
def N56_:Nat:=56
def N57_:Nat:=57
def N64_:Nat:=64
def N65_:Nat:=65
def N66_:Nat:=66
def N67_:Nat:=67
def N88_:Nat:=88
def N89_:Nat:=89
def N90_:Nat:=90
def N91_:Nat:=91
def N92_:Nat:=92
def N93_:Nat:=93
def N94_:Nat:=94
def N95_:Nat:=95
def N105_:Nat:=105
def N106_:Nat:=106
def N107_:Nat:=107
def N108_:Nat:=108
def N109_:Nat:=109
def N110_:Nat:=110
def N111_:Nat:=111
def N112_:Nat:=112
def N113_:Nat:=113
def N138_:Nat:=138
def N139_:Nat:=139
def N140_:Nat:=140
def N141_:Nat:=141
def N142_:Nat:=142
def N143_:Nat:=143
def N144_:Nat:=144
def N145_:Nat:=145
def N146_:Nat:=146
def N147_:Nat:=147
def N148_:Nat:=148
def N149_:Nat:=149
def N150_:Nat:=150
def N151_:Nat:=151
def N160_:Nat:=160
def N161_:Nat:=161
def F5_r0:List AIns:=[ii 5 (.box true (.t 0)),
 ii 8 (.box true (.t 3)),
 ii 9 (.box true (.t 4)),
 ii 10 (.mv (.c (.lit (.bool false))))]
def F5_r1:List AIns:=[ii 18 (.ld false (some 2) (.t 5)),
 ii 19 (.call (.f N10_) [(.t 18),(.c (.lit (.int .i64 3000)))]),
 ii 20 (.unot (.t 19)),
 ii 21 (.mv (.t 20)),
 ⟨some 22,(some (21,false)),.ld false (some 5) (.t 9)⟩,
 ⟨some 23,(some (21,false)),.call (.f N15_) [(.t 22),(.c (.lit (.int .i64 3000)))]⟩,
 ⟨some 24,(some (21,false)),.unot (.t 23)⟩,
 ii 25 (.pick (.t 21) (.c (.lit (.bool true))) (.t 24)),
 ii 26 (.mv (.t 25)),
 ⟨some 27,(some (26,false)),.mv (.t 1)⟩,
 ⟨some 28,(some (26,false)),.len false (.t 27)⟩,
 ⟨some 29,(some (26,false)),.mv (.t 2)⟩,
 ⟨some 30,(some (26,false)),.len false (.t 29)⟩,
 ⟨some 31,(some (26,false)),.bin .add (.t 28) (.t 30)⟩,
 ⟨some 32,(some (26,false)),.iaa 2 1 (.t 8) (.c (.lit (.int .i64 0)))⟩,
 ⟨some 33,(some (26,false)),.ld false none (.t 32)⟩,
 ⟨some 34,(some (26,false)),.len false (.t 33)⟩,
 ⟨some 35,(some (26,false)),.bin .add (.t 31) (.t 34)⟩,
 ⟨some 36,(some (26,false)),.iaa 2 1 (.t 8) (.c (.lit (.int .i64 1)))⟩,
 ⟨some 37,(some (26,false)),.ld false none (.t 36)⟩,
 ⟨some 38,(some (26,false)),.len false (.t 37)⟩,
 ⟨some 39,(some (26,false)),.bin .add (.t 35) (.t 38)⟩,
 ⟨some 40,(some (26,false)),.bin .gtr (.t 39) (.c (.lit (.int .i64 3000)))⟩,
 ii 41 (.pick (.t 26) (.c (.lit (.bool true))) (.t 40))]
def F5_r2:List AIns:=[ii 42 (.call (.f N11_) []),
 ii 10 (.mv (.t 42))]
def F5_r3:List AIns:=[ii 43 (.ld false (some 2) (.t 5)),
 ii 44 (.call (.f N20_) [(.t 43)]),
 ii 45 (.ld false (some 5) (.t 9)),
 ii 46 (.call (.f N21_) [(.t 45)]),
 ii 11 (.alloc true [.slice .full 3 [],.slice .full 8 []]),
 ii 12 (.alloc true [.lit (.int .i64 0),.lit (.int .i64 0),.lit (.int .i64 0),.slice .full 5 [],.slice .full 7 []]),
 ⟨none,none,.st false 2 (.t 11) (.t 44)⟩,
 ⟨none,none,.st false 5 (.t 12) (.t 46)⟩]
def F5_r4:List AIns:=[ii 47 (.mv (.t 1)),
 ii 48 (.app 1 8 (.c (.slice .full 1 [])) (.t 47)),
 ii 49 (.mv (.t 2)),
 ii 50 (.app 1 8 (.c (.slice .full 1 [])) (.t 49)),
 ii 13 (.mv (.t 48)),
 ii 14 (.mv (.t 50))]
def F5_r5:List AIns:=[ii 51 (.iaa 2 1 (.t 8) (.c (.lit (.int .i64 0)))),
 ii 52 (.ld false none (.t 51)),
 ii 53 (.app 1 8 (.c (.slice .full 1 [])) (.t 52)),
 ii 54 (.iaa 2 1 (.t 8) (.c (.lit (.int .i64 1)))),
 ii 55 (.ld false none (.t 54)),
 ii 56 (.app 1 8 (.c (.slice .full 1 [])) (.t 55)),
 ii 15 (.mv (.t 53)),
 ii 16 (.mv (.t 56))]
def F5_r6:List AIns:=[ii 57 (.ld false (some 2) (.t 5)),
 ii 58 (.call (.f N12_) [(.t 57)])]
def F5_r7:List AIns:=[ii 59 (.ld false (some 2) (.t 5)),
 ii 60 (.mv (.t 1)),
 ii 61 (.mv (.t 2)),
 ii 62 (.ld false (some 2) (.t 8)),
 ii 63 (.ld false (some 5) (.t 9)),
 ii 64 (.call (.f N16_) [(.t 59),(.t 60),(.t 61),(.t 62),(.t 63)])]
def F5_r8:List AIns:=[ii 17 (.mv (.f N22_))]
def F5_r9:List AIns:=[ii 65 (.ld false (some 2) (.t 11)),
 ii 66 (.ld false (some 2) (.t 5)),
 ii 67 (.call (.f N23_) [(.t 65),(.t 66)]),
 ii 68 (.mv (.t 67)),
 ⟨some 69,(some (68,true)),.ld false (some 5) (.t 12)⟩,
 ⟨some 70,(some (68,true)),.ld false (some 5) (.t 9)⟩,
 ⟨some 71,(some (68,true)),.call (.f N24_) [(.t 69),(.t 70)]⟩,
 ii 72 (.pick (.t 68) (.t 71) (.c (.lit (.bool false)))),
 ii 73 (.mv (.t 72)),
 ⟨some 74,(some (73,true)),.mv (.t 17)⟩,
 ⟨some 75,(some (73,true)),.mv (.t 13)⟩,
 ⟨some 76,(some (73,true)),.mv (.t 1)⟩,
 ⟨some 77,(some (73,true)),.call (.t 74) [(.t 75),(.t 76)]⟩,
 ii 78 (.pick (.t 73) (.t 77) (.c (.lit (.bool false)))),
 ii 79 (.mv (.t 78)),
 ⟨some 80,(some (79,true)),.mv (.t 17)⟩,
 ⟨some 81,(some (79,true)),.mv (.t 14)⟩,
 ⟨some 82,(some (79,true)),.mv (.t 2)⟩,
 ⟨some 83,(some (79,true)),.call (.t 80) [(.t 81),(.t 82)]⟩,
 ii 84 (.pick (.t 79) (.t 83) (.c (.lit (.bool false)))),
 ii 85 (.mv (.t 84)),
 ⟨some 86,(some (85,true)),.mv (.t 17)⟩,
 ⟨some 87,(some (85,true)),.mv (.t 15)⟩,
 ⟨some 88,(some (85,true)),.iaa 2 1 (.t 8) (.c (.lit (.int .i64 0)))⟩,
 ⟨some 89,(some (85,true)),.ld false none (.t 88)⟩,
 ⟨some 90,(some (85,true)),.call (.t 86) [(.t 87),(.t 89)]⟩,
 ii 91 (.pick (.t 85) (.t 90) (.c (.lit (.bool false)))),
 ii 92 (.mv (.t 91)),
 ⟨some 93,(some (92,true)),.mv (.t 17)⟩,
 ⟨some 94,(some (92,true)),.mv (.t 16)⟩,
 ⟨some 95,(some (92,true)),.iaa 2 1 (.t 8) (.c (.lit (.int .i64 1)))⟩,
 ⟨some 96,(some (92,true)),.ld false none (.t 95)⟩,
 ⟨some 97,(some (92,true)),.call (.t 93) [(.t 94),(.t 96)]⟩,
 ii 98 (.pick (.t 92) (.t 97) (.c (.lit (.bool false)))),
 ii 99 (.mv (.t 98)),
 ⟨some 100,(some (99,true)),.call (.f N11_) []⟩,
 ii 101 (.pick (.t 99) (.t 100) (.c (.lit (.bool false)))),
 ii 10 (.mv (.t 101))]
def F5_:AFun:=⟨5,.seq (.reg F5_r0 [] [1,2,5,8,9] [5,8,9]) (.seq (.seq (.reg F5_r1 [] [1,2,5,8,9,41] [5,8,9]) (.cond (.t 41) (.seq (.reg F5_r2 [] [10] []) (.ret)) (.skip))) (.seq (.reg F5_r3 [11,12] [1,2,5,8,9,11,12] [5,8,9,11,12]) (.seq (.reg F5_r4 [] [1,2,5,8,9,11,12,13,14] [5,8,9,11,12]) (.seq (.reg F5_r5 [] [1,2,5,8,9,11,12,13,14,15,16] [5,8,9,11,12]) (.seq (.reg F5_r6 [] [1,2,5,8,9,11,12,13,14,15,16] [5,8,9,11,12]) (.seq (.reg F5_r7 [] [1,2,5,8,9,11,12,13,14,15,16] [5,8,9,11,12]) (.seq (.reg F5_r8 [] [1,2,5,8,9,11,12,13,14,15,16,17] [5,8,9,11,12]) (.seq (.reg F5_r9 [] [10] []) (.ret))))))))),[.t 10]⟩
def F10_r0:List AIns:=[ii 2 (.box true (.t 0)),
 ii 4 (.mv (.c (.lit (.bool false))))]
def F10_r1:List AIns:=[ii 7 (.fa 0 (.t 2)),
 ii 8 (.ld false none (.t 7)),
 ii 9 (.len false (.t 8)),
 ii 10 (.bin .gtr (.t 9) (.c (.lit (.int .i64 40)))),
 ii 11 (.mv (.t 10)),
 ⟨some 12,(some (11,false)),.fa 1 (.t 2)⟩,
 ⟨some 13,(some (11,false)),.ld false none (.t 12)⟩,
 ⟨some 14,(some (11,false)),.len false (.t 13)⟩,
 ⟨some 15,(some (11,false)),.bin .gtr (.t 14) (.c (.lit (.int .i64 40)))⟩,
 ii 16 (.pick (.t 11) (.c (.lit (.bool true))) (.t 15))]
def F10_r2:List AIns:=[ii 4 (.mv (.c (.lit (.bool false))))]
def F10_r3:List AIns:=[ii 17 (.fa 1 (.t 2)),
 ii 18 (.ld false none (.t 17)),
 ii 19 (.len false (.t 18)),
 ii 20 (.mv (.c (.lit (.int .i64 0))))]
def F10_r4:List AIns:=[ii 21 (.bin .lss (.t 20) (.t 19))]
def F10_r5:List AIns:=[ii 22 (.ia 8 (.t 18) (.t 20)),
 ii 23 (.ld false (some 8) (.t 22)),
 ii 6 (.alloc true [.lit (.string ⟨#[]⟩),.slice .full 2 [],.slice .full 1 [],.lit (.int .i64 0),.lit (.int .i64 0),.lit (.int .i64 0),.slice .full 5 [],.slice .full 7 []]),
 ⟨none,none,.st false 8 (.t 6) (.t 23)⟩]
def F10_r6:List AIns:=[ii 24 (.fa 3 (.t 6)),
 ii 25 (.ld false (some 5) (.t 24)),
 ii 26 (.mv (.t 1)),
 ii 27 (.call (.f N15_) [(.t 25),(.t 26)]),
 ii 28 (.unot (.t 27))]
def F10_r7:List AIns:=[ii 4 (.mv (.c (.lit (.bool false))))]
def F10_r8:List AIns:=[ii 29 (.bin .add (.t 20) (.c (.lit (.int .i64 1)))),
 ii 20 (.mv (.t 29))]
def F10_l1:AC:=.seq (.reg F10_r4 [] [1,18,19,20,21] []) (.seq (.cond (.t 21) (.skip) (.exit 0)) (.seq (.block 1 (.seq (.reg F10_r5 [] [1,6,18,19,20] [6]) (.seq (.reg F10_r6 [] [1,18,19,20,28] []) (.cond (.t 28) (.seq (.reg F10_r7 [] [4] []) (.ret)) (.skip))))) (.reg F10_r8 [] [1,18,19,20] [])))
def F10_r9:List AIns:=[ii 4 (.mv (.c (.lit (.bool true))))]
def F10_:AFun:=⟨2,.seq (.reg F10_r0 [] [1,2] [2]) (.seq (.seq (.reg F10_r1 [] [1,2,16] [2]) (.cond (.t 16) (.seq (.reg F10_r2 [] [4] []) (.ret)) (.skip))) (.seq (.seq (.reg F10_r3 [] [1,18,19,20] []) (.block 0 (.loop F10_l1))) (.seq (.reg F10_r9 [] [4] []) (.ret)))),[.t 4]⟩
def F11_r0:List AIns:=[ii 0 (.mv (.c (.lit (.bool false))))]
def F11_r1:List AIns:=[ii 7 (.build [.lit (.string ⟨#[]⟩),.slice .full 2 []] [(0,1,(.c (.lit (.string ⟨#[78,105,108]⟩))))]),
 ii 8 (.bsl 2 [(.t 7)]),
 ii 9 (.build [.lit (.string ⟨#[]⟩),.lit (.bool false),.slice .full 2 []] [(0,1,(.c (.lit (.string ⟨#[108,105,115,116]⟩)))),(2,1,(.t 8))]),
 ii 10 (.bsl 3 [(.t 9)]),
 ii 1 (.alloc false [.slice .full 3 []]),
 ⟨none,none,.st true 1 (.t 1) (.t 10)⟩]
def F11_r2:List AIns:=[ii 11 (.build [.lit (.int .i64 0),.lit (.int .i64 0),.lit (.int .i64 0),.slice .full 5 [],.slice .full 7 []] [(0,1,(.c (.lit (.int .i64 0))))]),
 ii 12 (.bsl 5 [(.t 11)]),
 ii 13 (.build [.lit (.int .i64 0),.lit (.int .i64 0),.lit (.int .i64 0),.slice .full 5 [],.slice .full 7 []] [(0,1,(.c (.lit (.int .i64 14)))),(3,1,(.t 12))]),
 ii 14 (.bsl 5 [(.t 13)]),
 ii 15 (.build [.lit (.int .i64 0),.lit (.int .i64 0),.lit (.int .i64 0),.slice .full 5 [],.slice .full 7 []] [(0,1,(.c (.lit (.int .i64 7)))),(3,1,(.t 14))]),
 ii 2 (.alloc false [.lit (.int .i64 0),.lit (.int .i64 0),.lit (.int .i64 0),.slice .full 5 [],.slice .full 7 []]),
 ⟨none,none,.st true 5 (.t 2) (.t 15)⟩]
def F11_r3:List AIns:=[ii 16 (.mkf N43_ [] [(.t 1),(.t 2)]),
 ii 3 (.mv (.t 16))]
def F11_r4:List AIns:=[ii 17 (.mv (.t 3)),
 ii 18 (.build [.lit (.int .i64 0),.lit (.int .i64 0),.lit (.int .i64 0),.slice .full 5 [],.slice .full 7 []] [(0,1,(.c (.lit (.int .i64 1)))),(1,1,(.c (.lit (.int .i64 3))))]),
 ii 19 (.call (.t 17) [(.t 18)]),
 ii 4 (.alloc true [.slice .full 3 [],.slice .full 8 []]),
 ⟨none,none,.st false 2 (.t 4) (.t 19)⟩]
def F11_r5:List AIns:=[ii 21 (.ld false (some 2) (.t 4)),
 ii 22 (.bsl 1 [(.c (.lit (.int .i64 4))),(.c (.lit (.int .i64 4)))]),
 ii 23 (.bsl 1 [(.c (.lit (.int .i64 0))),(.c (.lit (.int .i64 1)))]),
 ii 24 (.build [.slice .full 1 [],.slice .full 1 []] [(0,1,(.t 23)),(1,1,(.c (.slice .full 1 [])))]),
 ii 25 (.build [.lit (.int .i64 0),.lit (.int .i64 0),.lit (.int .i64 0),.slice .full 5 [],.slice .full 7 []] [(0,1,(.c (.lit (.int .i64 0)))),(1,1,(.c (.lit (.int .i64 4))))]),
 ii 26 (.call (.f N16_) [(.t 21),(.t 22),(.c (.slice .full 1 [])),(.t 24),(.t 25)]),
 ii 20 (.mv (.t 26)),
 ii 27 (.ext (.t 20) 0),
 ii 28 (.ext (.t 20) 1),
 ii 5 (.mv (.t 27)),
 ii 6 (.mv (.t 28))]
def F11_r6:List AIns:=[ii 29 (.ld false (some 2) (.t 4)),
 ii 30 (.call (.f N12_) [(.t 29)]),
 ii 31 (.bin .eql (.t 30) (.c (.lit (.int .i64 0)))),
 ii 32 (.mv (.t 31)),
 ⟨some 33,(some (32,true)),.mv (.t 3)⟩,
 ⟨some 34,(some (32,true)),.build [.lit (.int .i64 0),.lit (.int .i64 0),.lit (.int .i64 0),.slice .full 5 [],.slice .full 7 []] [(0,1,(.c (.lit (.int .i64 2)))),(2,1,(.c (.lit (.int .i64 1))))]⟩,
 ⟨some 35,(some (32,true)),.call (.t 33) [(.t 34)]⟩,
 ⟨some 36,(some (32,true)),.call (.f N12_) [(.t 35)]⟩,
 ⟨some 37,(some (32,true)),.bin .eql (.t 36) (.c (.lit (.int .i64 70)))⟩,
 ii 38 (.pick (.t 32) (.t 37) (.c (.lit (.bool false)))),
 ii 39 (.mv (.t 38)),
 ⟨some 40,(some (39,true)),.mv (.t 5)⟩,
 ⟨some 41,(some (39,true)),.bin .eql (.t 40) (.c (.lit (.int .i64 1)))⟩,
 ii 42 (.pick (.t 39) (.t 41) (.c (.lit (.bool false)))),
 ii 43 (.mv (.t 42)),
 ⟨some 44,(some (43,true)),.mv (.t 6)⟩,
 ⟨some 45,(some (43,true)),.bin .eql (.t 44) (.c (.lit (.int .i64 0)))⟩,
 ii 46 (.pick (.t 43) (.t 45) (.c (.lit (.bool false)))),
 ii 0 (.mv (.t 46))]
def F11_:AFun:=⟨0,.seq (.reg F11_r0 [] [] []) (.seq (.reg F11_r1 [] [1] []) (.seq (.reg F11_r2 [] [1,2] []) (.seq (.reg F11_r3 [] [3] []) (.seq (.reg F11_r4 [] [3,4] [4]) (.seq (.reg F11_r5 [] [3,4,5,6] [4]) (.seq (.reg F11_r6 [] [0] []) (.ret))))))),[.t 0]⟩
def F12_r0:List AIns:=[ii 1 (.box true (.t 0)),
 ii 2 (.mv (.c (.lit (.int .i64 0))))]
def F12_r1:List AIns:=[ii 3 (.ld false (some 2) (.t 1)),
 ii 4 (.call (.f N44_) [(.t 3)]),
 ii 5 (.unot (.t 4))]
def F12_r2:List AIns:=[ii 2 (.mv (.c (.lit (.int .i64 60))))]
def F12_r3:List AIns:=[ii 6 (.ld false (some 2) (.t 1)),
 ii 7 (.call (.f N45_) [(.t 6)]),
 ii 8 (.unot (.t 7))]
def F12_r4:List AIns:=[ii 2 (.mv (.c (.lit (.int .i64 70))))]
def F12_r5:List AIns:=[ii 2 (.mv (.c (.lit (.int .i64 0))))]
def F12_:AFun:=⟨1,.seq (.reg F12_r0 [] [1] [1]) (.seq (.seq (.reg F12_r1 [] [1,5] [1]) (.cond (.t 5) (.seq (.reg F12_r2 [] [2] []) (.ret)) (.skip))) (.seq (.seq (.reg F12_r3 [] [8] []) (.cond (.t 8) (.seq (.reg F12_r4 [] [2] []) (.ret)) (.skip))) (.seq (.reg F12_r5 [] [2] []) (.ret)))),[.t 2]⟩
def F15_r0:List AIns:=[ii 2 (.box true (.t 0)),
 ii 4 (.mv (.c (.lit (.bool false))))]
def F15_r1:List AIns:=[ii 5 (.ld false (some 5) (.t 2)),
 ii 6 (.mv (.t 1)),
 ii 7 (.bin .add (.t 6) (.c (.lit (.int .i64 1)))),
 ii 8 (.call (.f N53_) [(.t 5),(.t 7)]),
 ii 9 (.bin .gtr (.t 8) (.c (.lit (.int .i64 0)))),
 ii 4 (.mv (.t 9))]
def F15_:AFun:=⟨2,.seq (.reg F15_r0 [] [1,2] [2]) (.seq (.reg F15_r1 [] [4] []) (.ret)),[.t 4]⟩
def F16_r0:List AIns:=[ii 5 (.box true (.t 0)),
 ii 8 (.box true (.t 3)),
 ii 9 (.box true (.t 4)),
 ii 10 (.mv (.c (.lit (.int .i64 0)))),
 ii 11 (.mv (.c (.lit (.int .i64 0))))]
def F16_r1:List AIns:=[ii 19 (.ld false (some 2) (.t 5)),
 ii 20 (.call (.f N44_) [(.t 19)]),
 ii 21 (.unot (.t 20))]
def F16_r2:List AIns:=[ii 10 (.mv (.c (.lit (.int .i64 0)))),
 ii 11 (.mv (.c (.lit (.int .i64 60))))]
def F16_r3:List AIns:=[ii 22 (.ld false (some 2) (.t 5)),
 ii 23 (.call (.f N54_) [(.t 22)]),
 ii 12 (.mv (.t 23))]
def F16_r4:List AIns:=[ii 24 (.mv (.t 1)),
 ii 25 (.mv (.t 2)),
 ii 26 (.bsl 1 [(.t 24),(.t 25)]),
 ii 27 (.len false (.t 26)),
 ii 28 (.mv (.c (.lit (.int .i64 0))))]
def F16_r5:List AIns:=[ii 29 (.bin .lss (.t 28) (.t 27))]
def F16_r6:List AIns:=[ii 30 (.mv (.t 28)),
 ii 31 (.ia 1 (.t 26) (.t 28)),
 ii 32 (.ld false none (.t 31)),
 ii 13 (.mv (.t 30)),
 ii 14 (.mv (.t 32))]
def F16_r7:List AIns:=[ii 33 (.mv (.t 14)),
 ii 34 (.len false (.t 33)),
 ii 35 (.mv (.t 13)),
 ii 36 (.iaa 2 1 (.t 8) (.t 35)),
 ii 37 (.ld false none (.t 36)),
 ii 38 (.len false (.t 37)),
 ii 39 (.bin .neq (.t 34) (.t 38))]
def F16_r8:List AIns:=[ii 10 (.mv (.c (.lit (.int .i64 0)))),
 ii 11 (.mv (.c (.lit (.int .i64 1))))]
def F16_r9:List AIns:=[ii 40 (.mv (.t 14)),
 ii 41 (.len false (.t 40)),
 ii 42 (.mv (.c (.lit (.int .i64 0))))]
def F16_r10:List AIns:=[ii 43 (.bin .lss (.t 42) (.t 41))]
def F16_r11:List AIns:=[ii 44 (.mv (.t 42)),
 ii 45 (.ia 1 (.t 40) (.t 42)),
 ii 46 (.ld false none (.t 45)),
 ii 15 (.mv (.t 44)),
 ii 16 (.mv (.t 46))]
def F16_r12:List AIns:=[ii 47 (.mv (.t 13)),
 ii 48 (.iaa 2 1 (.t 8) (.t 47)),
 ii 49 (.ld false none (.t 48)),
 ii 50 (.mv (.t 15)),
 ii 51 (.ia 1 (.t 49) (.t 50)),
 ii 52 (.ld false none (.t 51)),
 ii 53 (.bin .lss (.t 52) (.c (.lit (.int .i64 0)))),
 ii 54 (.mv (.t 53)),
 ⟨some 55,(some (54,false)),.mv (.t 13)⟩,
 ⟨some 56,(some (54,false)),.iaa 2 1 (.t 8) (.t 55)⟩,
 ⟨some 57,(some (54,false)),.ld false none (.t 56)⟩,
 ⟨some 58,(some (54,false)),.mv (.t 15)⟩,
 ⟨some 59,(some (54,false)),.ia 1 (.t 57) (.t 58)⟩,
 ⟨some 60,(some (54,false)),.ld false none (.t 59)⟩,
 ⟨some 61,(some (54,false)),.fa 0 (.t 5)⟩,
 ⟨some 62,(some (54,false)),.ld false none (.t 61)⟩,
 ⟨some 63,(some (54,false)),.len false (.t 62)⟩,
 ⟨some 64,(some (54,false)),.bin .gtr (.t 60) (.t 63)⟩,
 ii 65 (.pick (.t 54) (.c (.lit (.bool true))) (.t 64))]
def F16_r13:List AIns:=[ii 10 (.mv (.c (.lit (.int .i64 0)))),
 ii 11 (.mv (.c (.lit (.int .i64 1))))]
def F16_r14:List AIns:=[ii 66 (.mv (.t 12)),
 ii 67 (.mv (.t 13)),
 ii 68 (.nck (.t 66)),
 ii 69 (.fa 2 (.t 68)),
 ii 70 (.iaa 2 1 (.t 69) (.t 67)),
 ii 71 (.ld true none (.t 70)),
 ii 72 (.mv (.t 16)),
 ii 73 (.mv (.t 13)),
 ii 74 (.iaa 2 1 (.t 8) (.t 73)),
 ii 75 (.ld false none (.t 74)),
 ii 76 (.mv (.t 15)),
 ii 77 (.ia 1 (.t 75) (.t 76)),
 ii 78 (.ld false none (.t 77)),
 ⟨none,none,.mu (.int .i64) (.t 71) (.t 72) (.t 78)⟩]
def F16_r15:List AIns:=[ii 79 (.bin .add (.t 42) (.c (.lit (.int .i64 1)))),
 ii 42 (.mv (.t 79))]
def F16_l2:AC:=.seq (.reg F16_r10 [] [1,2,5,8,9,12,13,26,27,28,40,41,42,43] [5,8,9]) (.seq (.cond (.t 43) (.skip) (.exit 2)) (.seq (.block 3 (.seq (.reg F16_r11 [] [1,2,5,8,9,12,13,15,16,26,27,28,40,41,42] [5,8,9]) (.seq (.seq (.reg F16_r12 [] [1,2,5,8,9,12,13,15,16,26,27,28,40,41,42,65] [5,8,9]) (.cond (.t 65) (.seq (.reg F16_r13 [] [10,11] []) (.ret)) (.skip))) (.reg F16_r14 [] [1,2,5,8,9,12,13,26,27,28,40,41,42] [5,8,9])))) (.reg F16_r15 [] [1,2,5,8,9,12,13,26,27,28,40,41,42] [5,8,9])))
def F16_r16:List AIns:=[ii 80 (.bin .add (.t 28) (.c (.lit (.int .i64 1)))),
 ii 28 (.mv (.t 80))]
def F16_l1:AC:=.seq (.reg F16_r5 [] [1,2,5,8,9,12,26,27,28,29] [5,8,9]) (.seq (.cond (.t 29) (.skip) (.exit 0)) (.seq (.block 1 (.seq (.reg F16_r6 [] [1,2,5,8,9,12,13,14,26,27,28] [5,8,9]) (.seq (.seq (.reg F16_r7 [] [1,2,5,8,9,12,13,14,26,27,28,39] [5,8,9]) (.cond (.t 39) (.seq (.reg F16_r8 [] [10,11] []) (.ret)) (.skip))) (.seq (.reg F16_r9 [] [1,2,5,8,9,12,13,26,27,28,40,41,42] [5,8,9]) (.block 2 (.loop F16_l2)))))) (.reg F16_r16 [] [1,2,5,8,9,12,26,27,28] [5,8,9])))
def F16_r17:List AIns:=[ii 81 (.fa 0 (.t 9)),
 ii 82 (.ld false none (.t 81)),
 ii 83 (.call (.f N55_) [(.t 82)]),
 ii 84 (.bin .lss (.t 83) (.c (.lit (.int .i64 0)))),
 ii 85 (.mv (.t 84)),
 ⟨some 86,(some (85,false)),.ld false (some 2) (.t 5)⟩,
 ⟨some 87,(some (85,false)),.mv (.t 1)⟩,
 ⟨some 88,(some (85,false)),.mv (.t 2)⟩,
 ⟨some 89,(some (85,false)),.ld false (some 5) (.t 9)⟩,
 ⟨some 90,(some (85,false)),.call (.f N56_) [(.t 86),(.t 87),(.t 88),(.t 89)]⟩,
 ⟨some 91,(some (85,false)),.unot (.t 90)⟩,
 ii 92 (.pick (.t 85) (.c (.lit (.bool true))) (.t 91))]
def F16_r18:List AIns:=[ii 10 (.mv (.c (.lit (.int .i64 0)))),
 ii 11 (.mv (.c (.lit (.int .i64 1))))]
def F16_r19:List AIns:=[ii 94 (.mv (.t 12)),
 ii 95 (.ld false (some 5) (.t 9)),
 ii 96 (.call (.f N57_) [(.t 94),(.t 95)]),
 ii 93 (.mv (.t 96)),
 ii 97 (.ext (.t 93) 0),
 ii 98 (.ext (.t 93) 1),
 ii 17 (.mv (.t 97)),
 ii 18 (.mv (.t 98))]
def F16_r20:List AIns:=[ii 99 (.mv (.t 18)),
 ii 100 (.unot (.t 99))]
def F16_r21:List AIns:=[ii 10 (.mv (.c (.lit (.int .i64 0)))),
 ii 11 (.mv (.c (.lit (.int .i64 70))))]
def F16_r22:List AIns:=[ii 101 (.mv (.t 17)),
 ii 10 (.mv (.t 101)),
 ii 11 (.mv (.c (.lit (.int .i64 0))))]
def F16_:AFun:=⟨5,.seq (.reg F16_r0 [] [1,2,5,8,9] [5,8,9]) (.seq (.seq (.reg F16_r1 [] [1,2,5,8,9,21] [5,8,9]) (.cond (.t 21) (.seq (.reg F16_r2 [] [10,11] []) (.ret)) (.skip))) (.seq (.reg F16_r3 [] [1,2,5,8,9,12] [5,8,9]) (.seq (.seq (.reg F16_r4 [] [1,2,5,8,9,12,26,27,28] [5,8,9]) (.block 0 (.loop F16_l1))) (.seq (.seq (.reg F16_r17 [] [9,12,92] [9]) (.cond (.t 92) (.seq (.reg F16_r18 [] [10,11] []) (.ret)) (.skip))) (.seq (.reg F16_r19 [] [17,18] []) (.seq (.seq (.reg F16_r20 [] [17,100] []) (.cond (.t 100) (.seq (.reg F16_r21 [] [10,11] []) (.ret)) (.skip))) (.seq (.reg F16_r22 [] [10,11] []) (.ret)))))))),[.t 10,.t 11]⟩
def F20_r0:List AIns:=[ii 1 (.box true (.t 0)),
 ii 2 (.alloc true [.slice .full 3 [],.slice .full 8 []])]
def F20_r1:List AIns:=[ii 6 (.fa 0 (.t 1)),
 ii 7 (.ld false none (.t 6)),
 ii 8 (.call (.f N64_) [(.t 7)]),
 ii 9 (.build [.slice .full 3 [],.slice .full 8 []] [(0,1,(.t 8))]),
 ii 3 (.alloc true [.slice .full 3 [],.slice .full 8 []]),
 ⟨none,none,.st false 2 (.t 3) (.t 9)⟩]
def F20_r2:List AIns:=[ii 10 (.fa 1 (.t 1)),
 ii 11 (.ld false none (.t 10)),
 ii 12 (.len false (.t 11)),
 ii 13 (.mv (.c (.lit (.int .i64 0))))]
def F20_r3:List AIns:=[ii 14 (.bin .lss (.t 13) (.t 12))]
def F20_r4:List AIns:=[ii 15 (.ia 8 (.t 11) (.t 13)),
 ii 16 (.ld false (some 8) (.t 15)),
 ii 5 (.alloc true [.lit (.string ⟨#[]⟩),.slice .full 2 [],.slice .full 1 [],.lit (.int .i64 0),.lit (.int .i64 0),.lit (.int .i64 0),.slice .full 5 [],.slice .full 7 []]),
 ⟨none,none,.st false 8 (.t 5) (.t 16)⟩]
def F20_r5:List AIns:=[ii 17 (.fa 1 (.t 3)),
 ii 18 (.ld false none (.t 17)),
 ii 19 (.fa 0 (.t 5)),
 ii 20 (.ld false none (.t 19)),
 ii 21 (.fa 1 (.t 5)),
 ii 22 (.ld false none (.t 21)),
 ii 23 (.app 2 16 (.c (.slice .full 2 [])) (.t 22)),
 ii 24 (.fa 2 (.t 5)),
 ii 25 (.ld false none (.t 24)),
 ii 26 (.app 1 8 (.c (.slice .full 1 [])) (.t 25)),
 ii 27 (.fa 3 (.t 5)),
 ii 28 (.ld false (some 5) (.t 27)),
 ii 29 (.call (.f N21_) [(.t 28)]),
 ii 30 (.build [.lit (.string ⟨#[]⟩),.slice .full 2 [],.slice .full 1 [],.lit (.int .i64 0),.lit (.int .i64 0),.lit (.int .i64 0),.slice .full 5 [],.slice .full 7 []] [(0,1,(.t 20)),(1,1,(.t 23)),(2,1,(.t 26)),(3,5,(.t 29))]),
 ii 31 (.bsl 8 [(.t 30)]),
 ii 32 (.app 8 136 (.t 18) (.t 31)),
 ii 33 (.fa 1 (.t 3)),
 ⟨none,none,.st false 1 (.t 33) (.t 32)⟩]
def F20_r6:List AIns:=[ii 34 (.bin .add (.t 13) (.c (.lit (.int .i64 1)))),
 ii 13 (.mv (.t 34))]
def F20_l1:AC:=.seq (.reg F20_r3 [] [2,3,11,12,13,14] [2,3]) (.seq (.cond (.t 14) (.skip) (.exit 0)) (.seq (.block 1 (.seq (.reg F20_r4 [] [2,3,5,11,12,13] [2,3,5]) (.reg F20_r5 [] [2,3,11,12,13] [2,3]))) (.reg F20_r6 [] [2,3,11,12,13] [2,3])))
def F20_r7:List AIns:=[ii 35 (.ld false (some 2) (.t 3)),
 ⟨none,none,.st false 2 (.t 2) (.t 35)⟩]
def F20_:AFun:=⟨1,.seq (.reg F20_r0 [] [1,2] [1,2]) (.seq (.reg F20_r1 [] [1,2,3] [1,2,3]) (.seq (.seq (.reg F20_r2 [] [2,3,11,12,13] [2,3]) (.block 0 (.loop F20_l1))) (.seq (.reg F20_r7 [] [2] [2]) (.ret)))),[.cell (some 2) 2]⟩
def F21_r0:List AIns:=[ii 1 (.box true (.t 0)),
 ii 2 (.alloc true [.lit (.int .i64 0),.lit (.int .i64 0),.lit (.int .i64 0),.slice .full 5 [],.slice .full 7 []])]
def F21_r1:List AIns:=[ii 8 (.ld false (some 5) (.t 1)),
 ii 3 (.alloc true [.lit (.int .i64 0),.lit (.int .i64 0),.lit (.int .i64 0),.slice .full 5 [],.slice .full 7 []]),
 ⟨none,none,.st false 5 (.t 3) (.t 8)⟩]
def F21_r2:List AIns:=[ii 9 (.fa 3 (.t 3)),
 ⟨none,none,.st false 1 (.t 9) (.c (.slice .full 5 []))⟩,
 ii 10 (.fa 4 (.t 3)),
 ⟨none,none,.st false 1 (.t 10) (.c (.slice .full 7 []))⟩]
def F21_r3:List AIns:=[ii 11 (.fa 3 (.t 1)),
 ii 12 (.ld false none (.t 11)),
 ii 13 (.len false (.t 12)),
 ii 14 (.mv (.c (.lit (.int .i64 0))))]
def F21_r4:List AIns:=[ii 15 (.bin .lss (.t 14) (.t 13))]
def F21_r5:List AIns:=[ii 16 (.ia 5 (.t 12) (.t 14)),
 ii 17 (.ld false (some 5) (.t 16)),
 ii 5 (.alloc true [.lit (.int .i64 0),.lit (.int .i64 0),.lit (.int .i64 0),.slice .full 5 [],.slice .full 7 []]),
 ⟨none,none,.st false 5 (.t 5) (.t 17)⟩]
def F21_r6:List AIns:=[ii 18 (.fa 3 (.t 3)),
 ii 19 (.ld false none (.t 18)),
 ii 20 (.ld false (some 5) (.t 5)),
 ii 21 (.call (.f N21_) [(.t 20)]),
 ii 22 (.bsl 5 [(.t 21)]),
 ii 23 (.app 5 72 (.t 19) (.t 22)),
 ii 24 (.fa 3 (.t 3)),
 ⟨none,none,.st false 1 (.t 24) (.t 23)⟩]
def F21_r7:List AIns:=[ii 25 (.bin .add (.t 14) (.c (.lit (.int .i64 1)))),
 ii 14 (.mv (.t 25))]
def F21_l1:AC:=.seq (.reg F21_r4 [] [1,2,3,12,13,14,15] [1,2,3]) (.seq (.cond (.t 15) (.skip) (.exit 0)) (.seq (.block 1 (.seq (.reg F21_r5 [] [1,2,3,5,12,13,14] [1,2,3,5]) (.reg F21_r6 [] [1,2,3,12,13,14] [1,2,3]))) (.reg F21_r7 [] [1,2,3,12,13,14] [1,2,3])))
def F21_r8:List AIns:=[ii 26 (.fa 4 (.t 1)),
 ii 27 (.ld false none (.t 26)),
 ii 28 (.len false (.t 27)),
 ii 29 (.mv (.c (.lit (.int .i64 0))))]
def F21_r9:List AIns:=[ii 30 (.bin .lss (.t 29) (.t 28))]
def F21_r10:List AIns:=[ii 31 (.ia 7 (.t 27) (.t 29)),
 ii 32 (.ld false (some 7) (.t 31)),
 ii 7 (.alloc true [.slice .full 1 [],.slice .full 1 [],.lit (.int .i64 0),.lit (.int .i64 0),.lit (.int .i64 0),.slice .full 5 [],.slice .full 7 []]),
 ⟨none,none,.st false 7 (.t 7) (.t 32)⟩]
def F21_r11:List AIns:=[ii 33 (.fa 4 (.t 3)),
 ii 34 (.ld false none (.t 33)),
 ii 35 (.fa 0 (.t 7)),
 ii 36 (.ld false none (.t 35)),
 ii 37 (.app 1 8 (.c (.slice .full 1 [])) (.t 36)),
 ii 38 (.fa 1 (.t 7)),
 ii 39 (.ld false none (.t 38)),
 ii 40 (.app 1 1 (.c (.slice .full 1 [])) (.t 39)),
 ii 41 (.fa 2 (.t 7)),
 ii 42 (.ld false (some 5) (.t 41)),
 ii 43 (.call (.f N21_) [(.t 42)]),
 ii 44 (.build [.slice .full 1 [],.slice .full 1 [],.lit (.int .i64 0),.lit (.int .i64 0),.lit (.int .i64 0),.slice .full 5 [],.slice .full 7 []] [(0,1,(.t 37)),(1,1,(.t 40)),(2,5,(.t 43))]),
 ii 45 (.bsl 7 [(.t 44)]),
 ii 46 (.app 7 120 (.t 34) (.t 45)),
 ii 47 (.fa 4 (.t 3)),
 ⟨none,none,.st false 1 (.t 47) (.t 46)⟩]
def F21_r12:List AIns:=[ii 48 (.bin .add (.t 29) (.c (.lit (.int .i64 1)))),
 ii 29 (.mv (.t 48))]
def F21_l2:AC:=.seq (.reg F21_r9 [] [2,3,27,28,29,30] [2,3]) (.seq (.cond (.t 30) (.skip) (.exit 2)) (.seq (.block 3 (.seq (.reg F21_r10 [] [2,3,7,27,28,29] [2,3,7]) (.reg F21_r11 [] [2,3,27,28,29] [2,3]))) (.reg F21_r12 [] [2,3,27,28,29] [2,3])))
def F21_r13:List AIns:=[ii 49 (.ld false (some 5) (.t 3)),
 ⟨none,none,.st false 5 (.t 2) (.t 49)⟩]
def F21_:AFun:=⟨1,.seq (.reg F21_r0 [] [1,2] [1,2]) (.seq (.reg F21_r1 [] [1,2,3] [1,2,3]) (.seq (.reg F21_r2 [] [1,2,3] [1,2,3]) (.seq (.seq (.reg F21_r3 [] [1,2,3,12,13,14] [1,2,3]) (.block 0 (.loop F21_l1))) (.seq (.seq (.reg F21_r8 [] [2,3,27,28,29] [2,3]) (.block 2 (.loop F21_l2))) (.seq (.reg F21_r13 [] [2] [2]) (.ret)))))),[.cell (some 5) 2]⟩
def F22_r0:List AIns:=[ii 4 (.mv (.c (.lit (.bool false))))]
def F22_r1:List AIns:=[ii 6 (.mv (.t 0)),
 ii 7 (.len false (.t 6)),
 ii 8 (.mv (.t 1)),
 ii 9 (.len false (.t 8)),
 ii 10 (.bin .neq (.t 7) (.t 9))]
def F22_r2:List AIns:=[ii 4 (.mv (.c (.lit (.bool false))))]
def F22_r3:List AIns:=[ii 11 (.mv (.t 0)),
 ii 12 (.len false (.t 11)),
 ii 13 (.mv (.c (.lit (.int .i64 0))))]
def F22_r4:List AIns:=[ii 14 (.bin .lss (.t 13) (.t 12))]
def F22_r5:List AIns:=[ii 15 (.mv (.t 13)),
 ii 5 (.mv (.t 15))]
def F22_r6:List AIns:=[ii 16 (.mv (.t 0)),
 ii 17 (.mv (.t 5)),
 ii 18 (.ia 1 (.t 16) (.t 17)),
 ii 19 (.ld false none (.t 18)),
 ii 20 (.mv (.t 1)),
 ii 21 (.mv (.t 5)),
 ii 22 (.ia 1 (.t 20) (.t 21)),
 ii 23 (.ld false none (.t 22)),
 ii 24 (.bin .neq (.t 19) (.t 23))]
def F22_r7:List AIns:=[ii 4 (.mv (.c (.lit (.bool false))))]
def F22_r8:List AIns:=[ii 25 (.bin .add (.t 13) (.c (.lit (.int .i64 1)))),
 ii 13 (.mv (.t 25))]
def F22_l1:AC:=.seq (.reg F22_r4 [] [0,1,12,13,14] []) (.seq (.cond (.t 14) (.skip) (.exit 0)) (.seq (.block 1 (.seq (.reg F22_r5 [] [0,1,5,12,13] []) (.seq (.reg F22_r6 [] [0,1,12,13,24] []) (.cond (.t 24) (.seq (.reg F22_r7 [] [4] []) (.ret)) (.skip))))) (.reg F22_r8 [] [0,1,12,13] [])))
def F22_r9:List AIns:=[ii 4 (.mv (.c (.lit (.bool true))))]
def F22_:AFun:=⟨2,.seq (.reg F22_r0 [] [0,1] []) (.seq (.seq (.reg F22_r1 [] [0,1,10] []) (.cond (.t 10) (.seq (.reg F22_r2 [] [4] []) (.ret)) (.skip))) (.seq (.seq (.reg F22_r3 [] [0,1,12,13] []) (.block 0 (.loop F22_l1))) (.seq (.reg F22_r9 [] [4] []) (.ret)))),[.t 4]⟩
def F23_r0:List AIns:=[ii 2 (.box true (.t 0)),
 ii 3 (.box true (.t 1)),
 ii 4 (.mv (.c (.lit (.bool false))))]
def F23_r1:List AIns:=[ii 8 (.fa 0 (.t 2)),
 ii 9 (.ld false none (.t 8)),
 ii 10 (.fa 0 (.t 3)),
 ii 11 (.ld false none (.t 10)),
 ii 12 (.call (.f N65_) [(.t 9),(.t 11)]),
 ii 13 (.unot (.t 12)),
 ii 14 (.mv (.t 13)),
 ⟨some 15,(some (14,false)),.fa 1 (.t 2)⟩,
 ⟨some 16,(some (14,false)),.ld false none (.t 15)⟩,
 ⟨some 17,(some (14,false)),.len false (.t 16)⟩,
 ⟨some 18,(some (14,false)),.fa 1 (.t 3)⟩,
 ⟨some 19,(some (14,false)),.ld false none (.t 18)⟩,
 ⟨some 20,(some (14,false)),.len false (.t 19)⟩,
 ⟨some 21,(some (14,false)),.bin .neq (.t 17) (.t 20)⟩,
 ii 22 (.pick (.t 14) (.c (.lit (.bool true))) (.t 21))]
def F23_r2:List AIns:=[ii 4 (.mv (.c (.lit (.bool false))))]
def F23_r3:List AIns:=[ii 23 (.fa 1 (.t 2)),
 ii 24 (.ld false none (.t 23)),
 ii 25 (.len false (.t 24)),
 ii 26 (.mv (.c (.lit (.int .i64 0))))]
def F23_r4:List AIns:=[ii 27 (.bin .lss (.t 26) (.t 25))]
def F23_r5:List AIns:=[ii 28 (.mv (.t 26)),
 ii 29 (.ia 8 (.t 24) (.t 26)),
 ii 30 (.ld false (some 8) (.t 29)),
 ii 6 (.alloc true [.lit (.string ⟨#[]⟩),.slice .full 2 [],.slice .full 1 [],.lit (.int .i64 0),.lit (.int .i64 0),.lit (.int .i64 0),.slice .full 5 [],.slice .full 7 []]),
 ii 5 (.mv (.t 28)),
 ⟨none,none,.st false 8 (.t 6) (.t 30)⟩]
def F23_r6:List AIns:=[ii 31 (.fa 1 (.t 3)),
 ii 32 (.ld false none (.t 31)),
 ii 33 (.mv (.t 5)),
 ii 34 (.ia 8 (.t 32) (.t 33)),
 ii 35 (.ld false (some 8) (.t 34)),
 ii 7 (.alloc true [.lit (.string ⟨#[]⟩),.slice .full 2 [],.slice .full 1 [],.lit (.int .i64 0),.lit (.int .i64 0),.lit (.int .i64 0),.slice .full 5 [],.slice .full 7 []]),
 ⟨none,none,.st false 8 (.t 7) (.t 35)⟩]
def F23_r7:List AIns:=[ii 36 (.fa 0 (.t 6)),
 ii 37 (.ld false none (.t 36)),
 ii 38 (.fa 0 (.t 7)),
 ii 39 (.ld false none (.t 38)),
 ii 40 (.bin .neq (.t 37) (.t 39)),
 ii 41 (.mv (.t 40)),
 ⟨some 42,(some (41,false)),.fa 1 (.t 6)⟩,
 ⟨some 43,(some (41,false)),.ld false none (.t 42)⟩,
 ⟨some 44,(some (41,false)),.fa 1 (.t 7)⟩,
 ⟨some 45,(some (41,false)),.ld false none (.t 44)⟩,
 ⟨some 46,(some (41,false)),.call (.f N66_) [(.t 43),(.t 45)]⟩,
 ⟨some 47,(some (41,false)),.unot (.t 46)⟩,
 ii 48 (.pick (.t 41) (.c (.lit (.bool true))) (.t 47)),
 ii 49 (.mv (.t 48)),
 ⟨some 50,(some (49,false)),.fa 2 (.t 6)⟩,
 ⟨some 51,(some (49,false)),.ld false none (.t 50)⟩,
 ⟨some 52,(some (49,false)),.fa 2 (.t 7)⟩,
 ⟨some 53,(some (49,false)),.ld false none (.t 52)⟩,
 ⟨some 54,(some (49,false)),.call (.f N22_) [(.t 51),(.t 53)]⟩,
 ⟨some 55,(some (49,false)),.unot (.t 54)⟩,
 ii 56 (.pick (.t 49) (.c (.lit (.bool true))) (.t 55)),
 ii 57 (.mv (.t 56)),
 ⟨some 58,(some (57,false)),.fa 3 (.t 6)⟩,
 ⟨some 59,(some (57,false)),.ld false (some 5) (.t 58)⟩,
 ⟨some 60,(some (57,false)),.fa 3 (.t 7)⟩,
 ⟨some 61,(some (57,false)),.ld false (some 5) (.t 60)⟩,
 ⟨some 62,(some (57,false)),.call (.f N24_) [(.t 59),(.t 61)]⟩,
 ⟨some 63,(some (57,false)),.unot (.t 62)⟩,
 ii 64 (.pick (.t 57) (.c (.lit (.bool true))) (.t 63))]
def F23_r8:List AIns:=[ii 4 (.mv (.c (.lit (.bool false))))]
def F23_r9:List AIns:=[ii 65 (.bin .add (.t 26) (.c (.lit (.int .i64 1)))),
 ii 26 (.mv (.t 65))]
def F23_l1:AC:=.seq (.reg F23_r4 [] [3,24,25,26,27] [3]) (.seq (.cond (.t 27) (.skip) (.exit 0)) (.seq (.block 1 (.seq (.reg F23_r5 [] [3,5,6,24,25,26] [3,6]) (.seq (.reg F23_r6 [] [3,6,7,24,25,26] [3,6,7]) (.seq (.reg F23_r7 [] [3,24,25,26,64] [3]) (.cond (.t 64) (.seq (.reg F23_r8 [] [4] []) (.ret)) (.skip)))))) (.reg F23_r9 [] [3,24,25,26] [3])))
def F23_r10:List AIns:=[ii 4 (.mv (.c (.lit (.bool true))))]
def F23_:AFun:=⟨2,.seq (.reg F23_r0 [] [2,3] [2,3]) (.seq (.seq (.reg F23_r1 [] [2,3,22] [2,3]) (.cond (.t 22) (.seq (.reg F23_r2 [] [4] []) (.ret)) (.skip))) (.seq (.seq (.reg F23_r3 [] [3,24,25,26] [3]) (.block 0 (.loop F23_l1))) (.seq (.reg F23_r10 [] [4] []) (.ret)))),[.t 4]⟩
def F24_r0:List AIns:=[ii 2 (.box true (.t 0)),
 ii 3 (.box true (.t 1)),
 ii 4 (.mv (.c (.lit (.bool false))))]
def F24_r1:List AIns:=[ii 9 (.fa 0 (.t 2)),
 ii 10 (.ld false none (.t 9)),
 ii 11 (.fa 0 (.t 3)),
 ii 12 (.ld false none (.t 11)),
 ii 13 (.bin .neq (.t 10) (.t 12)),
 ii 14 (.mv (.t 13)),
 ⟨some 15,(some (14,false)),.fa 1 (.t 2)⟩,
 ⟨some 16,(some (14,false)),.ld false none (.t 15)⟩,
 ⟨some 17,(some (14,false)),.fa 1 (.t 3)⟩,
 ⟨some 18,(some (14,false)),.ld false none (.t 17)⟩,
 ⟨some 19,(some (14,false)),.bin .neq (.t 16) (.t 18)⟩,
 ii 20 (.pick (.t 14) (.c (.lit (.bool true))) (.t 19)),
 ii 21 (.mv (.t 20)),
 ⟨some 22,(some (21,false)),.fa 2 (.t 2)⟩,
 ⟨some 23,(some (21,false)),.ld false none (.t 22)⟩,
 ⟨some 24,(some (21,false)),.fa 2 (.t 3)⟩,
 ⟨some 25,(some (21,false)),.ld false none (.t 24)⟩,
 ⟨some 26,(some (21,false)),.bin .neq (.t 23) (.t 25)⟩,
 ii 27 (.pick (.t 21) (.c (.lit (.bool true))) (.t 26)),
 ii 28 (.mv (.t 27)),
 ⟨some 29,(some (28,false)),.fa 3 (.t 2)⟩,
 ⟨some 30,(some (28,false)),.ld false none (.t 29)⟩,
 ⟨some 31,(some (28,false)),.len false (.t 30)⟩,
 ⟨some 32,(some (28,false)),.fa 3 (.t 3)⟩,
 ⟨some 33,(some (28,false)),.ld false none (.t 32)⟩,
 ⟨some 34,(some (28,false)),.len false (.t 33)⟩,
 ⟨some 35,(some (28,false)),.bin .neq (.t 31) (.t 34)⟩,
 ii 36 (.pick (.t 28) (.c (.lit (.bool true))) (.t 35)),
 ii 37 (.mv (.t 36)),
 ⟨some 38,(some (37,false)),.fa 4 (.t 2)⟩,
 ⟨some 39,(some (37,false)),.ld false none (.t 38)⟩,
 ⟨some 40,(some (37,false)),.len false (.t 39)⟩,
 ⟨some 41,(some (37,false)),.fa 4 (.t 3)⟩,
 ⟨some 42,(some (37,false)),.ld false none (.t 41)⟩,
 ⟨some 43,(some (37,false)),.len false (.t 42)⟩,
 ⟨some 44,(some (37,false)),.bin .neq (.t 40) (.t 43)⟩,
 ii 45 (.pick (.t 37) (.c (.lit (.bool true))) (.t 44))]
def F24_r2:List AIns:=[ii 4 (.mv (.c (.lit (.bool false))))]
def F24_r3:List AIns:=[ii 46 (.fa 3 (.t 2)),
 ii 47 (.ld false none (.t 46)),
 ii 48 (.len false (.t 47)),
 ii 49 (.mv (.c (.lit (.int .i64 0))))]
def F24_r4:List AIns:=[ii 50 (.bin .lss (.t 49) (.t 48))]
def F24_r5:List AIns:=[ii 51 (.mv (.t 49)),
 ii 5 (.mv (.t 51))]
def F24_r6:List AIns:=[ii 52 (.fa 3 (.t 2)),
 ii 53 (.ld false none (.t 52)),
 ii 54 (.mv (.t 5)),
 ii 55 (.ia 5 (.t 53) (.t 54)),
 ii 56 (.ld false (some 5) (.t 55)),
 ii 57 (.fa 3 (.t 3)),
 ii 58 (.ld false none (.t 57)),
 ii 59 (.mv (.t 5)),
 ii 60 (.ia 5 (.t 58) (.t 59)),
 ii 61 (.ld false (some 5) (.t 60)),
 ii 62 (.call (.f N24_) [(.t 56),(.t 61)]),
 ii 63 (.unot (.t 62))]
def F24_r7:List AIns:=[ii 4 (.mv (.c (.lit (.bool false))))]
def F24_r8:List AIns:=[ii 64 (.bin .add (.t 49) (.c (.lit (.int .i64 1)))),
 ii 49 (.mv (.t 64))]
def F24_l1:AC:=.seq (.reg F24_r4 [] [2,3,48,49,50] [2,3]) (.seq (.cond (.t 50) (.skip) (.exit 0)) (.seq (.block 1 (.seq (.reg F24_r5 [] [2,3,5,48,49] [2,3]) (.seq (.reg F24_r6 [] [2,3,48,49,63] [2,3]) (.cond (.t 63) (.seq (.reg F24_r7 [] [4] []) (.ret)) (.skip))))) (.reg F24_r8 [] [2,3,48,49] [2,3])))
def F24_r9:List AIns:=[ii 65 (.fa 4 (.t 2)),
 ii 66 (.ld false none (.t 65)),
 ii 67 (.len false (.t 66)),
 ii 68 (.mv (.c (.lit (.int .i64 0))))]
def F24_r10:List AIns:=[ii 69 (.bin .lss (.t 68) (.t 67))]
def F24_r11:List AIns:=[ii 70 (.mv (.t 68)),
 ii 71 (.ia 7 (.t 66) (.t 68)),
 ii 72 (.ld false (some 7) (.t 71)),
 ii 7 (.alloc true [.slice .full 1 [],.slice .full 1 [],.lit (.int .i64 0),.lit (.int .i64 0),.lit (.int .i64 0),.slice .full 5 [],.slice .full 7 []]),
 ii 6 (.mv (.t 70)),
 ⟨none,none,.st false 7 (.t 7) (.t 72)⟩]
def F24_r12:List AIns:=[ii 73 (.fa 4 (.t 3)),
 ii 74 (.ld false none (.t 73)),
 ii 75 (.mv (.t 6)),
 ii 76 (.ia 7 (.t 74) (.t 75)),
 ii 77 (.ld false (some 7) (.t 76)),
 ii 8 (.alloc true [.slice .full 1 [],.slice .full 1 [],.lit (.int .i64 0),.lit (.int .i64 0),.lit (.int .i64 0),.slice .full 5 [],.slice .full 7 []]),
 ⟨none,none,.st false 7 (.t 8) (.t 77)⟩]
def F24_r13:List AIns:=[ii 78 (.fa 0 (.t 7)),
 ii 79 (.ld false none (.t 78)),
 ii 80 (.fa 0 (.t 8)),
 ii 81 (.ld false none (.t 80)),
 ii 82 (.call (.f N22_) [(.t 79),(.t 81)]),
 ii 83 (.unot (.t 82)),
 ii 84 (.mv (.t 83)),
 ⟨some 85,(some (84,false)),.fa 1 (.t 7)⟩,
 ⟨some 86,(some (84,false)),.ld false none (.t 85)⟩,
 ⟨some 87,(some (84,false)),.fa 1 (.t 8)⟩,
 ⟨some 88,(some (84,false)),.ld false none (.t 87)⟩,
 ⟨some 89,(some (84,false)),.call (.f N67_) [(.t 86),(.t 88)]⟩,
 ⟨some 90,(some (84,false)),.unot (.t 89)⟩,
 ii 91 (.pick (.t 84) (.c (.lit (.bool true))) (.t 90)),
 ii 92 (.mv (.t 91)),
 ⟨some 93,(some (92,false)),.fa 2 (.t 7)⟩,
 ⟨some 94,(some (92,false)),.ld false (some 5) (.t 93)⟩,
 ⟨some 95,(some (92,false)),.fa 2 (.t 8)⟩,
 ⟨some 96,(some (92,false)),.ld false (some 5) (.t 95)⟩,
 ⟨some 97,(some (92,false)),.call (.f N24_) [(.t 94),(.t 96)]⟩,
 ⟨some 98,(some (92,false)),.unot (.t 97)⟩,
 ii 99 (.pick (.t 92) (.c (.lit (.bool true))) (.t 98))]
def F24_r14:List AIns:=[ii 4 (.mv (.c (.lit (.bool false))))]
def F24_r15:List AIns:=[ii 100 (.bin .add (.t 68) (.c (.lit (.int .i64 1)))),
 ii 68 (.mv (.t 100))]
def F24_l2:AC:=.seq (.reg F24_r10 [] [3,66,67,68,69] [3]) (.seq (.cond (.t 69) (.skip) (.exit 2)) (.seq (.block 3 (.seq (.reg F24_r11 [] [3,6,7,66,67,68] [3,7]) (.seq (.reg F24_r12 [] [3,7,8,66,67,68] [3,7,8]) (.seq (.reg F24_r13 [] [3,66,67,68,99] [3]) (.cond (.t 99) (.seq (.reg F24_r14 [] [4] []) (.ret)) (.skip)))))) (.reg F24_r15 [] [3,66,67,68] [3])))
def F24_r16:List AIns:=[ii 4 (.mv (.c (.lit (.bool true))))]
def F24_:AFun:=⟨2,.seq (.reg F24_r0 [] [2,3] [2,3]) (.seq (.seq (.reg F24_r1 [] [2,3,45] [2,3]) (.cond (.t 45) (.seq (.reg F24_r2 [] [4] []) (.ret)) (.skip))) (.seq (.seq (.reg F24_r3 [] [2,3,48,49] [2,3]) (.block 0 (.loop F24_l1))) (.seq (.seq (.reg F24_r9 [] [3,66,67,68] [3]) (.block 2 (.loop F24_l2))) (.seq (.reg F24_r16 [] [4] []) (.ret))))),[.t 4]⟩
def F43_r0:List AIns:=[ii 3 (.box true (.t 0)),
 ii 4 (.alloc true [.slice .full 3 [],.slice .full 8 []])]
def F43_r1:List AIns:=[ii 5 (.ld true none (.t 1)),
 ii 6 (.ld false (some 5) (.t 3)),
 ii 7 (.ld true (some 5) (.t 2)),
 ii 8 (.bsl 5 [(.t 6),(.t 7)]),
 ii 9 (.build [.lit (.int .i64 0),.lit (.int .i64 0),.lit (.int .i64 0),.slice .full 5 [],.slice .full 7 []] [(0,1,(.c (.lit (.int .i64 9)))),(3,1,(.t 8))]),
 ii 10 (.build [.lit (.string ⟨#[]⟩),.slice .full 2 [],.slice .full 1 [],.lit (.int .i64 0),.lit (.int .i64 0),.lit (.int .i64 0),.slice .full 5 [],.slice .full 7 []] [(0,1,(.c (.lit (.string ⟨#[109,97,105,110]⟩)))),(3,5,(.t 9))]),
 ii 11 (.bsl 8 [(.t 10)]),
 ii 12 (.build [.slice .full 3 [],.slice .full 8 []] [(0,1,(.t 5)),(1,1,(.t 11))]),
 ⟨none,none,.st false 2 (.t 4) (.t 12)⟩]
def F43_:AFun:=⟨3,.seq (.reg F43_r0 [] [1,2,3,4] [3,4]) (.seq (.reg F43_r1 [] [4] [4]) (.ret)),[.cell (some 2) 4]⟩
def F44_r0:List AIns:=[ii 1 (.box true (.t 0)),
 ii 2 (.mv (.c (.lit (.bool false))))]
def F44_r1:List AIns:=[ii 13 (.fa 0 (.t 1)),
 ii 14 (.ld false none (.t 13)),
 ii 15 (.call (.f N88_) [(.t 14)]),
 ii 16 (.unot (.t 15)),
 ii 17 (.mv (.t 16)),
 ⟨some 18,(some (17,false)),.fa 1 (.t 1)⟩,
 ⟨some 19,(some (17,false)),.ld false none (.t 18)⟩,
 ⟨some 20,(some (17,false)),.len false (.t 19)⟩,
 ⟨some 21,(some (17,false)),.bin .lss (.t 20) (.c (.lit (.int .i64 1)))⟩,
 ii 22 (.pick (.t 17) (.c (.lit (.bool true))) (.t 21)),
 ii 23 (.mv (.t 22)),
 ⟨some 24,(some (23,false)),.fa 1 (.t 1)⟩,
 ⟨some 25,(some (23,false)),.ld false none (.t 24)⟩,
 ⟨some 26,(some (23,false)),.len false (.t 25)⟩,
 ⟨some 27,(some (23,false)),.bin .gtr (.t 26) (.c (.lit (.int .i64 12)))⟩,
 ii 28 (.pick (.t 23) (.c (.lit (.bool true))) (.t 27))]
def F44_r2:List AIns:=[ii 2 (.mv (.c (.lit (.bool false))))]
def F44_r3:List AIns:=[ii 29 (.mkm .str),
 ii 3 (.mv (.t 29))]
def F44_r4:List AIns:=[ii 30 (.fa 0 (.t 1)),
 ii 31 (.ld false none (.t 30)),
 ii 32 (.fa 1 (.t 1)),
 ii 33 (.ld false none (.t 32)),
 ii 34 (.build [.slice .full 3 [],.slice .full 8 [],.lit (.int .i64 0)] [(0,1,(.t 31)),(1,1,(.t 33)),(2,1,(.c (.lit (.int .i64 30000))))]),
 ii 35 (.box false (.t 34)),
 ii 4 (.mv (.t 35))]
def F44_r5:List AIns:=[ii 36 (.fa 1 (.t 1)),
 ii 37 (.ld false none (.t 36)),
 ii 38 (.len false (.t 37)),
 ii 39 (.mv (.c (.lit (.int .i64 0))))]
def F44_r6:List AIns:=[ii 40 (.bin .lss (.t 39) (.t 38))]
def F44_r7:List AIns:=[ii 41 (.mv (.t 39)),
 ii 42 (.ia 8 (.t 37) (.t 39)),
 ii 43 (.ld false (some 8) (.t 42)),
 ii 6 (.alloc true [.lit (.string ⟨#[]⟩),.slice .full 2 [],.slice .full 1 [],.lit (.int .i64 0),.lit (.int .i64 0),.lit (.int .i64 0),.slice .full 5 [],.slice .full 7 []]),
 ii 5 (.mv (.t 41)),
 ⟨none,none,.st false 8 (.t 6) (.t 43)⟩]
def F44_r8:List AIns:=[ii 44 (.fa 0 (.t 6)),
 ii 45 (.ld false none (.t 44)),
 ii 46 (.call (.f N89_) [(.t 45)]),
 ii 47 (.unot (.t 46)),
 ii 48 (.mv (.t 47)),
 ⟨some 49,(some (48,false)),.mv (.t 3)⟩,
 ⟨some 50,(some (48,false)),.fa 0 (.t 6)⟩,
 ⟨some 51,(some (48,false)),.ld false none (.t 50)⟩,
 ⟨some 52,(some (48,false)),.lk .str (.lit (.bool false)) false (.t 49) (.t 51)⟩,
 ii 53 (.pick (.t 48) (.c (.lit (.bool true))) (.t 52)),
 ii 54 (.mv (.t 53)),
 ⟨some 55,(some (54,false)),.fa 1 (.t 6)⟩,
 ⟨some 56,(some (54,false)),.ld false none (.t 55)⟩,
 ⟨some 57,(some (54,false)),.len false (.t 56)⟩,
 ⟨some 58,(some (54,false)),.bin .gtr (.t 57) (.c (.lit (.int .i64 6)))⟩,
 ii 59 (.pick (.t 54) (.c (.lit (.bool true))) (.t 58)),
 ii 60 (.mv (.t 59)),
 ⟨some 61,(some (60,false)),.fa 2 (.t 6)⟩,
 ⟨some 62,(some (60,false)),.ld false none (.t 61)⟩,
 ⟨some 63,(some (60,false)),.len false (.t 62)⟩,
 ⟨some 64,(some (60,false)),.fa 1 (.t 6)⟩,
 ⟨some 65,(some (60,false)),.ld false none (.t 64)⟩,
 ⟨some 66,(some (60,false)),.len false (.t 65)⟩,
 ⟨some 67,(some (60,false)),.bin .neq (.t 63) (.t 66)⟩,
 ii 68 (.pick (.t 60) (.c (.lit (.bool true))) (.t 67))]
def F44_r9:List AIns:=[ii 2 (.mv (.c (.lit (.bool false))))]
def F44_r10:List AIns:=[ii 69 (.mv (.t 3)),
 ii 70 (.fa 0 (.t 6)),
 ii 71 (.ld false none (.t 70)),
 ⟨none,none,.mu .str (.t 69) (.t 71) (.c (.lit (.bool true)))⟩]
def F44_r11:List AIns:=[ii 7 (.mv (.c (.slice .full 1 [])))]
def F44_r12:List AIns:=[ii 72 (.fa 1 (.t 6)),
 ii 73 (.ld false none (.t 72)),
 ii 74 (.len false (.t 73)),
 ii 75 (.mv (.c (.lit (.int .i64 0))))]
def F44_r13:List AIns:=[ii 76 (.bin .lss (.t 75) (.t 74))]
def F44_r14:List AIns:=[ii 77 (.ia 2 (.t 73) (.t 75)),
 ii 78 (.ld false (some 2) (.t 77)),
 ii 9 (.alloc true [.lit (.int .i64 0),.lit (.bool false)]),
 ⟨none,none,.st false 2 (.t 9) (.t 78)⟩]
def F44_r15:List AIns:=[ii 79 (.fa 0 (.t 9)),
 ii 80 (.ld false none (.t 79)),
 ii 81 (.bin .lss (.t 80) (.c (.lit (.int .i64 0)))),
 ii 82 (.mv (.t 81)),
 ⟨some 83,(some (82,false)),.fa 0 (.t 9)⟩,
 ⟨some 84,(some (82,false)),.ld false none (.t 83)⟩,
 ⟨some 85,(some (82,false)),.fa 0 (.t 1)⟩,
 ⟨some 86,(some (82,false)),.ld false none (.t 85)⟩,
 ⟨some 87,(some (82,false)),.len false (.t 86)⟩,
 ⟨some 88,(some (82,false)),.bin .gtr (.t 84) (.t 87)⟩,
 ii 89 (.pick (.t 82) (.c (.lit (.bool true))) (.t 88)),
 ii 90 (.mv (.t 89)),
 ⟨some 91,(some (90,false)),.mv (.t 5)⟩,
 ⟨some 92,(some (90,false)),.bin .eql (.t 91) (.c (.lit (.int .i64 0)))⟩,
 ⟨some 93,(some (90,false)),.mv (.t 92)⟩,
 ⟨some 94,(some (93,true)),.fa 1 (.t 9)⟩,
 ⟨some 95,(some (93,true)),.ld false none (.t 94)⟩,
 ⟨some 96,(some (93,true)),.mv (.t 95)⟩,
 ⟨some 97,(some (96,false)),.fa 0 (.t 9)⟩,
 ⟨some 98,(some (96,false)),.ld false none (.t 97)⟩,
 ⟨some 99,(some (96,false)),.bin .neq (.t 98) (.c (.lit (.int .i64 0)))⟩,
 ⟨some 100,(some (93,true)),.pick (.t 96) (.c (.lit (.bool true))) (.t 99)⟩,
 ⟨some 101,(some (90,false)),.pick (.t 93) (.t 100) (.c (.lit (.bool false)))⟩,
 ii 102 (.pick (.t 90) (.c (.lit (.bool true))) (.t 101))]
def F44_r16:List AIns:=[ii 2 (.mv (.c (.lit (.bool false))))]
def F44_r17:List AIns:=[ii 103 (.mv (.t 7)),
 ii 104 (.fa 1 (.t 9)),
 ii 105 (.ld false none (.t 104)),
 ii 106 (.bsl 1 [(.t 105)]),
 ii 107 (.app 1 1 (.t 103) (.t 106)),
 ii 7 (.mv (.t 107))]
def F44_r18:List AIns:=[ii 108 (.bin .add (.t 75) (.c (.lit (.int .i64 1)))),
 ii 75 (.mv (.t 108))]
def F44_l2:AC:=.seq (.reg F44_r13 [] [1,3,4,5,6,7,37,38,39,73,74,75,76] [1,6]) (.seq (.cond (.t 76) (.skip) (.exit 2)) (.seq (.block 3 (.seq (.reg F44_r14 [] [1,3,4,5,6,7,9,37,38,39,73,74,75] [1,6,9]) (.seq (.seq (.reg F44_r15 [] [1,3,4,5,6,7,9,37,38,39,73,74,75,102] [1,6,9]) (.cond (.t 102) (.seq (.reg F44_r16 [] [2] []) (.ret)) (.skip))) (.reg F44_r17 [] [1,3,4,5,6,7,37,38,39,73,74,75] [1,6])))) (.reg F44_r18 [] [1,3,4,5,6,7,37,38,39,73,74,75] [1,6])))
def F44_r19:List AIns:=[ii 109 (.fa 2 (.t 6)),
 ii 110 (.ld false none (.t 109)),
 ii 111 (.mv (.t 7)),
 ii 112 (.call (.f N90_) [(.t 110),(.t 111)]),
 ii 113 (.unot (.t 112))]
def F44_r20:List AIns:=[ii 2 (.mv (.c (.lit (.bool false))))]
def F44_r21:List AIns:=[ii 114 (.bin .add (.t 39) (.c (.lit (.int .i64 1)))),
 ii 39 (.mv (.t 114))]
def F44_l1:AC:=.seq (.reg F44_r6 [] [1,3,4,37,38,39,40] [1]) (.seq (.cond (.t 40) (.skip) (.exit 0)) (.seq (.block 1 (.seq (.reg F44_r7 [] [1,3,4,5,6,37,38,39] [1,6]) (.seq (.seq (.reg F44_r8 [] [1,3,4,5,6,37,38,39,68] [1,6]) (.cond (.t 68) (.seq (.reg F44_r9 [] [2] []) (.ret)) (.skip))) (.seq (.reg F44_r10 [] [1,3,4,5,6,37,38,39] [1,6]) (.seq (.reg F44_r11 [] [1,3,4,5,6,7,37,38,39] [1,6]) (.seq (.seq (.reg F44_r12 [] [1,3,4,5,6,7,37,38,39,73,74,75] [1,6]) (.block 2 (.loop F44_l2))) (.seq (.reg F44_r19 [] [1,3,4,37,38,39,113] [1]) (.cond (.t 113) (.seq (.reg F44_r20 [] [2] []) (.ret)) (.skip))))))))) (.reg F44_r21 [] [1,3,4,37,38,39] [1])))
def F44_r22:List AIns:=[ii 115 (.fa 1 (.t 1)),
 ii 116 (.ld false none (.t 115)),
 ii 117 (.len false (.t 116)),
 ii 118 (.mv (.c (.lit (.int .i64 0))))]
def F44_r23:List AIns:=[ii 119 (.bin .lss (.t 118) (.t 117))]
def F44_r24:List AIns:=[ii 120 (.ia 8 (.t 116) (.t 118)),
 ii 121 (.ld false (some 8) (.t 120)),
 ii 11 (.alloc true [.lit (.string ⟨#[]⟩),.slice .full 2 [],.slice .full 1 [],.lit (.int .i64 0),.lit (.int .i64 0),.lit (.int .i64 0),.slice .full 5 [],.slice .full 7 []]),
 ⟨none,none,.st false 8 (.t 11) (.t 121)⟩]
def F44_r25:List AIns:=[ii 122 (.call (.f N91_) [(.c (.slice .full 1 [])),(.c (.slice .full 1 []))]),
 ii 12 (.alloc true [.lit (.map none),.lit (.map none)]),
 ⟨none,none,.st false 2 (.t 12) (.t 122)⟩]
def F44_r26:List AIns:=[ii 123 (.ld false (some 2) (.t 12)),
 ii 124 (.fa 2 (.t 11)),
 ii 125 (.ld false none (.t 124)),
 ii 126 (.fa 1 (.t 11)),
 ii 127 (.ld false none (.t 126)),
 ii 128 (.call (.f N93_) [(.t 127)]),
 ii 129 (.call (.f N92_) [(.t 123),(.t 125),(.t 128)])]
def F44_r27:List AIns:=[ii 130 (.fa 3 (.t 11)),
 ii 131 (.fa 0 (.t 130)),
 ii 132 (.ld false none (.t 131)),
 ii 133 (.call (.f N55_) [(.t 132)]),
 ii 134 (.bin .neq (.t 133) (.c (.lit (.int .i64 2)))),
 ii 135 (.mv (.t 134)),
 ⟨some 136,(some (135,false)),.mv (.t 4)⟩,
 ⟨some 137,(some (135,false)),.ld false (some 2) (.t 12)⟩,
 ⟨some 138,(some (135,false)),.fa 3 (.t 11)⟩,
 ⟨some 139,(some (135,false)),.ld false (some 5) (.t 138)⟩,
 ⟨some 140,(some (135,false)),.call (.f N94_) [(.t 136),(.t 137),(.t 139),(.c (.lit (.int .i64 1)))]⟩,
 ⟨some 141,(some (135,false)),.unot (.t 140)⟩,
 ii 142 (.pick (.t 135) (.c (.lit (.bool true))) (.t 141))]
def F44_r28:List AIns:=[ii 2 (.mv (.c (.lit (.bool false))))]
def F44_r29:List AIns:=[ii 143 (.bin .add (.t 118) (.c (.lit (.int .i64 1)))),
 ii 118 (.mv (.t 143))]
def F44_l3:AC:=.seq (.reg F44_r23 [] [4,116,117,118,119] []) (.seq (.cond (.t 119) (.skip) (.exit 4)) (.seq (.block 5 (.seq (.reg F44_r24 [] [4,11,116,117,118] [11]) (.seq (.reg F44_r25 [] [4,11,12,116,117,118] [11,12]) (.seq (.reg F44_r26 [] [4,11,12,116,117,118] [11,12]) (.seq (.reg F44_r27 [] [4,116,117,118,142] []) (.cond (.t 142) (.seq (.reg F44_r28 [] [2] []) (.ret)) (.skip))))))) (.reg F44_r29 [] [4,116,117,118] [])))
def F44_r30:List AIns:=[ii 2 (.mv (.c (.lit (.bool true))))]
def F44_:AFun:=⟨1,.seq (.reg F44_r0 [] [1] [1]) (.seq (.seq (.reg F44_r1 [] [1,28] [1]) (.cond (.t 28) (.seq (.reg F44_r2 [] [2] []) (.ret)) (.skip))) (.seq (.reg F44_r3 [] [1,3] [1]) (.seq (.reg F44_r4 [] [1,3,4] [1]) (.seq (.seq (.reg F44_r5 [] [1,3,4,37,38,39] [1]) (.block 0 (.loop F44_l1))) (.seq (.seq (.reg F44_r22 [] [4,116,117,118] []) (.block 4 (.loop F44_l3))) (.seq (.reg F44_r30 [] [2] []) (.ret))))))),[.t 2]⟩
def F45_r0:List AIns:=[ii 1 (.box true (.t 0)),
 ii 2 (.mv (.c (.lit (.bool false))))]
def F45_r1:List AIns:=[ii 8 (.fa 1 (.t 1)),
 ii 9 (.ld false none (.t 8)),
 ii 10 (.len false (.t 9)),
 ii 11 (.mv (.c (.lit (.int .i64 0))))]
def F45_r2:List AIns:=[ii 12 (.bin .lss (.t 11) (.t 10))]
def F45_r3:List AIns:=[ii 13 (.ia 8 (.t 9) (.t 11)),
 ii 14 (.ld false (some 8) (.t 13)),
 ii 4 (.alloc true [.lit (.string ⟨#[]⟩),.slice .full 2 [],.slice .full 1 [],.lit (.int .i64 0),.lit (.int .i64 0),.lit (.int .i64 0),.slice .full 5 [],.slice .full 7 []]),
 ⟨none,none,.st false 8 (.t 4) (.t 14)⟩]
def F45_r4:List AIns:=[ii 15 (.ld false (some 2) (.t 1)),
 ii 16 (.call (.f N54_) [(.t 15)]),
 ii 5 (.mv (.t 16))]
def F45_r5:List AIns:=[ii 17 (.mv (.t 5)),
 ii 18 (.fa 2 (.t 4)),
 ii 19 (.ld false none (.t 18)),
 ii 20 (.fa 1 (.t 4)),
 ii 21 (.ld false none (.t 20)),
 ii 22 (.call (.f N95_) [(.t 17),(.t 19),(.t 21)])]
def F45_r6:List AIns:=[ii 24 (.mv (.t 5)),
 ii 25 (.fa 3 (.t 4)),
 ii 26 (.ld false (some 5) (.t 25)),
 ii 27 (.call (.f N57_) [(.t 24),(.t 26)]),
 ii 23 (.mv (.t 27)),
 ii 28 (.ext (.t 23) 0),
 ii 29 (.ext (.t 23) 1),
 ii 6 (.mv (.t 28)),
 ii 7 (.mv (.t 29))]
def F45_r7:List AIns:=[ii 30 (.mv (.t 7)),
 ii 31 (.unot (.t 30))]
def F45_r8:List AIns:=[ii 2 (.mv (.c (.lit (.bool false))))]
def F45_r9:List AIns:=[ii 32 (.bin .add (.t 11) (.c (.lit (.int .i64 1)))),
 ii 11 (.mv (.t 32))]
def F45_l1:AC:=.seq (.reg F45_r2 [] [1,9,10,11,12] [1]) (.seq (.cond (.t 12) (.skip) (.exit 0)) (.seq (.block 1 (.seq (.reg F45_r3 [] [1,4,9,10,11] [1,4]) (.seq (.reg F45_r4 [] [1,4,5,9,10,11] [1,4]) (.seq (.reg F45_r5 [] [1,4,5,9,10,11] [1,4]) (.seq (.reg F45_r6 [] [1,7,9,10,11] [1]) (.seq (.reg F45_r7 [] [1,9,10,11,31] [1]) (.cond (.t 31) (.seq (.reg F45_r8 [] [2] []) (.ret)) (.skip)))))))) (.reg F45_r9 [] [1,9,10,11] [1])))
def F45_r10:List AIns:=[ii 2 (.mv (.c (.lit (.bool true))))]
def F45_:AFun:=⟨1,.seq (.reg F45_r0 [] [1] [1]) (.seq (.seq (.reg F45_r1 [] [1,9,10,11] [1]) (.block 0 (.loop F45_l1))) (.seq (.reg F45_r10 [] [2] []) (.ret))),[.t 2]⟩
def F53_r0:List AIns:=[ii 2 (.box true (.t 0)),
 ii 4 (.mv (.c (.lit (.int .i64 0))))]
def F53_r1:List AIns:=[ii 7 (.mv (.t 1)),
 ii 8 (.bin .sub (.t 7) (.c (.lit (.int .i64 1)))),
 ii 1 (.mv (.t 8))]
def F53_r2:List AIns:=[ii 5 (.mv (.c (.lit (.int .i64 0))))]
def F53_r3:List AIns:=[ii 9 (.mv (.t 5)),
 ii 10 (.fa 3 (.t 2)),
 ii 11 (.ld false none (.t 10)),
 ii 12 (.len false (.t 11)),
 ii 13 (.bin .lss (.t 9) (.t 12)),
 ii 14 (.mv (.t 13)),
 ⟨some 15,(some (14,true)),.mv (.t 1)⟩,
 ⟨some 16,(some (14,true)),.bin .gtr (.t 15) (.c (.lit (.int .i64 0)))⟩,
 ii 17 (.pick (.t 14) (.t 16) (.c (.lit (.bool false))))]
def F53_r5:List AIns:=[ii 20 (.fa 3 (.t 2)),
 ii 21 (.ld false none (.t 20)),
 ii 22 (.mv (.t 5)),
 ii 23 (.ia 5 (.t 21) (.t 22)),
 ii 24 (.ld false (some 5) (.t 23)),
 ii 25 (.mv (.t 1)),
 ii 26 (.call (.f N53_) [(.t 24),(.t 25)]),
 ii 1 (.mv (.t 26))]
def F53_r4:List AIns:=[ii 18 (.mv (.t 5)),
 ii 19 (.bin .add (.t 18) (.c (.lit (.int .i64 1)))),
 ii 5 (.mv (.t 19))]
def F53_l1:AC:=.seq (.seq (.reg F53_r3 [] [1,2,5,17] [2]) (.cond (.t 17) (.skip) (.exit 0))) (.seq (.block 1 (.reg F53_r5 [] [1,2,5] [2])) (.reg F53_r4 [] [1,2,5] [2]))
def F53_r6:List AIns:=[ii 6 (.mv (.c (.lit (.int .i64 0))))]
def F53_r7:List AIns:=[ii 27 (.mv (.t 6)),
 ii 28 (.fa 4 (.t 2)),
 ii 29 (.ld false none (.t 28)),
 ii 30 (.len false (.t 29)),
 ii 31 (.bin .lss (.t 27) (.t 30)),
 ii 32 (.mv (.t 31)),
 ⟨some 33,(some (32,true)),.mv (.t 1)⟩,
 ⟨some 34,(some (32,true)),.bin .gtr (.t 33) (.c (.lit (.int .i64 0)))⟩,
 ii 35 (.pick (.t 32) (.t 34) (.c (.lit (.bool false))))]
def F53_r9:List AIns:=[ii 38 (.fa 4 (.t 2)),
 ii 39 (.ld false none (.t 38)),
 ii 40 (.mv (.t 6)),
 ii 41 (.ia 7 (.t 39) (.t 40)),
 ii 42 (.fa 2 (.t 41)),
 ii 43 (.ld false (some 5) (.t 42)),
 ii 44 (.mv (.t 1)),
 ii 45 (.call (.f N53_) [(.t 43),(.t 44)]),
 ii 1 (.mv (.t 45))]
def F53_r8:List AIns:=[ii 36 (.mv (.t 6)),
 ii 37 (.bin .add (.t 36) (.c (.lit (.int .i64 1)))),
 ii 6 (.mv (.t 37))]
def F53_l2:AC:=.seq (.seq (.reg F53_r7 [] [1,2,6,35] [2]) (.cond (.t 35) (.skip) (.exit 2))) (.seq (.block 3 (.reg F53_r9 [] [1,2,6] [2])) (.reg F53_r8 [] [1,2,6] [2]))
def F53_r10:List AIns:=[ii 46 (.mv (.t 1)),
 ii 47 (.mmx true (.t 46) (.c (.lit (.int .i64 0)))),
 ii 4 (.mv (.t 47))]
def F53_:AFun:=⟨2,.seq (.reg F53_r0 [] [1,2] [2]) (.seq (.reg F53_r1 [] [1,2] [2]) (.seq (.seq (.reg F53_r2 [] [1,2,5] [2]) (.block 0 (.loop F53_l1))) (.seq (.seq (.reg F53_r6 [] [1,2,6] [2]) (.block 2 (.loop F53_l2))) (.seq (.reg F53_r10 [] [4] []) (.ret))))),[.t 4]⟩
def F54_r0:List AIns:=[ii 1 (.box true (.t 0)),
 ii 2 (.mv (.c (.lit (.pointer none))))]
def F54_r1:List AIns:=[ii 4 (.ld false (some 2) (.t 1)),
 ii 5 (.mkm (.int .i64)),
 ii 6 (.mkm (.int .i64)),
 ii 7 (.build [.lit (.map none),.lit (.map none)] [(0,1,(.t 5)),(1,1,(.t 6))]),
 ii 8 (.build [.slice .full 3 [],.slice .full 8 [],.lit (.map none),.lit (.map none),.lit .nilFunc,.lit .nilFunc,.lit .nilFunc,.lit .nilFunc,.lit .nilFunc,.lit .nilFunc,.lit .nilFunc,.lit .nilFunc,.lit .nilFunc,.lit .nilFunc,.lit .nilFunc,.lit .nilFunc,.lit .nilFunc,.lit .nilFunc,.lit .nilFunc] [(0,2,(.t 4)),(2,2,(.t 7))]),
 ii 9 (.box false (.t 8)),
 ii 3 (.mv (.t 9))]
def F54_r2:List AIns:=[ii 10 (.mv (.t 3)),
 ii 11 (.mv (.t 3)),
 ii 12 (.mkf N105_ [(.t 11)] []),
 ii 13 (.mv (.t 3)),
 ii 14 (.mkf N106_ [(.t 13)] []),
 ii 15 (.mv (.t 3)),
 ii 16 (.mkf N107_ [(.t 15)] []),
 ii 17 (.mv (.t 3)),
 ii 18 (.mkf N108_ [(.t 17)] []),
 ii 19 (.mv (.t 3)),
 ii 20 (.mkf N109_ [(.t 19)] []),
 ii 21 (.mv (.t 3)),
 ii 22 (.mkf N105_ [(.t 21)] []),
 ii 23 (.mv (.t 3)),
 ii 24 (.mkf N107_ [(.t 23)] []),
 ii 25 (.mv (.t 3)),
 ii 26 (.mkf N108_ [(.t 25)] []),
 ii 27 (.mv (.t 3)),
 ii 28 (.mkf N109_ [(.t 27)] []),
 ii 29 (.mv (.t 3)),
 ii 30 (.mkf N110_ [(.t 29)] []),
 ii 31 (.mv (.t 3)),
 ii 32 (.mkf N111_ [(.t 31)] []),
 ii 33 (.mv (.t 3)),
 ii 34 (.mkf N112_ [(.t 33)] []),
 ii 35 (.mv (.t 3)),
 ii 36 (.mkf N112_ [(.t 35)] []),
 ii 37 (.mv (.t 3)),
 ii 38 (.mkf N113_ [(.t 37)] []),
 ii 39 (.mv (.t 3)),
 ii 40 (.mkf N112_ [(.t 39)] []),
 ii 41 (.build [.lit .nilFunc,.lit .nilFunc,.lit .nilFunc,.lit .nilFunc,.lit .nilFunc,.lit .nilFunc,.lit .nilFunc,.lit .nilFunc,.lit .nilFunc,.lit .nilFunc,.lit .nilFunc,.lit .nilFunc,.lit .nilFunc,.lit .nilFunc,.lit .nilFunc] [(0,1,(.t 12)),(1,1,(.t 14)),(2,1,(.t 16)),(3,1,(.t 18)),(4,1,(.t 20)),(5,1,(.t 22)),(6,1,(.t 24)),(7,1,(.t 26)),(8,1,(.t 28)),(9,1,(.t 30)),(10,1,(.t 32)),(11,1,(.t 34)),(12,1,(.t 36)),(13,1,(.t 38)),(14,1,(.t 40))]),
 ii 42 (.nck (.t 10)),
 ii 43 (.fa 4 (.t 42)),
 ⟨none,none,.st true 15 (.t 43) (.t 41)⟩]
def F54_r3:List AIns:=[ii 44 (.mv (.t 3)),
 ii 2 (.mv (.t 44))]
def F54_:AFun:=⟨1,.seq (.reg F54_r0 [] [1] [1]) (.seq (.reg F54_r1 [] [3] []) (.seq (.reg F54_r2 [] [3] []) (.seq (.reg F54_r3 [] [2] []) (.ret)))),[.t 2]⟩
def F55_r0:List AIns:=[ii 2 (.mv (.c (.lit (.int .i64 0))))]
def F55_r1:List AIns:=[ii 4 (.mv (.t 0)),
 ii 5 (.bin .lss (.t 4) (.c (.lit (.int .i64 0)))),
 ii 6 (.mv (.t 5)),
 ⟨some 7,(some (6,false)),.mv (.t 0)⟩,
 ⟨some 8,(some (6,false)),.bin .gtr (.t 7) (.c (.lit (.int .i64 14)))⟩,
 ii 9 (.pick (.t 6) (.c (.lit (.bool true))) (.t 8)),
 ii 3 (.mv (.t 9))]
def F55_r2:List AIns:=[ii 2 (.mv (.c (.lit (.int .i64 (-1)))))]
def F55_r3:List AIns:=[ii 11 (.mv (.t 0)),
 ii 12 (.bin .leq (.t 11) (.c (.lit (.int .i64 4)))),
 ii 10 (.mv (.t 12))]
def F55_r4:List AIns:=[ii 2 (.mv (.c (.lit (.int .i64 0))))]
def F55_r5:List AIns:=[ii 14 (.mv (.t 0)),
 ii 15 (.bin .leq (.t 14) (.c (.lit (.int .i64 8)))),
 ii 13 (.mv (.t 15))]
def F55_r6:List AIns:=[ii 2 (.mv (.c (.lit (.int .i64 1))))]
def F55_r7:List AIns:=[ii 2 (.mv (.c (.lit (.int .i64 2))))]
def F55_:AFun:=⟨1,.seq (.reg F55_r0 [] [0] []) (.seq (.block 0 (.seq (.reg F55_r1 [] [0,3] []) (.cond (.t 3) (.seq (.reg F55_r2 [] [2] []) (.ret)) (.seq (.reg F55_r3 [] [0,10] []) (.cond (.t 10) (.seq (.reg F55_r4 [] [2] []) (.ret)) (.seq (.reg F55_r5 [] [13] []) (.cond (.t 13) (.seq (.reg F55_r6 [] [2] []) (.ret)) (.skip)))))))) (.seq (.reg F55_r7 [] [2] []) (.ret))),[.t 2]⟩
def F56_r0:List AIns:=[ii 4 (.box true (.t 0)),
 ii 7 (.box true (.t 3)),
 ii 8 (.mv (.c (.lit (.bool false))))]
def F56_r1:List AIns:=[ii 10 (.fa 0 (.t 4)),
 ii 11 (.ld false none (.t 10)),
 ii 12 (.fa 1 (.t 4)),
 ii 13 (.ld false none (.t 12)),
 ii 14 (.build [.slice .full 3 [],.slice .full 8 [],.lit (.int .i64 0)] [(0,1,(.t 11)),(1,1,(.t 13)),(2,1,(.c (.lit (.int .i64 30000))))]),
 ii 15 (.box false (.t 14)),
 ii 9 (.mv (.t 15))]
def F56_r2:List AIns:=[ii 16 (.mv (.t 9)),
 ii 17 (.mv (.t 1)),
 ii 18 (.mv (.t 2)),
 ii 19 (.call (.f N91_) [(.t 17),(.t 18)]),
 ii 20 (.ld false (some 5) (.t 7)),
 ii 21 (.call (.f N94_) [(.t 16),(.t 19),(.t 20),(.c (.lit (.int .i64 1)))]),
 ii 8 (.mv (.t 21))]
def F56_:AFun:=⟨4,.seq (.reg F56_r0 [] [1,2,4,7] [4,7]) (.seq (.reg F56_r1 [] [1,2,7,9] [7]) (.seq (.reg F56_r2 [] [8] []) (.ret))),[.t 8]⟩
def F57_r0:List AIns:=[ii 3 (.box true (.t 1)),
 ii 4 (.mv (.c (.lit (.int .i64 0)))),
 ii 5 (.mv (.c (.lit (.bool false))))]
def F57_r1:List AIns:=[ii 6 (.mv (.t 0)),
 ii 7 (.fa 0 (.t 3)),
 ii 8 (.ld false none (.t 7)),
 ii 9 (.nck (.t 6)),
 ii 10 (.fa 4 (.t 9)),
 ii 11 (.iaa 15 1 (.t 10) (.t 8)),
 ii 12 (.ld true none (.t 11)),
 ii 13 (.ld false (some 5) (.t 3)),
 ii 14 (.call (.t 12) [(.t 13)]),
 ii 15 (.ext (.t 14) 0),
 ii 16 (.ext (.t 14) 1),
 ii 4 (.mv (.t 15)),
 ii 5 (.mv (.t 16))]
def F57_:AFun:=⟨2,.seq (.reg F57_r0 [] [0,3] [3]) (.seq (.reg F57_r1 [] [4,5] []) (.ret)),[.t 4,.t 5]⟩
def F64_r0:List AIns:=[ii 2 (.mv (.c (.slice .full 3 [])))]
def F64_r1:List AIns:=[ii 3 (.mv (.c (.slice .full 3 [])))]
def F64_r2:List AIns:=[ii 9 (.mv (.t 0)),
 ii 10 (.len false (.t 9)),
 ii 11 (.mv (.c (.lit (.int .i64 0))))]
def F64_r3:List AIns:=[ii 12 (.bin .lss (.t 11) (.t 10))]
def F64_r4:List AIns:=[ii 13 (.ia 3 (.t 9) (.t 11)),
 ii 14 (.ld false (some 3) (.t 13)),
 ii 5 (.alloc true [.lit (.string ⟨#[]⟩),.lit (.bool false),.slice .full 2 []]),
 ⟨none,none,.st false 3 (.t 5) (.t 14)⟩]
def F64_r5:List AIns:=[ii 6 (.mv (.c (.slice .full 2 [])))]
def F64_r6:List AIns:=[ii 15 (.fa 2 (.t 5)),
 ii 16 (.ld false none (.t 15)),
 ii 17 (.len false (.t 16)),
 ii 18 (.mv (.c (.lit (.int .i64 0))))]
def F64_r7:List AIns:=[ii 19 (.bin .lss (.t 18) (.t 17))]
def F64_r8:List AIns:=[ii 20 (.ia 2 (.t 16) (.t 18)),
 ii 21 (.ld false (some 2) (.t 20)),
 ii 8 (.alloc true [.lit (.string ⟨#[]⟩),.slice .full 2 []]),
 ⟨none,none,.st false 2 (.t 8) (.t 21)⟩]
def F64_r9:List AIns:=[ii 22 (.mv (.t 6)),
 ii 23 (.fa 0 (.t 8)),
 ii 24 (.ld false none (.t 23)),
 ii 25 (.fa 1 (.t 8)),
 ii 26 (.ld false none (.t 25)),
 ii 27 (.app 2 16 (.c (.slice .full 2 [])) (.t 26)),
 ii 28 (.build [.lit (.string ⟨#[]⟩),.slice .full 2 []] [(0,1,(.t 24)),(1,1,(.t 27))]),
 ii 29 (.bsl 2 [(.t 28)]),
 ii 30 (.app 2 40 (.t 22) (.t 29)),
 ii 6 (.mv (.t 30))]
def F64_r10:List AIns:=[ii 31 (.bin .add (.t 18) (.c (.lit (.int .i64 1)))),
 ii 18 (.mv (.t 31))]
def F64_l2:AC:=.seq (.reg F64_r7 [] [3,5,6,9,10,11,16,17,18,19] [5]) (.seq (.cond (.t 19) (.skip) (.exit 2)) (.seq (.block 3 (.seq (.reg F64_r8 [] [3,5,6,8,9,10,11,16,17,18] [5,8]) (.reg F64_r9 [] [3,5,6,9,10,11,16,17,18] [5]))) (.reg F64_r10 [] [3,5,6,9,10,11,16,17,18] [5])))
def F64_r11:List AIns:=[ii 32 (.mv (.t 3)),
 ii 33 (.fa 0 (.t 5)),
 ii 34 (.ld false none (.t 33)),
 ii 35 (.fa 1 (.t 5)),
 ii 36 (.ld false none (.t 35)),
 ii 37 (.mv (.t 6)),
 ii 38 (.build [.lit (.string ⟨#[]⟩),.lit (.bool false),.slice .full 2 []] [(0,1,(.t 34)),(1,1,(.t 36)),(2,1,(.t 37))]),
 ii 39 (.bsl 3 [(.t 38)]),
 ii 40 (.app 3 48 (.t 32) (.t 39)),
 ii 3 (.mv (.t 40))]
def F64_r12:List AIns:=[ii 41 (.bin .add (.t 11) (.c (.lit (.int .i64 1)))),
 ii 11 (.mv (.t 41))]
def F64_l1:AC:=.seq (.reg F64_r3 [] [3,9,10,11,12] []) (.seq (.cond (.t 12) (.skip) (.exit 0)) (.seq (.block 1 (.seq (.reg F64_r4 [] [3,5,9,10,11] [5]) (.seq (.reg F64_r5 [] [3,5,6,9,10,11] [5]) (.seq (.seq (.reg F64_r6 [] [3,5,6,9,10,11,16,17,18] [5]) (.block 2 (.loop F64_l2))) (.reg F64_r11 [] [3,9,10,11] []))))) (.reg F64_r12 [] [3,9,10,11] [])))
def F64_r13:List AIns:=[ii 42 (.mv (.t 3)),
 ii 2 (.mv (.t 42))]
def F64_:AFun:=⟨1,.seq (.reg F64_r0 [] [0] []) (.seq (.reg F64_r1 [] [0,3] []) (.seq (.seq (.reg F64_r2 [] [3,9,10,11] []) (.block 0 (.loop F64_l1))) (.seq (.reg F64_r13 [] [2] []) (.ret)))),[.t 2]⟩
def F65_r0:List AIns:=[ii 4 (.mv (.c (.lit (.bool false))))]
def F65_r1:List AIns:=[ii 8 (.mv (.t 0)),
 ii 9 (.len false (.t 8)),
 ii 10 (.mv (.t 1)),
 ii 11 (.len false (.t 10)),
 ii 12 (.bin .neq (.t 9) (.t 11))]
def F65_r2:List AIns:=[ii 4 (.mv (.c (.lit (.bool false))))]
def F65_r3:List AIns:=[ii 13 (.mv (.t 0)),
 ii 14 (.len false (.t 13)),
 ii 15 (.mv (.c (.lit (.int .i64 0))))]
def F65_r4:List AIns:=[ii 16 (.bin .lss (.t 15) (.t 14))]
def F65_r5:List AIns:=[ii 17 (.mv (.t 15)),
 ii 5 (.mv (.t 17))]
def F65_r6:List AIns:=[ii 18 (.mv (.t 0)),
 ii 19 (.mv (.t 5)),
 ii 20 (.ia 3 (.t 18) (.t 19)),
 ii 21 (.fa 0 (.t 20)),
 ii 22 (.ld false none (.t 21)),
 ii 23 (.mv (.t 1)),
 ii 24 (.mv (.t 5)),
 ii 25 (.ia 3 (.t 23) (.t 24)),
 ii 26 (.fa 0 (.t 25)),
 ii 27 (.ld false none (.t 26)),
 ii 28 (.bin .neq (.t 22) (.t 27)),
 ii 29 (.mv (.t 28)),
 ⟨some 30,(some (29,false)),.mv (.t 0)⟩,
 ⟨some 31,(some (29,false)),.mv (.t 5)⟩,
 ⟨some 32,(some (29,false)),.ia 3 (.t 30) (.t 31)⟩,
 ⟨some 33,(some (29,false)),.fa 1 (.t 32)⟩,
 ⟨some 34,(some (29,false)),.ld false none (.t 33)⟩,
 ⟨some 35,(some (29,false)),.mv (.t 1)⟩,
 ⟨some 36,(some (29,false)),.mv (.t 5)⟩,
 ⟨some 37,(some (29,false)),.ia 3 (.t 35) (.t 36)⟩,
 ⟨some 38,(some (29,false)),.fa 1 (.t 37)⟩,
 ⟨some 39,(some (29,false)),.ld false none (.t 38)⟩,
 ⟨some 40,(some (29,false)),.beq true (.t 34) (.t 39)⟩,
 ii 41 (.pick (.t 29) (.c (.lit (.bool true))) (.t 40)),
 ii 42 (.mv (.t 41)),
 ⟨some 43,(some (42,false)),.mv (.t 0)⟩,
 ⟨some 44,(some (42,false)),.mv (.t 5)⟩,
 ⟨some 45,(some (42,false)),.ia 3 (.t 43) (.t 44)⟩,
 ⟨some 46,(some (42,false)),.fa 2 (.t 45)⟩,
 ⟨some 47,(some (42,false)),.ld false none (.t 46)⟩,
 ⟨some 48,(some (42,false)),.len false (.t 47)⟩,
 ⟨some 49,(some (42,false)),.mv (.t 1)⟩,
 ⟨some 50,(some (42,false)),.mv (.t 5)⟩,
 ⟨some 51,(some (42,false)),.ia 3 (.t 49) (.t 50)⟩,
 ⟨some 52,(some (42,false)),.fa 2 (.t 51)⟩,
 ⟨some 53,(some (42,false)),.ld false none (.t 52)⟩,
 ⟨some 54,(some (42,false)),.len false (.t 53)⟩,
 ⟨some 55,(some (42,false)),.bin .neq (.t 48) (.t 54)⟩,
 ii 56 (.pick (.t 42) (.c (.lit (.bool true))) (.t 55))]
def F65_r7:List AIns:=[ii 4 (.mv (.c (.lit (.bool false))))]
def F65_r8:List AIns:=[ii 57 (.mv (.t 0)),
 ii 58 (.mv (.t 5)),
 ii 59 (.ia 3 (.t 57) (.t 58)),
 ii 60 (.fa 2 (.t 59)),
 ii 61 (.ld false none (.t 60)),
 ii 62 (.len false (.t 61)),
 ii 63 (.mv (.c (.lit (.int .i64 0))))]
def F65_r9:List AIns:=[ii 64 (.bin .lss (.t 63) (.t 62))]
def F65_r10:List AIns:=[ii 65 (.mv (.t 63)),
 ii 66 (.ia 2 (.t 61) (.t 63)),
 ii 67 (.ld false (some 2) (.t 66)),
 ii 7 (.alloc true [.lit (.string ⟨#[]⟩),.slice .full 2 []]),
 ii 6 (.mv (.t 65)),
 ⟨none,none,.st false 2 (.t 7) (.t 67)⟩]
def F65_r11:List AIns:=[ii 68 (.fa 0 (.t 7)),
 ii 69 (.ld false none (.t 68)),
 ii 70 (.mv (.t 1)),
 ii 71 (.mv (.t 5)),
 ii 72 (.ia 3 (.t 70) (.t 71)),
 ii 73 (.fa 2 (.t 72)),
 ii 74 (.ld false none (.t 73)),
 ii 75 (.mv (.t 6)),
 ii 76 (.ia 2 (.t 74) (.t 75)),
 ii 77 (.fa 0 (.t 76)),
 ii 78 (.ld false none (.t 77)),
 ii 79 (.bin .neq (.t 69) (.t 78)),
 ii 80 (.mv (.t 79)),
 ⟨some 81,(some (80,false)),.fa 1 (.t 7)⟩,
 ⟨some 82,(some (80,false)),.ld false none (.t 81)⟩,
 ⟨some 83,(some (80,false)),.mv (.t 1)⟩,
 ⟨some 84,(some (80,false)),.mv (.t 5)⟩,
 ⟨some 85,(some (80,false)),.ia 3 (.t 83) (.t 84)⟩,
 ⟨some 86,(some (80,false)),.fa 2 (.t 85)⟩,
 ⟨some 87,(some (80,false)),.ld false none (.t 86)⟩,
 ⟨some 88,(some (80,false)),.mv (.t 6)⟩,
 ⟨some 89,(some (80,false)),.ia 2 (.t 87) (.t 88)⟩,
 ⟨some 90,(some (80,false)),.fa 1 (.t 89)⟩,
 ⟨some 91,(some (80,false)),.ld false none (.t 90)⟩,
 ⟨some 92,(some (80,false)),.call (.f N66_) [(.t 82),(.t 91)]⟩,
 ⟨some 93,(some (80,false)),.unot (.t 92)⟩,
 ii 94 (.pick (.t 80) (.c (.lit (.bool true))) (.t 93))]
def F65_r12:List AIns:=[ii 4 (.mv (.c (.lit (.bool false))))]
def F65_r13:List AIns:=[ii 95 (.bin .add (.t 63) (.c (.lit (.int .i64 1)))),
 ii 63 (.mv (.t 95))]
def F65_l2:AC:=.seq (.reg F65_r9 [] [0,1,5,14,15,61,62,63,64] []) (.seq (.cond (.t 64) (.skip) (.exit 2)) (.seq (.block 3 (.seq (.reg F65_r10 [] [0,1,5,6,7,14,15,61,62,63] [7]) (.seq (.reg F65_r11 [] [0,1,5,14,15,61,62,63,94] []) (.cond (.t 94) (.seq (.reg F65_r12 [] [4] []) (.ret)) (.skip))))) (.reg F65_r13 [] [0,1,5,14,15,61,62,63] [])))
def F65_r14:List AIns:=[ii 96 (.bin .add (.t 15) (.c (.lit (.int .i64 1)))),
 ii 15 (.mv (.t 96))]
def F65_l1:AC:=.seq (.reg F65_r4 [] [0,1,14,15,16] []) (.seq (.cond (.t 16) (.skip) (.exit 0)) (.seq (.block 1 (.seq (.reg F65_r5 [] [0,1,5,14,15] []) (.seq (.seq (.reg F65_r6 [] [0,1,5,14,15,56] []) (.cond (.t 56) (.seq (.reg F65_r7 [] [4] []) (.ret)) (.skip))) (.seq (.reg F65_r8 [] [0,1,5,14,15,61,62,63] []) (.block 2 (.loop F65_l2)))))) (.reg F65_r14 [] [0,1,14,15] [])))
def F65_r15:List AIns:=[ii 4 (.mv (.c (.lit (.bool true))))]
def F65_:AFun:=⟨2,.seq (.reg F65_r0 [] [0,1] []) (.seq (.seq (.reg F65_r1 [] [0,1,12] []) (.cond (.t 12) (.seq (.reg F65_r2 [] [4] []) (.ret)) (.skip))) (.seq (.seq (.reg F65_r3 [] [0,1,14,15] []) (.block 0 (.loop F65_l1))) (.seq (.reg F65_r15 [] [4] []) (.ret)))),[.t 4]⟩
def F66_r0:List AIns:=[ii 4 (.mv (.c (.lit (.bool false))))]
def F66_r1:List AIns:=[ii 6 (.mv (.t 0)),
 ii 7 (.len false (.t 6)),
 ii 8 (.mv (.t 1)),
 ii 9 (.len false (.t 8)),
 ii 10 (.bin .neq (.t 7) (.t 9))]
def F66_r2:List AIns:=[ii 4 (.mv (.c (.lit (.bool false))))]
def F66_r3:List AIns:=[ii 11 (.mv (.t 0)),
 ii 12 (.len false (.t 11)),
 ii 13 (.mv (.c (.lit (.int .i64 0))))]
def F66_r4:List AIns:=[ii 14 (.bin .lss (.t 13) (.t 12))]
def F66_r5:List AIns:=[ii 15 (.mv (.t 13)),
 ii 5 (.mv (.t 15))]
def F66_r6:List AIns:=[ii 16 (.mv (.t 0)),
 ii 17 (.mv (.t 5)),
 ii 18 (.ia 2 (.t 16) (.t 17)),
 ii 19 (.ld false (some 2) (.t 18)),
 ii 20 (.mv (.t 1)),
 ii 21 (.mv (.t 5)),
 ii 22 (.ia 2 (.t 20) (.t 21)),
 ii 23 (.ld false (some 2) (.t 22)),
 ii 24 (.aeq true [.i,.b] (.t 19) (.t 23))]
def F66_r7:List AIns:=[ii 4 (.mv (.c (.lit (.bool false))))]
def F66_r8:List AIns:=[ii 25 (.bin .add (.t 13) (.c (.lit (.int .i64 1)))),
 ii 13 (.mv (.t 25))]
def F66_l1:AC:=.seq (.reg F66_r4 [] [0,1,12,13,14] []) (.seq (.cond (.t 14) (.skip) (.exit 0)) (.seq (.block 1 (.seq (.reg F66_r5 [] [0,1,5,12,13] []) (.seq (.reg F66_r6 [] [0,1,12,13,24] []) (.cond (.t 24) (.seq (.reg F66_r7 [] [4] []) (.ret)) (.skip))))) (.reg F66_r8 [] [0,1,12,13] [])))
def F66_r9:List AIns:=[ii 4 (.mv (.c (.lit (.bool true))))]
def F66_:AFun:=⟨2,.seq (.reg F66_r0 [] [0,1] []) (.seq (.seq (.reg F66_r1 [] [0,1,10] []) (.cond (.t 10) (.seq (.reg F66_r2 [] [4] []) (.ret)) (.skip))) (.seq (.seq (.reg F66_r3 [] [0,1,12,13] []) (.block 0 (.loop F66_l1))) (.seq (.reg F66_r9 [] [4] []) (.ret)))),[.t 4]⟩
def F67_r0:List AIns:=[ii 4 (.mv (.c (.lit (.bool false))))]
def F67_r1:List AIns:=[ii 6 (.mv (.t 0)),
 ii 7 (.len false (.t 6)),
 ii 8 (.mv (.t 1)),
 ii 9 (.len false (.t 8)),
 ii 10 (.bin .neq (.t 7) (.t 9))]
def F67_r2:List AIns:=[ii 4 (.mv (.c (.lit (.bool false))))]
def F67_r3:List AIns:=[ii 11 (.mv (.t 0)),
 ii 12 (.len false (.t 11)),
 ii 13 (.mv (.c (.lit (.int .i64 0))))]
def F67_r4:List AIns:=[ii 14 (.bin .lss (.t 13) (.t 12))]
def F67_r5:List AIns:=[ii 15 (.mv (.t 13)),
 ii 5 (.mv (.t 15))]
def F67_r6:List AIns:=[ii 16 (.mv (.t 0)),
 ii 17 (.mv (.t 5)),
 ii 18 (.ia 1 (.t 16) (.t 17)),
 ii 19 (.ld false none (.t 18)),
 ii 20 (.mv (.t 1)),
 ii 21 (.mv (.t 5)),
 ii 22 (.ia 1 (.t 20) (.t 21)),
 ii 23 (.ld false none (.t 22)),
 ii 24 (.beq true (.t 19) (.t 23))]
def F67_r7:List AIns:=[ii 4 (.mv (.c (.lit (.bool false))))]
def F67_r8:List AIns:=[ii 25 (.bin .add (.t 13) (.c (.lit (.int .i64 1)))),
 ii 13 (.mv (.t 25))]
def F67_l1:AC:=.seq (.reg F67_r4 [] [0,1,12,13,14] []) (.seq (.cond (.t 14) (.skip) (.exit 0)) (.seq (.block 1 (.seq (.reg F67_r5 [] [0,1,5,12,13] []) (.seq (.reg F67_r6 [] [0,1,12,13,24] []) (.cond (.t 24) (.seq (.reg F67_r7 [] [4] []) (.ret)) (.skip))))) (.reg F67_r8 [] [0,1,12,13] [])))
def F67_r9:List AIns:=[ii 4 (.mv (.c (.lit (.bool true))))]
def F67_:AFun:=⟨2,.seq (.reg F67_r0 [] [0,1] []) (.seq (.seq (.reg F67_r1 [] [0,1,10] []) (.cond (.t 10) (.seq (.reg F67_r2 [] [4] []) (.ret)) (.skip))) (.seq (.seq (.reg F67_r3 [] [0,1,12,13] []) (.block 0 (.loop F67_l1))) (.seq (.reg F67_r9 [] [4] []) (.ret)))),[.t 4]⟩
def F88_r0:List AIns:=[ii 1 (.box false (.t 0)),
 ii 2 (.mv (.c (.lit (.bool false))))]
def F88_r1:List AIns:=[ii 10 (.ld true none (.t 1)),
 ii 11 (.len false (.t 10)),
 ii 12 (.bin .gtr (.t 11) (.c (.lit (.int .i64 8))))]
def F88_r2:List AIns:=[ii 2 (.mv (.c (.lit (.bool false))))]
def F88_r3:List AIns:=[ii 13 (.mkm .str),
 ii 14 (.mkm .str),
 ii 4 (.alloc false [.lit (.map none)]),
 ii 3 (.mv (.t 13)),
 ⟨none,none,.st true 1 (.t 4) (.t 14)⟩]
def F88_r4:List AIns:=[ii 15 (.mkf N138_ [] [(.t 4),(.t 1)]),
 ii 5 (.mv (.t 15))]
def F88_r5:List AIns:=[ii 16 (.ld true none (.t 1)),
 ii 17 (.len false (.t 16)),
 ii 18 (.mv (.c (.lit (.int .i64 0))))]
def F88_r6:List AIns:=[ii 19 (.bin .lss (.t 18) (.t 17))]
def F88_r7:List AIns:=[ii 20 (.ia 3 (.t 16) (.t 18)),
 ii 21 (.ld false (some 3) (.t 20)),
 ii 7 (.alloc true [.lit (.string ⟨#[]⟩),.lit (.bool false),.slice .full 2 []]),
 ⟨none,none,.st false 3 (.t 7) (.t 21)⟩]
def F88_r8:List AIns:=[ii 22 (.fa 0 (.t 7)),
 ii 23 (.ld false none (.t 22)),
 ii 24 (.call (.f N89_) [(.t 23)]),
 ii 25 (.unot (.t 24)),
 ii 26 (.mv (.t 25)),
 ⟨some 27,(some (26,false)),.mv (.t 3)⟩,
 ⟨some 28,(some (26,false)),.fa 0 (.t 7)⟩,
 ⟨some 29,(some (26,false)),.ld false none (.t 28)⟩,
 ⟨some 30,(some (26,false)),.lk .str (.lit (.bool false)) false (.t 27) (.t 29)⟩,
 ii 31 (.pick (.t 26) (.c (.lit (.bool true))) (.t 30)),
 ii 32 (.mv (.t 31)),
 ⟨some 33,(some (32,false)),.fa 2 (.t 7)⟩,
 ⟨some 34,(some (32,false)),.ld false none (.t 33)⟩,
 ⟨some 35,(some (32,false)),.len false (.t 34)⟩,
 ⟨some 36,(some (32,false)),.bin .lss (.t 35) (.c (.lit (.int .i64 1)))⟩,
 ii 37 (.pick (.t 32) (.c (.lit (.bool true))) (.t 36)),
 ii 38 (.mv (.t 37)),
 ⟨some 39,(some (38,false)),.fa 2 (.t 7)⟩,
 ⟨some 40,(some (38,false)),.ld false none (.t 39)⟩,
 ⟨some 41,(some (38,false)),.len false (.t 40)⟩,
 ⟨some 42,(some (38,false)),.bin .gtr (.t 41) (.c (.lit (.int .i64 6)))⟩,
 ii 43 (.pick (.t 38) (.c (.lit (.bool true))) (.t 42))]
def F88_r9:List AIns:=[ii 2 (.mv (.c (.lit (.bool false))))]
def F88_r10:List AIns:=[ii 44 (.mv (.t 3)),
 ii 45 (.fa 0 (.t 7)),
 ii 46 (.ld false none (.t 45)),
 ⟨none,none,.mu .str (.t 44) (.t 46) (.c (.lit (.bool true)))⟩]
def F88_r11:List AIns:=[ii 47 (.fa 2 (.t 7)),
 ii 48 (.ld false none (.t 47)),
 ii 49 (.len false (.t 48)),
 ii 50 (.mv (.c (.lit (.int .i64 0))))]
def F88_r12:List AIns:=[ii 51 (.bin .lss (.t 50) (.t 49))]
def F88_r13:List AIns:=[ii 52 (.ia 2 (.t 48) (.t 50)),
 ii 53 (.ld false (some 2) (.t 52)),
 ii 9 (.alloc true [.lit (.string ⟨#[]⟩),.slice .full 2 []]),
 ⟨none,none,.st false 2 (.t 9) (.t 53)⟩]
def F88_r14:List AIns:=[ii 54 (.mv (.t 5)),
 ii 55 (.ld false (some 2) (.t 9)),
 ii 56 (.call (.t 54) [(.t 55)]),
 ii 57 (.unot (.t 56))]
def F88_r15:List AIns:=[ii 2 (.mv (.c (.lit (.bool false))))]
def F88_r16:List AIns:=[ii 58 (.bin .add (.t 50) (.c (.lit (.int .i64 1)))),
 ii 50 (.mv (.t 58))]
def F88_l2:AC:=.seq (.reg F88_r12 [] [3,5,16,17,18,48,49,50,51] []) (.seq (.cond (.t 51) (.skip) (.exit 2)) (.seq (.block 3 (.seq (.reg F88_r13 [] [3,5,9,16,17,18,48,49,50] [9]) (.seq (.reg F88_r14 [] [3,5,16,17,18,48,49,50,57] []) (.cond (.t 57) (.seq (.reg F88_r15 [] [2] []) (.ret)) (.skip))))) (.reg F88_r16 [] [3,5,16,17,18,48,49,50] [])))
def F88_r17:List AIns:=[ii 59 (.bin .add (.t 18) (.c (.lit (.int .i64 1)))),
 ii 18 (.mv (.t 59))]
def F88_l1:AC:=.seq (.reg F88_r6 [] [3,5,16,17,18,19] []) (.seq (.cond (.t 19) (.skip) (.exit 0)) (.seq (.block 1 (.seq (.reg F88_r7 [] [3,5,7,16,17,18] [7]) (.seq (.seq (.reg F88_r8 [] [3,5,7,16,17,18,43] [7]) (.cond (.t 43) (.seq (.reg F88_r9 [] [2] []) (.ret)) (.skip))) (.seq (.reg F88_r10 [] [3,5,7,16,17,18] [7]) (.seq (.reg F88_r11 [] [3,5,16,17,18,48,49,50] []) (.block 2 (.loop F88_l2))))))) (.reg F88_r17 [] [3,5,16,17,18] [])))
def F88_r18:List AIns:=[ii 2 (.mv (.c (.lit (.bool true))))]
def F88_:AFun:=⟨1,.seq (.reg F88_r0 [] [1] []) (.seq (.seq (.reg F88_r1 [] [1,12] []) (.cond (.t 12) (.seq (.reg F88_r2 [] [2] []) (.ret)) (.skip))) (.seq (.reg F88_r3 [] [1,3,4] []) (.seq (.reg F88_r4 [] [1,3,5] []) (.seq (.seq (.reg F88_r5 [] [3,5,16,17,18] []) (.block 0 (.loop F88_l1))) (.seq (.reg F88_r18 [] [2] []) (.ret)))))),[.t 2]⟩
def F89_r0:List AIns:=[ii 2 (.mv (.c (.lit (.bool false))))]
def F89_r1:List AIns:=[ii 3 (.mv (.t 0)),
 ii 4 (.len true (.t 3)),
 ii 5 (.bin .geq (.t 4) (.c (.lit (.int .i64 1)))),
 ii 6 (.mv (.t 5)),
 ⟨some 7,(some (6,true)),.mv (.t 0)⟩,
 ⟨some 8,(some (6,true)),.len true (.t 7)⟩,
 ⟨some 9,(some (6,true)),.bin .leq (.t 8) (.c (.lit (.int .i64 10)))⟩,
 ii 10 (.pick (.t 6) (.t 9) (.c (.lit (.bool false)))),
 ii 11 (.mv (.t 10)),
 ⟨some 12,(some (11,true)),.mv (.t 0)⟩,
 ⟨some 13,(some (11,true)),.ixs (.t 12) (.c (.lit (.int .i64 0)))⟩,
 ⟨some 14,(some (11,true)),.call (.f N140_) [(.t 13)]⟩,
 ii 15 (.pick (.t 11) (.t 14) (.c (.lit (.bool false)))),
 ii 16 (.mv (.t 15)),
 ⟨some 17,(some (16,true)),.mv (.t 0)⟩,
 ⟨some 18,(some (16,true)),.call (.f N141_) [(.t 17)]⟩,
 ii 19 (.pick (.t 16) (.t 18) (.c (.lit (.bool false)))),
 ii 20 (.mv (.t 19)),
 ⟨some 21,(some (20,true)),.mv (.t 0)⟩,
 ⟨some 22,(some (20,true)),.bin .add (.c (.lit (.string ⟨#[32]⟩))) (.t 21)⟩,
 ⟨some 23,(some (20,true)),.bin .add (.t 22) (.c (.lit (.string ⟨#[32]⟩)))⟩,
 ⟨some 24,(some (20,true)),.call (.f N142_) [(.c (.lit (.string ⟨#[32,100,97,116,97,32,99,111,100,97,116,97,32,102,117,110,32,105,110,116,32,105,102,122,32,99,97,115,101,32,99,111,99,97,115,101,32,108,101,116,32,101,109,105,116,32,108,97,98,101,108,32,103,111,116,111,32]⟩))),(.t 23)]⟩,
 ⟨some 25,(some (20,true)),.unot (.t 24)⟩,
 ii 26 (.pick (.t 20) (.t 25) (.c (.lit (.bool false)))),
 ii 2 (.mv (.t 26))]
def F89_:AFun:=⟨1,.seq (.reg F89_r0 [] [0] []) (.seq (.reg F89_r1 [] [2] []) (.ret)),[.t 2]⟩
def F90_r0:List AIns:=[ii 4 (.mv (.c (.lit (.bool false))))]
def F90_r1:List AIns:=[ii 9 (.mv (.t 0)),
 ii 10 (.len false (.t 9)),
 ii 11 (.mv (.t 1)),
 ii 12 (.len false (.t 11)),
 ii 13 (.bin .neq (.t 10) (.t 12))]
def F90_r2:List AIns:=[ii 4 (.mv (.c (.lit (.bool false))))]
def F90_r3:List AIns:=[ii 14 (.mkm (.int2 .i64)),
 ii 5 (.mv (.t 14))]
def F90_r4:List AIns:=[ii 15 (.mv (.t 0)),
 ii 16 (.len false (.t 15)),
 ii 17 (.mv (.c (.lit (.int .i64 0))))]
def F90_r5:List AIns:=[ii 18 (.bin .lss (.t 17) (.t 16))]
def F90_r6:List AIns:=[ii 19 (.mv (.t 17)),
 ii 20 (.ia 1 (.t 15) (.t 17)),
 ii 21 (.ld false none (.t 20)),
 ii 6 (.mv (.t 19)),
 ii 7 (.mv (.t 21))]
def F90_r7:List AIns:=[ii 22 (.mv (.t 1)),
 ii 23 (.mv (.t 6)),
 ii 24 (.ia 1 (.t 22) (.t 23)),
 ii 25 (.ld false none (.t 24)),
 ii 26 (.call (.f N143_) [(.t 25)]),
 ii 27 (.mv (.t 7)),
 ii 28 (.build [.lit (.int .i64 0),.lit (.int .i64 0)] [(0,1,(.t 26)),(1,1,(.t 27))]),
 ii 8 (.alloc true [.lit (.int .i64 0),.lit (.int .i64 0)]),
 ⟨none,none,.st false 2 (.t 8) (.t 28)⟩]
def F90_r8:List AIns:=[ii 29 (.mv (.t 7)),
 ii 30 (.call (.f N144_) [(.t 29)]),
 ii 31 (.unot (.t 30)),
 ii 32 (.mv (.t 31)),
 ⟨some 33,(some (32,false)),.mv (.t 5)⟩,
 ⟨some 34,(some (32,false)),.ld false (some 2) (.t 8)⟩,
 ⟨some 35,(some (32,false)),.lk (.int2 .i64) (.lit (.bool false)) false (.t 33) (.t 34)⟩,
 ii 36 (.pick (.t 32) (.c (.lit (.bool true))) (.t 35))]
def F90_r9:List AIns:=[ii 4 (.mv (.c (.lit (.bool false))))]
def F90_r10:List AIns:=[ii 37 (.mv (.t 5)),
 ii 38 (.ld false (some 2) (.t 8)),
 ⟨none,none,.mu (.int2 .i64) (.t 37) (.t 38) (.c (.lit (.bool true)))⟩]
def F90_r11:List AIns:=[ii 39 (.bin .add (.t 17) (.c (.lit (.int .i64 1)))),
 ii 17 (.mv (.t 39))]
def F90_l1:AC:=.seq (.reg F90_r5 [] [1,5,15,16,17,18] []) (.seq (.cond (.t 18) (.skip) (.exit 0)) (.seq (.block 1 (.seq (.reg F90_r6 [] [1,5,6,7,15,16,17] []) (.seq (.reg F90_r7 [] [1,5,7,8,15,16,17] [8]) (.seq (.seq (.reg F90_r8 [] [1,5,8,15,16,17,36] [8]) (.cond (.t 36) (.seq (.reg F90_r9 [] [4] []) (.ret)) (.skip))) (.reg F90_r10 [] [1,5,15,16,17] []))))) (.reg F90_r11 [] [1,5,15,16,17] [])))
def F90_r12:List AIns:=[ii 4 (.mv (.c (.lit (.bool true))))]
def F90_:AFun:=⟨2,.seq (.reg F90_r0 [] [0,1] []) (.seq (.seq (.reg F90_r1 [] [0,1,13] []) (.cond (.t 13) (.seq (.reg F90_r2 [] [4] []) (.ret)) (.skip))) (.seq (.reg F90_r3 [] [0,1,5] []) (.seq (.seq (.reg F90_r4 [] [1,5,15,16,17] []) (.block 0 (.loop F90_l1))) (.seq (.reg F90_r12 [] [4] []) (.ret))))),[.t 4]⟩
def F91_r0:List AIns:=[ii 4 (.alloc true [.lit (.map none),.lit (.map none)])]
def F91_r1:List AIns:=[ii 10 (.mkm (.int .i64)),
 ii 11 (.mkm (.int .i64)),
 ii 12 (.build [.lit (.map none),.lit (.map none)] [(0,1,(.t 10)),(1,1,(.t 11))]),
 ii 5 (.alloc true [.lit (.map none),.lit (.map none)]),
 ⟨none,none,.st false 2 (.t 5) (.t 12)⟩]
def F91_r2:List AIns:=[ii 13 (.mv (.t 0)),
 ii 14 (.len false (.t 13)),
 ii 15 (.mv (.c (.lit (.int .i64 0))))]
def F91_r3:List AIns:=[ii 16 (.bin .lss (.t 15) (.t 14))]
def F91_r4:List AIns:=[ii 17 (.ia 1 (.t 13) (.t 15)),
 ii 18 (.ld false none (.t 17)),
 ii 7 (.mv (.t 18))]
def F91_r5:List AIns:=[ii 19 (.iaa 2 1 (.t 5) (.c (.lit (.int .i64 0)))),
 ii 20 (.ld false none (.t 19)),
 ii 21 (.mv (.t 7)),
 ⟨none,none,.mu (.int .i64) (.t 20) (.t 21) (.c (.lit (.bool true)))⟩]
def F91_r6:List AIns:=[ii 22 (.bin .add (.t 15) (.c (.lit (.int .i64 1)))),
 ii 15 (.mv (.t 22))]
def F91_l1:AC:=.seq (.reg F91_r3 [] [1,4,5,13,14,15,16] [4,5]) (.seq (.cond (.t 16) (.skip) (.exit 0)) (.seq (.block 1 (.seq (.reg F91_r4 [] [1,4,5,7,13,14,15] [4,5]) (.reg F91_r5 [] [1,4,5,13,14,15] [4,5]))) (.reg F91_r6 [] [1,4,5,13,14,15] [4,5])))
def F91_r7:List AIns:=[ii 23 (.mv (.t 1)),
 ii 24 (.len false (.t 23)),
 ii 25 (.mv (.c (.lit (.int .i64 0))))]
def F91_r8:List AIns:=[ii 26 (.bin .lss (.t 25) (.t 24))]
def F91_r9:List AIns:=[ii 27 (.ia 1 (.t 23) (.t 25)),
 ii 28 (.ld false none (.t 27)),
 ii 9 (.mv (.t 28))]
def F91_r10:List AIns:=[ii 29 (.iaa 2 1 (.t 5) (.c (.lit (.int .i64 1)))),
 ii 30 (.ld false none (.t 29)),
 ii 31 (.mv (.t 9)),
 ⟨none,none,.mu (.int .i64) (.t 30) (.t 31) (.c (.lit (.bool true)))⟩]
def F91_r11:List AIns:=[ii 32 (.bin .add (.t 25) (.c (.lit (.int .i64 1)))),
 ii 25 (.mv (.t 32))]
def F91_l2:AC:=.seq (.reg F91_r8 [] [4,5,23,24,25,26] [4,5]) (.seq (.cond (.t 26) (.skip) (.exit 2)) (.seq (.block 3 (.seq (.reg F91_r9 [] [4,5,9,23,24,25] [4,5]) (.reg F91_r10 [] [4,5,23,24,25] [4,5]))) (.reg F91_r11 [] [4,5,23,24,25] [4,5])))
def F91_r12:List AIns:=[ii 33 (.ld false (some 2) (.t 5)),
 ⟨none,none,.st false 2 (.t 4) (.t 33)⟩]
def F91_:AFun:=⟨2,.seq (.reg F91_r0 [] [0,1,4] [4]) (.seq (.reg F91_r1 [] [0,1,4,5] [4,5]) (.seq (.seq (.reg F91_r2 [] [1,4,5,13,14,15] [4,5]) (.block 0 (.loop F91_l1))) (.seq (.seq (.reg F91_r7 [] [4,5,23,24,25] [4,5]) (.block 2 (.loop F91_l2))) (.seq (.reg F91_r12 [] [4] [4]) (.ret))))),[.cell (some 2) 4]⟩
def F92_r0:List AIns:=[ii 3 (.box false (.t 0)),
 ii 6 (.mv (.c (.lit .nilFunc)))]
def F92_r1:List AIns:=[ii 7 (.alloc false [.slice .full 2 []])]
def F92_r2:List AIns:=[ii 11 (.mv (.t 1)),
 ii 12 (.len false (.t 11)),
 ii 13 (.mv (.c (.lit (.int .i64 0))))]
def F92_r3:List AIns:=[ii 14 (.bin .lss (.t 13) (.t 12))]
def F92_r4:List AIns:=[ii 15 (.mv (.t 13)),
 ii 16 (.ia 1 (.t 11) (.t 13)),
 ii 17 (.ld false none (.t 16)),
 ii 8 (.mv (.t 15)),
 ii 9 (.mv (.t 17))]
def F92_r5:List AIns:=[ii 18 (.mv (.t 2)),
 ii 19 (.mv (.t 8)),
 ii 20 (.ia 1 (.t 18) (.t 19)),
 ii 21 (.ld false none (.t 20)),
 ii 22 (.call (.f N143_) [(.t 21)]),
 ii 10 (.mv (.t 22))]
def F92_r6:List AIns:=[ii 23 (.mv (.t 10)),
 ii 24 (.iaa 2 1 (.t 3) (.t 23)),
 ii 25 (.ld true none (.t 24)),
 ii 26 (.mv (.t 9)),
 ii 27 (.lk (.int .i64) (.lit (.bool false)) false (.t 25) (.t 26)),
 ii 28 (.unot (.t 27))]
def F92_r7:List AIns:=[ii 29 (.mv (.t 10)),
 ii 30 (.iaa 2 1 (.t 3) (.t 29)),
 ii 31 (.ld true none (.t 30)),
 ii 32 (.mv (.t 9)),
 ⟨none,none,.mu (.int .i64) (.t 31) (.t 32) (.c (.lit (.bool true)))⟩]
def F92_r8:List AIns:=[ii 33 (.ld true none (.t 7)),
 ii 34 (.mv (.t 10)),
 ii 35 (.mv (.t 9)),
 ii 36 (.build [.lit (.int .i64 0),.lit (.int .i64 0)] [(0,1,(.t 34)),(1,1,(.t 35))]),
 ii 37 (.bsl 2 [(.t 36)]),
 ii 38 (.app 2 16 (.t 33) (.t 37)),
 ⟨none,none,.st true 1 (.t 7) (.t 38)⟩]
def F92_r9:List AIns:=[ii 39 (.bin .add (.t 13) (.c (.lit (.int .i64 1)))),
 ii 13 (.mv (.t 39))]
def F92_l1:AC:=.seq (.reg F92_r3 [] [2,3,7,11,12,13,14] []) (.seq (.cond (.t 14) (.skip) (.exit 0)) (.seq (.block 1 (.seq (.reg F92_r4 [] [2,3,7,8,9,11,12,13] []) (.seq (.reg F92_r5 [] [2,3,7,9,10,11,12,13] []) (.seq (.reg F92_r6 [] [2,3,7,9,10,11,12,13,28] []) (.cond (.t 28) (.seq (.reg F92_r7 [] [2,3,7,9,10,11,12,13] []) (.reg F92_r8 [] [2,3,7,11,12,13] [])) (.skip)))))) (.reg F92_r9 [] [2,3,7,11,12,13] [])))
def F92_r10:List AIns:=[ii 40 (.mkf N145_ [] [(.t 7),(.t 3)]),
 ii 6 (.mv (.t 40))]
def F92_:AFun:=⟨3,.seq (.reg F92_r0 [] [1,2,3] []) (.seq (.reg F92_r1 [] [1,2,3,7] []) (.seq (.seq (.reg F92_r2 [] [2,3,7,11,12,13] []) (.block 0 (.loop F92_l1))) (.seq (.reg F92_r10 [] [6] []) (.ret)))),[.t 6]⟩
def F93_r0:List AIns:=[ii 2 (.mv (.c (.slice .full 1 [])))]
def F93_r1:List AIns:=[ii 3 (.mv (.c (.slice .full 1 [])))]
def F93_r2:List AIns:=[ii 6 (.mv (.t 0)),
 ii 7 (.len false (.t 6)),
 ii 8 (.mv (.c (.lit (.int .i64 0))))]
def F93_r3:List AIns:=[ii 9 (.bin .lss (.t 8) (.t 7))]
def F93_r4:List AIns:=[ii 10 (.ia 2 (.t 6) (.t 8)),
 ii 11 (.ld false (some 2) (.t 10)),
 ii 5 (.alloc true [.lit (.int .i64 0),.lit (.bool false)]),
 ⟨none,none,.st false 2 (.t 5) (.t 11)⟩]
def F93_r5:List AIns:=[ii 12 (.mv (.t 3)),
 ii 13 (.fa 1 (.t 5)),
 ii 14 (.ld false none (.t 13)),
 ii 15 (.bsl 1 [(.t 14)]),
 ii 16 (.app 1 1 (.t 12) (.t 15)),
 ii 3 (.mv (.t 16))]
def F93_r6:List AIns:=[ii 17 (.bin .add (.t 8) (.c (.lit (.int .i64 1)))),
 ii 8 (.mv (.t 17))]
def F93_l1:AC:=.seq (.reg F93_r3 [] [3,6,7,8,9] []) (.seq (.cond (.t 9) (.skip) (.exit 0)) (.seq (.block 1 (.seq (.reg F93_r4 [] [3,5,6,7,8] [5]) (.reg F93_r5 [] [3,6,7,8] []))) (.reg F93_r6 [] [3,6,7,8] [])))
def F93_r7:List AIns:=[ii 18 (.mv (.t 3)),
 ii 2 (.mv (.t 18))]
def F93_:AFun:=⟨1,.seq (.reg F93_r0 [] [0] []) (.seq (.reg F93_r1 [] [0,3] []) (.seq (.seq (.reg F93_r2 [] [3,6,7,8] []) (.block 0 (.loop F93_l1))) (.seq (.reg F93_r7 [] [2] []) (.ret)))),[.t 2]⟩
def F94_r0:List AIns:=[ii 5 (.box true (.t 1)),
 ii 6 (.box true (.t 2)),
 ii 8 (.mv (.c (.lit (.bool false))))]
def F94_r1:List AIns:=[ii 14 (.mv (.t 0)),
 ii 15 (.nck (.t 14)),
 ii 16 (.fa 2 (.t 15)),
 ii 17 (.ld true none (.t 16)),
 ii 18 (.bin .sub (.t 17) (.c (.lit (.int .i64 1)))),
 ii 19 (.nck (.t 14)),
 ii 20 (.fa 2 (.t 19)),
 ⟨none,none,.st true 1 (.t 20) (.t 18)⟩]
def F94_r2:List AIns:=[ii 21 (.mv (.t 0)),
 ii 22 (.nck (.t 21)),
 ii 23 (.fa 2 (.t 22)),
 ii 24 (.ld true none (.t 23)),
 ii 25 (.bin .lss (.t 24) (.c (.lit (.int .i64 0)))),
 ii 26 (.mv (.t 25)),
 ⟨some 27,(some (26,false)),.mv (.t 3)⟩,
 ⟨some 28,(some (26,false)),.bin .gtr (.t 27) (.c (.lit (.int .i64 4000)))⟩,
 ii 29 (.pick (.t 26) (.c (.lit (.bool true))) (.t 28))]
def F94_r3:List AIns:=[ii 8 (.mv (.c (.lit (.bool false))))]
def F94_r4:List AIns:=[ii 30 (.fa 0 (.t 6)),
 ii 31 (.ld false none (.t 30)),
 ii 32 (.bin .neq (.t 31) (.c (.lit (.int .i64 4)))),
 ii 33 (.mv (.t 32)),
 ⟨some 34,(some (33,true)),.fa 0 (.t 6)⟩,
 ⟨some 35,(some (33,true)),.ld false none (.t 34)⟩,
 ⟨some 36,(some (33,true)),.bin .neq (.t 35) (.c (.lit (.int .i64 8)))⟩,
 ii 37 (.pick (.t 33) (.t 36) (.c (.lit (.bool false)))),
 ii 38 (.mv (.t 37)),
 ⟨some 39,(some (38,true)),.fa 4 (.t 6)⟩,
 ⟨some 40,(some (38,true)),.ld false none (.t 39)⟩,
 ⟨some 41,(some (38,true)),.len false (.t 40)⟩,
 ⟨some 42,(some (38,true)),.bin .neq (.t 41) (.c (.lit (.int .i64 0)))⟩,
 ii 43 (.pick (.t 38) (.t 42) (.c (.lit (.bool false))))]
def F94_r5:List AIns:=[ii 8 (.mv (.c (.lit (.bool false))))]
def F94_r6:List AIns:=[ii 44 (.fa 2 (.t 6)),
 ii 45 (.ld false none (.t 44)),
 ii 46 (.bin .geq (.t 45) (.c (.lit (.int .i64 0)))),
 ii 47 (.mv (.t 46)),
 ⟨some 48,(some (47,true)),.fa 2 (.t 6)⟩,
 ⟨some 49,(some (47,true)),.ld false none (.t 48)⟩,
 ⟨some 50,(some (47,true)),.mv (.t 0)⟩,
 ⟨some 51,(some (47,true)),.nck (.t 50)⟩,
 ⟨some 52,(some (47,true)),.fa 0 (.t 51)⟩,
 ⟨some 53,(some (47,true)),.ld true none (.t 52)⟩,
 ⟨some 54,(some (47,true)),.len false (.t 53)⟩,
 ⟨some 55,(some (47,true)),.bin .leq (.t 49) (.t 54)⟩,
 ii 56 (.pick (.t 47) (.t 55) (.c (.lit (.bool false)))),
 ii 9 (.mv (.t 56))]
def F94_r7:List AIns:=[ii 57 (.fa 0 (.t 6)),
 ii 58 (.ld false none (.t 57))]
def F94_r8:List AIns:=[ii 60 (.bin .eql (.t 58) (.c (.lit (.int .i64 0)))),
 ii 59 (.mv (.t 60))]
def F94_r9:List AIns:=[ii 61 (.bin .eql (.t 58) (.c (.lit (.int .i64 5)))),
 ii 59 (.mv (.t 61))]
def F94_r10:List AIns:=[ii 62 (.fa 2 (.t 6)),
 ii 63 (.ld false none (.t 62)),
 ii 64 (.bin .eql (.t 63) (.c (.lit (.int .i64 0)))),
 ii 65 (.mv (.t 64)),
 ⟨some 66,(some (65,true)),.fa 3 (.t 6)⟩,
 ⟨some 67,(some (65,true)),.ld false none (.t 66)⟩,
 ⟨some 68,(some (65,true)),.len false (.t 67)⟩,
 ⟨some 69,(some (65,true)),.bin .eql (.t 68) (.c (.lit (.int .i64 0)))⟩,
 ii 70 (.pick (.t 65) (.t 69) (.c (.lit (.bool false)))),
 ii 71 (.mv (.t 70)),
 ⟨some 72,(some (71,true)),.fa 1 (.t 6)⟩,
 ⟨some 73,(some (71,true)),.ld false none (.t 72)⟩,
 ⟨some 74,(some (71,true)),.call (.f N144_) [(.t 73)]⟩,
 ii 75 (.pick (.t 71) (.t 74) (.c (.lit (.bool false)))),
 ii 76 (.mv (.t 75)),
 ⟨some 77,(some (76,true)),.fa 0 (.t 6)⟩,
 ⟨some 78,(some (76,true)),.ld false none (.t 77)⟩,
 ⟨some 79,(some (76,true)),.call (.f N55_) [(.t 78)]⟩,
 ⟨some 80,(some (76,true)),.iaa 2 1 (.t 5) (.t 79)⟩,
 ⟨some 81,(some (76,true)),.ld false none (.t 80)⟩,
 ⟨some 82,(some (76,true)),.fa 1 (.t 6)⟩,
 ⟨some 83,(some (76,true)),.ld false none (.t 82)⟩,
 ⟨some 84,(some (76,true)),.lk (.int .i64) (.lit (.bool false)) false (.t 81) (.t 83)⟩,
 ii 85 (.pick (.t 76) (.t 84) (.c (.lit (.bool false)))),
 ii 8 (.mv (.t 85))]
def F94_r11:List AIns:=[ii 87 (.bin .eql (.t 58) (.c (.lit (.int .i64 1)))),
 ii 86 (.mv (.t 87))]
def F94_r12:List AIns:=[ii 88 (.fa 2 (.t 6)),
 ii 89 (.ld false none (.t 88)),
 ii 90 (.bin .eql (.t 89) (.c (.lit (.int .i64 0)))),
 ii 91 (.mv (.t 90)),
 ⟨some 92,(some (91,true)),.fa 3 (.t 6)⟩,
 ⟨some 93,(some (91,true)),.ld false none (.t 92)⟩,
 ⟨some 94,(some (91,true)),.len false (.t 93)⟩,
 ⟨some 95,(some (91,true)),.bin .eql (.t 94) (.c (.lit (.int .i64 0)))⟩,
 ii 96 (.pick (.t 91) (.t 95) (.c (.lit (.bool false)))),
 ii 8 (.mv (.t 96))]
def F94_r13:List AIns:=[ii 98 (.bin .eql (.t 58) (.c (.lit (.int .i64 2)))),
 ii 97 (.mv (.t 98))]
def F94_r14:List AIns:=[ii 99 (.bin .eql (.t 58) (.c (.lit (.int .i64 6)))),
 ii 97 (.mv (.t 99))]
def F94_r15:List AIns:=[ii 101 (.mv (.t 0)),
 ii 102 (.fa 2 (.t 6)),
 ii 103 (.ld false none (.t 102)),
 ii 104 (.fa 1 (.t 6)),
 ii 105 (.ld false none (.t 104)),
 ii 106 (.fa 0 (.t 6)),
 ii 107 (.ld false none (.t 106)),
 ii 108 (.bin .eql (.t 107) (.c (.lit (.int .i64 6)))),
 ii 109 (.call (.f N146_) [(.t 101),(.t 103),(.t 105),(.t 108)]),
 ii 100 (.mv (.t 109)),
 ii 110 (.ext (.t 100) 0),
 ii 111 (.ext (.t 100) 1),
 ii 10 (.alloc true [.lit (.string ⟨#[]⟩),.slice .full 2 []]),
 ⟨none,none,.st false 2 (.t 10) (.t 110)⟩,
 ii 11 (.mv (.t 111))]
def F94_r16:List AIns:=[ii 112 (.mv (.t 11)),
 ii 113 (.mv (.t 112)),
 ⟨some 114,(some (113,true)),.mv (.t 0)⟩,
 ⟨some 115,(some (113,true)),.ld false (some 2) (.t 5)⟩,
 ⟨some 116,(some (113,true)),.fa 3 (.t 6)⟩,
 ⟨some 117,(some (113,true)),.ld false none (.t 116)⟩,
 ⟨some 118,(some (113,true)),.fa 1 (.t 10)⟩,
 ⟨some 119,(some (113,true)),.ld false none (.t 118)⟩,
 ⟨some 120,(some (113,true)),.mv (.t 3)⟩,
 ⟨some 121,(some (113,true)),.call (.f N147_) [(.t 114),(.t 115),(.t 117),(.t 119),(.t 120)]⟩,
 ii 122 (.pick (.t 113) (.t 121) (.c (.lit (.bool false)))),
 ii 8 (.mv (.t 122))]
def F94_r17:List AIns:=[ii 124 (.bin .eql (.t 58) (.c (.lit (.int .i64 3)))),
 ii 123 (.mv (.t 124))]
def F94_r18:List AIns:=[ii 125 (.bin .eql (.t 58) (.c (.lit (.int .i64 7)))),
 ii 123 (.mv (.t 125))]
def F94_r19:List AIns:=[ii 126 (.mv (.t 9)),
 ii 127 (.unot (.t 126)),
 ii 128 (.mv (.t 127)),
 ⟨some 129,(some (128,false)),.fa 1 (.t 6)⟩,
 ⟨some 130,(some (128,false)),.ld false none (.t 129)⟩,
 ⟨some 131,(some (128,false)),.call (.f N144_) [(.t 130)]⟩,
 ⟨some 132,(some (128,false)),.unot (.t 131)⟩,
 ii 133 (.pick (.t 128) (.c (.lit (.bool true))) (.t 132))]
def F94_r20:List AIns:=[ii 8 (.mv (.c (.lit (.bool false))))]
def F94_r21:List AIns:=[ii 134 (.ld false (some 2) (.t 5)),
 ii 135 (.fa 1 (.t 6)),
 ii 136 (.ld false none (.t 135)),
 ii 137 (.bsl 1 [(.t 136)]),
 ii 138 (.fa 0 (.t 6)),
 ii 139 (.ld false none (.t 138)),
 ii 140 (.bin .eql (.t 139) (.c (.lit (.int .i64 3)))),
 ii 141 (.bsl 1 [(.t 140)]),
 ii 142 (.call (.f N92_) [(.t 134),(.t 137),(.t 141)]),
 ii 12 (.mv (.t 142))]
def F94_r22:List AIns:=[ii 143 (.mv (.t 0)),
 ii 144 (.ld false (some 2) (.t 5)),
 ii 145 (.fa 3 (.t 6)),
 ii 146 (.ld false none (.t 145)),
 ii 147 (.mv (.t 3)),
 ii 148 (.bsl 1 [(.c (.lit (.int .i64 2)))]),
 ii 149 (.call (.f N148_) [(.t 143),(.t 144),(.t 146),(.t 147),(.t 148)]),
 ii 13 (.mv (.t 149))]
def F94_r23:List AIns:=[ii 150 (.mv (.t 12)),
 ii 151 (.call (.t 150) [])]
def F94_r24:List AIns:=[ii 152 (.mv (.t 13)),
 ii 8 (.mv (.t 152))]
def F94_r25:List AIns:=[ii 154 (.bin .eql (.t 58) (.c (.lit (.int .i64 4)))),
 ii 153 (.mv (.t 154))]
def F94_r26:List AIns:=[ii 155 (.bin .eql (.t 58) (.c (.lit (.int .i64 8)))),
 ii 153 (.mv (.t 155))]
def F94_r27:List AIns:=[ii 156 (.fa 1 (.t 6)),
 ii 157 (.ld false none (.t 156)),
 ii 158 (.bin .eql (.t 157) (.c (.lit (.int .i64 0)))),
 ii 159 (.mv (.t 158)),
 ⟨some 160,(some (159,true)),.fa 3 (.t 6)⟩,
 ⟨some 161,(some (159,true)),.ld false none (.t 160)⟩,
 ⟨some 162,(some (159,true)),.len false (.t 161)⟩,
 ⟨some 163,(some (159,true)),.bin .eql (.t 162) (.c (.lit (.int .i64 0)))⟩,
 ii 164 (.pick (.t 159) (.t 163) (.c (.lit (.bool false)))),
 ii 165 (.mv (.t 164)),
 ⟨some 166,(some (165,true)),.fa 2 (.t 6)⟩,
 ⟨some 167,(some (165,true)),.ld false none (.t 166)⟩,
 ⟨some 168,(some (165,true)),.bin .geq (.t 167) (.c (.lit (.int .i64 1)))⟩,
 ii 169 (.pick (.t 165) (.t 168) (.c (.lit (.bool false)))),
 ii 170 (.mv (.t 169)),
 ⟨some 171,(some (170,true)),.mv (.t 9)⟩,
 ii 172 (.pick (.t 170) (.t 171) (.c (.lit (.bool false)))),
 ii 173 (.mv (.t 172)),
 ⟨some 174,(some (173,true)),.mv (.t 0)⟩,
 ⟨some 175,(some (173,true)),.nck (.t 174)⟩,
 ⟨some 176,(some (173,true)),.fa 0 (.t 175)⟩,
 ⟨some 177,(some (173,true)),.ld true none (.t 176)⟩,
 ⟨some 178,(some (173,true)),.fa 2 (.t 6)⟩,
 ⟨some 179,(some (173,true)),.ld false none (.t 178)⟩,
 ⟨some 180,(some (173,true)),.bin .sub (.t 179) (.c (.lit (.int .i64 1)))⟩,
 ⟨some 181,(some (173,true)),.ia 3 (.t 177) (.t 180)⟩,
 ⟨some 182,(some (173,true)),.fa 1 (.t 181)⟩,
 ⟨some 183,(some (173,true)),.ld false none (.t 182)⟩,
 ⟨some 184,(some (173,true)),.fa 0 (.t 6)⟩,
 ⟨some 185,(some (173,true)),.ld false none (.t 184)⟩,
 ⟨some 186,(some (173,true)),.bin .eql (.t 185) (.c (.lit (.int .i64 4)))⟩,
 ⟨some 187,(some (173,true)),.beq false (.t 183) (.t 186)⟩,
 ii 188 (.pick (.t 173) (.t 187) (.c (.lit (.bool false)))),
 ii 189 (.mv (.t 188)),
 ⟨some 190,(some (189,true)),.mv (.t 0)⟩,
 ⟨some 191,(some (189,true)),.ld false (some 2) (.t 5)⟩,
 ⟨some 192,(some (189,true)),.ld false (some 5) (.t 6)⟩,
 ⟨some 193,(some (189,true)),.mv (.t 3)⟩,
 ⟨some 194,(some (189,true)),.call (.f N149_) [(.t 190),(.t 191),(.t 192),(.t 193)]⟩,
 ii 195 (.pick (.t 189) (.t 194) (.c (.lit (.bool false)))),
 ii 8 (.mv (.t 195))]
def F94_r28:List AIns:=[ii 197 (.bin .eql (.t 58) (.c (.lit (.int .i64 9)))),
 ii 196 (.mv (.t 197))]
def F94_r29:List AIns:=[ii 198 (.fa 1 (.t 6)),
 ii 199 (.ld false none (.t 198)),
 ii 200 (.bin .eql (.t 199) (.c (.lit (.int .i64 0)))),
 ii 201 (.mv (.t 200)),
 ⟨some 202,(some (201,true)),.mv (.t 9)⟩,
 ii 203 (.pick (.t 201) (.t 202) (.c (.lit (.bool false)))),
 ii 204 (.mv (.t 203)),
 ⟨some 205,(some (204,true)),.mv (.t 0)⟩,
 ⟨some 206,(some (204,true)),.ld false (some 2) (.t 5)⟩,
 ⟨some 207,(some (204,true)),.fa 3 (.t 6)⟩,
 ⟨some 208,(some (204,true)),.ld false none (.t 207)⟩,
 ⟨some 209,(some (204,true)),.mv (.t 3)⟩,
 ⟨some 210,(some (204,true)),.bsl 1 [(.c (.lit (.int .i64 0))),(.c (.lit (.int .i64 1)))]⟩,
 ⟨some 211,(some (204,true)),.call (.f N148_) [(.t 205),(.t 206),(.t 208),(.t 209),(.t 210)]⟩,
 ii 212 (.pick (.t 204) (.t 211) (.c (.lit (.bool false)))),
 ii 8 (.mv (.t 212))]
def F94_r30:List AIns:=[ii 214 (.bin .eql (.t 58) (.c (.lit (.int .i64 10)))),
 ii 213 (.mv (.t 214))]
def F94_r31:List AIns:=[ii 215 (.fa 2 (.t 6)),
 ii 216 (.ld false none (.t 215)),
 ii 217 (.bin .eql (.t 216) (.c (.lit (.int .i64 0)))),
 ii 218 (.mv (.t 217)),
 ⟨some 219,(some (218,true)),.fa 1 (.t 6)⟩,
 ⟨some 220,(some (218,true)),.ld false none (.t 219)⟩,
 ⟨some 221,(some (218,true)),.bin .geq (.t 220) (.c (.lit (.int .i64 0)))⟩,
 ii 222 (.pick (.t 218) (.t 221) (.c (.lit (.bool false)))),
 ii 223 (.mv (.t 222)),
 ⟨some 224,(some (223,true)),.fa 1 (.t 6)⟩,
 ⟨some 225,(some (223,true)),.ld false none (.t 224)⟩,
 ⟨some 226,(some (223,true)),.bin .leq (.t 225) (.c (.lit (.int .i64 6)))⟩,
 ii 227 (.pick (.t 223) (.t 226) (.c (.lit (.bool false)))),
 ii 228 (.mv (.t 227)),
 ⟨some 229,(some (228,true)),.mv (.t 0)⟩,
 ⟨some 230,(some (228,true)),.ld false (some 2) (.t 5)⟩,
 ⟨some 231,(some (228,true)),.fa 3 (.t 6)⟩,
 ⟨some 232,(some (228,true)),.ld false none (.t 231)⟩,
 ⟨some 233,(some (228,true)),.mv (.t 3)⟩,
 ⟨some 234,(some (228,true)),.bsl 1 [(.c (.lit (.int .i64 0))),(.c (.lit (.int .i64 0))),(.c (.lit (.int .i64 1)))]⟩,
 ⟨some 235,(some (228,true)),.call (.f N148_) [(.t 229),(.t 230),(.t 232),(.t 233),(.t 234)]⟩,
 ii 236 (.pick (.t 228) (.t 235) (.c (.lit (.bool false)))),
 ii 8 (.mv (.t 236))]
def F94_r32:List AIns:=[ii 238 (.bin .eql (.t 58) (.c (.lit (.int .i64 11)))),
 ii 237 (.mv (.t 238))]
def F94_r33:List AIns:=[ii 239 (.fa 2 (.t 6)),
 ii 240 (.ld false none (.t 239)),
 ii 241 (.bin .eql (.t 240) (.c (.lit (.int .i64 0)))),
 ii 242 (.mv (.t 241)),
 ⟨some 243,(some (242,true)),.fa 1 (.t 6)⟩,
 ⟨some 244,(some (242,true)),.ld false none (.t 243)⟩,
 ⟨some 245,(some (242,true)),.bin .eql (.t 244) (.c (.lit (.int .i64 0)))⟩,
 ii 246 (.pick (.t 242) (.t 245) (.c (.lit (.bool false)))),
 ii 247 (.mv (.t 246)),
 ⟨some 248,(some (247,true)),.mv (.t 0)⟩,
 ⟨some 249,(some (247,true)),.ld false (some 2) (.t 5)⟩,
 ⟨some 250,(some (247,true)),.fa 3 (.t 6)⟩,
 ⟨some 251,(some (247,true)),.ld false none (.t 250)⟩,
 ⟨some 252,(some (247,true)),.mv (.t 3)⟩,
 ⟨some 253,(some (247,true)),.bsl 1 [(.c (.lit (.int .i64 0))),(.c (.lit (.int .i64 2))),(.c (.lit (.int .i64 2)))]⟩,
 ⟨some 254,(some (247,true)),.call (.f N148_) [(.t 248),(.t 249),(.t 251),(.t 252),(.t 253)]⟩,
 ii 255 (.pick (.t 247) (.t 254) (.c (.lit (.bool false)))),
 ii 8 (.mv (.t 255))]
def F94_r34:List AIns:=[ii 257 (.bin .eql (.t 58) (.c (.lit (.int .i64 12)))),
 ii 256 (.mv (.t 257))]
def F94_r35:List AIns:=[ii 258 (.fa 2 (.t 6)),
 ii 259 (.ld false none (.t 258)),
 ii 260 (.bin .eql (.t 259) (.c (.lit (.int .i64 0)))),
 ii 261 (.mv (.t 260)),
 ⟨some 262,(some (261,true)),.fa 1 (.t 6)⟩,
 ⟨some 263,(some (261,true)),.ld false none (.t 262)⟩,
 ⟨some 264,(some (261,true)),.bin .eql (.t 263) (.c (.lit (.int .i64 0)))⟩,
 ii 265 (.pick (.t 261) (.t 264) (.c (.lit (.bool false)))),
 ii 266 (.mv (.t 265)),
 ⟨some 267,(some (266,true)),.mv (.t 0)⟩,
 ⟨some 268,(some (266,true)),.ld false (some 2) (.t 5)⟩,
 ⟨some 269,(some (266,true)),.fa 3 (.t 6)⟩,
 ⟨some 270,(some (266,true)),.ld false none (.t 269)⟩,
 ⟨some 271,(some (266,true)),.mv (.t 3)⟩,
 ⟨some 272,(some (266,true)),.bsl 1 [(.c (.lit (.int .i64 0))),(.c (.lit (.int .i64 2)))]⟩,
 ⟨some 273,(some (266,true)),.call (.f N148_) [(.t 267),(.t 268),(.t 270),(.t 271),(.t 272)]⟩,
 ii 274 (.pick (.t 266) (.t 273) (.c (.lit (.bool false)))),
 ii 8 (.mv (.t 274))]
def F94_r36:List AIns:=[ii 276 (.bin .eql (.t 58) (.c (.lit (.int .i64 13)))),
 ii 275 (.mv (.t 276))]
def F94_r37:List AIns:=[ii 277 (.fa 2 (.t 6)),
 ii 278 (.ld false none (.t 277)),
 ii 279 (.bin .eql (.t 278) (.c (.lit (.int .i64 0)))),
 ii 280 (.mv (.t 279)),
 ⟨some 281,(some (280,true)),.fa 1 (.t 6)⟩,
 ⟨some 282,(some (280,true)),.ld false none (.t 281)⟩,
 ⟨some 283,(some (280,true)),.bin .geq (.t 282) (.c (.lit (.int .i64 0)))⟩,
 ii 284 (.pick (.t 280) (.t 283) (.c (.lit (.bool false)))),
 ii 285 (.mv (.t 284)),
 ⟨some 286,(some (285,true)),.fa 1 (.t 6)⟩,
 ⟨some 287,(some (285,true)),.ld false none (.t 286)⟩,
 ⟨some 288,(some (285,true)),.mv (.t 0)⟩,
 ⟨some 289,(some (285,true)),.nck (.t 288)⟩,
 ⟨some 290,(some (285,true)),.fa 1 (.t 289)⟩,
 ⟨some 291,(some (285,true)),.ld true none (.t 290)⟩,
 ⟨some 292,(some (285,true)),.len false (.t 291)⟩,
 ⟨some 293,(some (285,true)),.bin .lss (.t 287) (.t 292)⟩,
 ii 294 (.pick (.t 285) (.t 293) (.c (.lit (.bool false)))),
 ii 295 (.mv (.t 294)),
 ⟨some 296,(some (295,true)),.mv (.t 0)⟩,
 ⟨some 297,(some (295,true)),.ld false (some 2) (.t 5)⟩,
 ⟨some 298,(some (295,true)),.fa 3 (.t 6)⟩,
 ⟨some 299,(some (295,true)),.ld false none (.t 298)⟩,
 ⟨some 300,(some (295,true)),.mv (.t 0)⟩,
 ⟨some 301,(some (295,true)),.nck (.t 300)⟩,
 ⟨some 302,(some (295,true)),.fa 1 (.t 301)⟩,
 ⟨some 303,(some (295,true)),.ld true none (.t 302)⟩,
 ⟨some 304,(some (295,true)),.fa 1 (.t 6)⟩,
 ⟨some 305,(some (295,true)),.ld false none (.t 304)⟩,
 ⟨some 306,(some (295,true)),.ia 8 (.t 303) (.t 305)⟩,
 ⟨some 307,(some (295,true)),.fa 1 (.t 306)⟩,
 ⟨some 308,(some (295,true)),.ld false none (.t 307)⟩,
 ⟨some 309,(some (295,true)),.mv (.t 3)⟩,
 ⟨some 310,(some (295,true)),.call (.f N147_) [(.t 296),(.t 297),(.t 299),(.t 308),(.t 309)]⟩,
 ii 311 (.pick (.t 295) (.t 310) (.c (.lit (.bool false)))),
 ii 8 (.mv (.t 311))]
def F94_r38:List AIns:=[ii 313 (.bin .eql (.t 58) (.c (.lit (.int .i64 14)))),
 ii 312 (.mv (.t 313))]
def F94_r39:List AIns:=[ii 314 (.fa 2 (.t 6)),
 ii 315 (.ld false none (.t 314)),
 ii 316 (.bin .eql (.t 315) (.c (.lit (.int .i64 0)))),
 ii 317 (.mv (.t 316)),
 ⟨some 318,(some (317,true)),.fa 1 (.t 6)⟩,
 ⟨some 319,(some (317,true)),.ld false none (.t 318)⟩,
 ⟨some 320,(some (317,true)),.bin .eql (.t 319) (.c (.lit (.int .i64 0)))⟩,
 ii 321 (.pick (.t 317) (.t 320) (.c (.lit (.bool false)))),
 ii 322 (.mv (.t 321)),
 ⟨some 323,(some (322,true)),.mv (.t 0)⟩,
 ⟨some 324,(some (322,true)),.ld false (some 2) (.t 5)⟩,
 ⟨some 325,(some (322,true)),.fa 3 (.t 6)⟩,
 ⟨some 326,(some (322,true)),.ld false none (.t 325)⟩,
 ⟨some 327,(some (322,true)),.mv (.t 3)⟩,
 ⟨some 328,(some (322,true)),.bsl 1 [(.c (.lit (.int .i64 0)))]⟩,
 ⟨some 329,(some (322,true)),.call (.f N148_) [(.t 323),(.t 324),(.t 326),(.t 327),(.t 328)]⟩,
 ii 330 (.pick (.t 322) (.t 329) (.c (.lit (.bool false)))),
 ii 8 (.mv (.t 330))]
def F94_r40:List AIns:=[ii 8 (.mv (.c (.lit (.bool false))))]
def F94_:AFun:=⟨4,.seq (.reg F94_r0 [] [0,3,5,6] [5,6]) (.seq (.reg F94_r1 [] [0,3,5,6] [5,6]) (.seq (.seq (.reg F94_r2 [] [0,3,5,6,29] [5,6]) (.cond (.t 29) (.seq (.reg F94_r3 [] [8] []) (.ret)) (.skip))) (.seq (.seq (.reg F94_r4 [] [0,3,5,6,43] [5,6]) (.cond (.t 43) (.seq (.reg F94_r5 [] [8] []) (.ret)) (.skip))) (.seq (.reg F94_r6 [] [0,3,5,6,9] [5,6]) (.seq (.seq (.reg F94_r7 [] [0,3,5,6,9,58] [5,6]) (.block 0 (.seq (.seq (.reg F94_r8 [] [0,3,5,6,9,58,59] [5,6]) (.cond (.t 59) (.skip) (.reg F94_r9 [] [0,3,5,6,9,58,59] [5,6]))) (.cond (.t 59) (.seq (.reg F94_r10 [] [8] []) (.ret)) (.seq (.reg F94_r11 [] [0,3,5,6,9,58,86] [5,6]) (.cond (.t 86) (.seq (.reg F94_r12 [] [8] []) (.ret)) (.seq (.seq (.reg F94_r13 [] [0,3,5,6,9,58,97] [5,6]) (.cond (.t 97) (.skip) (.reg F94_r14 [] [0,3,5,6,9,58,97] [5,6]))) (.cond (.t 97) (.seq (.reg F94_r15 [] [0,3,5,6,10,11] [5,6,10]) (.seq (.reg F94_r16 [] [8] []) (.ret))) (.seq (.seq (.reg F94_r17 [] [0,3,5,6,9,58,123] [5,6]) (.cond (.t 123) (.skip) (.reg F94_r18 [] [0,3,5,6,9,58,123] [5,6]))) (.cond (.t 123) (.seq (.seq (.reg F94_r19 [] [0,3,5,6,133] [5,6]) (.cond (.t 133) (.seq (.reg F94_r20 [] [8] []) (.ret)) (.skip))) (.seq (.reg F94_r21 [] [0,3,5,6,12] [5,6]) (.seq (.reg F94_r22 [] [12,13] []) (.seq (.reg F94_r23 [] [13] []) (.seq (.reg F94_r24 [] [8] []) (.ret)))))) (.seq (.seq (.reg F94_r25 [] [0,3,5,6,9,58,153] [5,6]) (.cond (.t 153) (.skip) (.reg F94_r26 [] [0,3,5,6,9,58,153] [5,6]))) (.cond (.t 153) (.seq (.reg F94_r27 [] [8] []) (.ret)) (.seq (.reg F94_r28 [] [0,3,5,6,9,58,196] [5,6]) (.cond (.t 196) (.seq (.reg F94_r29 [] [8] []) (.ret)) (.seq (.reg F94_r30 [] [0,3,5,6,58,213] [5,6]) (.cond (.t 213) (.seq (.reg F94_r31 [] [8] []) (.ret)) (.seq (.reg F94_r32 [] [0,3,5,6,58,237] [5,6]) (.cond (.t 237) (.seq (.reg F94_r33 [] [8] []) (.ret)) (.seq (.reg F94_r34 [] [0,3,5,6,58,256] [5,6]) (.cond (.t 256) (.seq (.reg F94_r35 [] [8] []) (.ret)) (.seq (.reg F94_r36 [] [0,3,5,6,58,275] [5,6]) (.cond (.t 275) (.seq (.reg F94_r37 [] [8] []) (.ret)) (.seq (.reg F94_r38 [] [0,3,5,6,312] [5,6]) (.cond (.t 312) (.seq (.reg F94_r39 [] [8] []) (.ret)) (.skip))))))))))))))))))))))))) (.seq (.reg F94_r40 [] [8] []) (.ret))))))),[.t 8]⟩
def F95_r0:List AIns:=[ii 3 (.box false (.t 0)),
 ii 6 (.mv (.c (.lit .nilFunc)))]
def F95_r1:List AIns:=[ii 7 (.alloc false [.slice .full 4 []])]
def F95_r2:List AIns:=[ii 13 (.mv (.t 1)),
 ii 14 (.len false (.t 13)),
 ii 15 (.mv (.c (.lit (.int .i64 0))))]
def F95_r3:List AIns:=[ii 16 (.bin .lss (.t 15) (.t 14))]
def F95_r4:List AIns:=[ii 17 (.mv (.t 15)),
 ii 18 (.ia 1 (.t 13) (.t 15)),
 ii 19 (.ld false none (.t 18)),
 ii 8 (.mv (.t 17)),
 ii 9 (.mv (.t 19))]
def F95_r5:List AIns:=[ii 20 (.mv (.t 2)),
 ii 21 (.mv (.t 8)),
 ii 22 (.ia 2 (.t 20) (.t 21)),
 ii 23 (.fa 1 (.t 22)),
 ii 24 (.ld false none (.t 23)),
 ii 25 (.call (.f N150_) [(.t 24)]),
 ii 10 (.mv (.t 25))]
def F95_r6:List AIns:=[ii 27 (.ld true none (.t 3)),
 ii 28 (.mv (.t 10)),
 ii 29 (.nck (.t 27)),
 ii 30 (.fa 2 (.t 29)),
 ii 31 (.iaa 2 1 (.t 30) (.t 28)),
 ii 32 (.ld true none (.t 31)),
 ii 33 (.mv (.t 9)),
 ii 34 (.lk (.int .i64) (.lit (.int .i64 0)) true (.t 32) (.t 33)),
 ii 26 (.mv (.t 34)),
 ii 35 (.ext (.t 26) 0),
 ii 36 (.ext (.t 26) 1),
 ii 11 (.mv (.t 35)),
 ii 12 (.mv (.t 36))]
def F95_r7:List AIns:=[ii 37 (.ld true none (.t 7)),
 ii 38 (.mv (.t 10)),
 ii 39 (.mv (.t 9)),
 ii 40 (.mv (.t 11)),
 ii 41 (.mv (.t 12)),
 ii 42 (.build [.lit (.int .i64 0),.lit (.int .i64 0),.lit (.int .i64 0),.lit (.bool false)] [(0,1,(.t 38)),(1,1,(.t 39)),(2,1,(.t 40)),(3,1,(.t 41))]),
 ii 43 (.bsl 4 [(.t 42)]),
 ii 44 (.app 4 32 (.t 37) (.t 43)),
 ⟨none,none,.st true 1 (.t 7) (.t 44)⟩]
def F95_r8:List AIns:=[ii 45 (.ld true none (.t 3)),
 ii 46 (.mv (.t 10)),
 ii 47 (.nck (.t 45)),
 ii 48 (.fa 2 (.t 47)),
 ii 49 (.iaa 2 1 (.t 48) (.t 46)),
 ii 50 (.ld true none (.t 49)),
 ii 51 (.mv (.t 9)),
 ii 52 (.mv (.t 2)),
 ii 53 (.mv (.t 8)),
 ii 54 (.ia 2 (.t 52) (.t 53)),
 ii 55 (.fa 0 (.t 54)),
 ii 56 (.ld false none (.t 55)),
 ⟨none,none,.mu (.int .i64) (.t 50) (.t 51) (.t 56)⟩]
def F95_r9:List AIns:=[ii 57 (.bin .add (.t 15) (.c (.lit (.int .i64 1)))),
 ii 15 (.mv (.t 57))]
def F95_l1:AC:=.seq (.reg F95_r3 [] [2,3,7,13,14,15,16] []) (.seq (.cond (.t 16) (.skip) (.exit 0)) (.seq (.block 1 (.seq (.reg F95_r4 [] [2,3,7,8,9,13,14,15] []) (.seq (.reg F95_r5 [] [2,3,7,8,9,10,13,14,15] []) (.seq (.reg F95_r6 [] [2,3,7,8,9,10,11,12,13,14,15] []) (.seq (.reg F95_r7 [] [2,3,7,8,9,10,13,14,15] []) (.reg F95_r8 [] [2,3,7,13,14,15] [])))))) (.reg F95_r9 [] [2,3,7,13,14,15] [])))
def F95_r10:List AIns:=[ii 58 (.mkf N151_ [] [(.t 7),(.t 3)]),
 ii 6 (.mv (.t 58))]
def F95_:AFun:=⟨3,.seq (.reg F95_r0 [] [1,2,3] []) (.seq (.reg F95_r1 [] [1,2,3,7] []) (.seq (.seq (.reg F95_r2 [] [2,3,7,13,14,15] []) (.block 0 (.loop F95_l1))) (.seq (.reg F95_r10 [] [6] []) (.ret)))),[.t 6]⟩
def F105_r0:List AIns:=[ii 3 (.box true (.t 1)),
 ii 4 (.mv (.c (.lit (.int .i64 0)))),
 ii 5 (.mv (.c (.lit (.bool false))))]
def F105_r1:List AIns:=[ii 9 (.mv (.t 0)),
 ii 10 (.fa 0 (.t 3)),
 ii 11 (.ld false none (.t 10)),
 ii 12 (.bin .eql (.t 11) (.c (.lit (.int .i64 5)))),
 ii 13 (.call (.f N150_) [(.t 12)]),
 ii 14 (.nck (.t 9)),
 ii 15 (.fa 2 (.t 14)),
 ii 16 (.iaa 2 1 (.t 15) (.t 13)),
 ii 17 (.ld true none (.t 16)),
 ii 18 (.fa 1 (.t 3)),
 ii 19 (.ld false none (.t 18)),
 ii 20 (.lk (.int .i64) (.lit (.int .i64 0)) true (.t 17) (.t 19)),
 ii 8 (.mv (.t 20)),
 ii 21 (.ext (.t 8) 0),
 ii 22 (.ext (.t 8) 1),
 ii 6 (.mv (.t 21)),
 ii 7 (.mv (.t 22))]
def F105_r2:List AIns:=[ii 23 (.mv (.t 6)),
 ii 24 (.mv (.t 7)),
 ii 4 (.mv (.t 23)),
 ii 5 (.mv (.t 24))]
def F105_:AFun:=⟨2,.seq (.reg F105_r0 [] [0,3] [3]) (.seq (.reg F105_r1 [] [6,7] []) (.seq (.reg F105_r2 [] [4,5] []) (.ret))),[.t 4,.t 5]⟩
def F106_r0:List AIns:=[ii 3 (.box true (.t 1)),
 ii 4 (.mv (.c (.lit (.int .i64 0)))),
 ii 5 (.mv (.c (.lit (.bool false))))]
def F106_r1:List AIns:=[ii 4 (.mv (.c (.lit (.int .i64 0)))),
 ii 5 (.mv (.c (.lit (.bool true))))]
def F106_:AFun:=⟨2,.seq (.reg F106_r0 [] [] []) (.seq (.reg F106_r1 [] [4,5] []) (.ret)),[.t 4,.t 5]⟩
def F107_r0:List AIns:=[ii 3 (.box true (.t 1)),
 ii 4 (.mv (.c (.lit (.int .i64 0)))),
 ii 5 (.mv (.c (.lit (.bool false))))]
def F107_r1:List AIns:=[ii 6 (.fa 2 (.t 3)),
 ii 7 (.ld false none (.t 6)),
 ii 8 (.mv (.t 0)),
 ii 9 (.fa 3 (.t 3)),
 ii 10 (.ld false none (.t 9)),
 ii 11 (.mv (.t 0)),
 ii 12 (.nck (.t 11)),
 ii 13 (.fa 0 (.t 12)),
 ii 14 (.fa 0 (.t 13)),
 ii 15 (.ld true none (.t 14)),
 ii 16 (.fa 2 (.t 3)),
 ii 17 (.ld false none (.t 16)),
 ii 18 (.bin .sub (.t 17) (.c (.lit (.int .i64 1)))),
 ii 19 (.ia 3 (.t 15) (.t 18)),
 ii 20 (.fa 2 (.t 19)),
 ii 21 (.ld false none (.t 20)),
 ii 22 (.fa 1 (.t 3)),
 ii 23 (.ld false none (.t 22)),
 ii 24 (.ia 2 (.t 21) (.t 23)),
 ii 25 (.fa 1 (.t 24)),
 ii 26 (.ld false none (.t 25)),
 ii 27 (.call (.f N161_) [(.t 26)]),
 ii 28 (.call (.f N160_) [(.t 8),(.t 10),(.t 27)]),
 ii 4 (.mv (.t 7)),
 ii 5 (.mv (.t 28))]
def F107_:AFun:=⟨2,.seq (.reg F107_r0 [] [0,3] [3]) (.seq (.reg F107_r1 [] [4,5] []) (.ret)),[.t 4,.t 5]⟩
def F108_r0:List AIns:=[ii 3 (.box true (.t 1)),
 ii 4 (.mv (.c (.lit (.int .i64 0)))),
 ii 5 (.mv (.c (.lit (.bool false))))]
def F108_r1:List AIns:=[ii 6 (.mv (.t 0)),
 ii 7 (.fa 1 (.t 3)),
 ii 8 (.ld false none (.t 7)),
 ii 9 (.bsl 1 [(.t 8)]),
 ii 10 (.fa 2 (.t 3)),
 ii 11 (.ld false none (.t 10)),
 ii 12 (.fa 0 (.t 3)),
 ii 13 (.ld false none (.t 12)),
 ii 14 (.bin .eql (.t 13) (.c (.lit (.int .i64 3)))),
 ii 15 (.build [.lit (.int .i64 0),.lit (.bool false)] [(0,1,(.t 11)),(1,1,(.t 14))]),
 ii 16 (.bsl 2 [(.t 15)]),
 ii 17 (.call (.f N95_) [(.t 6),(.t 9),(.t 16)]),
 ⟨none,none,.dfr (.t 17) []⟩]
def F108_r2:List AIns:=[ii 18 (.fa 2 (.t 3)),
 ii 19 (.ld false none (.t 18)),
 ii 20 (.mv (.t 0)),
 ii 21 (.fa 3 (.t 3)),
 ii 22 (.ld false none (.t 21)),
 ii 23 (.bsl 1 [(.c (.lit (.int .i64 0)))]),
 ii 24 (.call (.f N160_) [(.t 20),(.t 22),(.t 23)]),
 ii 4 (.mv (.t 19)),
 ii 5 (.mv (.t 24))]
def F108_:AFun:=⟨2,.seq (.reg F108_r0 [] [0,3] [3]) (.seq (.reg F108_r1 [] [0,3] [3]) (.seq (.reg F108_r2 [] [4,5] []) (.ret))),[.t 4,.t 5]⟩
def F109_r0:List AIns:=[ii 3 (.box true (.t 1)),
 ii 4 (.mv (.c (.lit (.int .i64 0)))),
 ii 5 (.mv (.c (.lit (.bool false))))]
def F109_r1:List AIns:=[ii 10 (.fa 4 (.t 3)),
 ii 11 (.ld false none (.t 10)),
 ii 12 (.len false (.t 11)),
 ii 13 (.mv (.c (.lit (.int .i64 0))))]
def F109_r2:List AIns:=[ii 14 (.bin .lss (.t 13) (.t 12))]
def F109_r3:List AIns:=[ii 15 (.mv (.t 13)),
 ii 16 (.ia 7 (.t 11) (.t 13)),
 ii 17 (.ld false (some 7) (.t 16)),
 ii 7 (.alloc true [.slice .full 1 [],.slice .full 1 [],.lit (.int .i64 0),.lit (.int .i64 0),.lit (.int .i64 0),.slice .full 5 [],.slice .full 7 []]),
 ii 6 (.mv (.t 15)),
 ⟨none,none,.st false 7 (.t 7) (.t 17)⟩]
def F109_r4:List AIns:=[ii 18 (.mv (.t 0)),
 ii 19 (.fa 0 (.t 7)),
 ii 20 (.ld false none (.t 19)),
 ii 21 (.mv (.t 0)),
 ii 22 (.nck (.t 21)),
 ii 23 (.fa 0 (.t 22)),
 ii 24 (.fa 0 (.t 23)),
 ii 25 (.ld true none (.t 24)),
 ii 26 (.fa 2 (.t 3)),
 ii 27 (.ld false none (.t 26)),
 ii 28 (.bin .sub (.t 27) (.c (.lit (.int .i64 1)))),
 ii 29 (.ia 3 (.t 25) (.t 28)),
 ii 30 (.fa 2 (.t 29)),
 ii 31 (.ld false none (.t 30)),
 ii 32 (.mv (.t 6)),
 ii 33 (.ia 2 (.t 31) (.t 32)),
 ii 34 (.fa 1 (.t 33)),
 ii 35 (.ld false none (.t 34)),
 ii 36 (.call (.f N95_) [(.t 18),(.t 20),(.t 35)]),
 ii 8 (.mv (.t 36))]
def F109_r5:List AIns:=[ii 37 (.mv (.t 0)),
 ii 38 (.fa 2 (.t 7)),
 ii 39 (.ld false (some 5) (.t 38)),
 ii 40 (.bsl 5 [(.t 39)]),
 ii 41 (.bsl 1 [(.c (.lit (.int .i64 0)))]),
 ii 42 (.call (.f N160_) [(.t 37),(.t 40),(.t 41)]),
 ii 9 (.mv (.t 42))]
def F109_r6:List AIns:=[ii 43 (.mv (.t 8)),
 ii 44 (.call (.t 43) [])]
def F109_r7:List AIns:=[ii 45 (.mv (.t 9)),
 ii 46 (.unot (.t 45))]
def F109_r8:List AIns:=[ii 4 (.mv (.c (.lit (.int .i64 0)))),
 ii 5 (.mv (.c (.lit (.bool false))))]
def F109_r9:List AIns:=[ii 47 (.bin .add (.t 13) (.c (.lit (.int .i64 1)))),
 ii 13 (.mv (.t 47))]
def F109_l1:AC:=.seq (.reg F109_r2 [] [0,3,11,12,13,14] [3]) (.seq (.cond (.t 14) (.skip) (.exit 0)) (.seq (.block 1 (.seq (.reg F109_r3 [] [0,3,6,7,11,12,13] [3,7]) (.seq (.reg F109_r4 [] [0,3,7,8,11,12,13] [3,7]) (.seq (.reg F109_r5 [] [0,3,8,9,11,12,13] [3]) (.seq (.reg F109_r6 [] [0,3,9,11,12,13] [3]) (.seq (.reg F109_r7 [] [0,3,11,12,13,46] [3]) (.cond (.t 46) (.seq (.reg F109_r8 [] [4,5] []) (.ret)) (.skip)))))))) (.reg F109_r9 [] [0,3,11,12,13] [3])))
def F109_r10:List AIns:=[ii 48 (.fa 2 (.t 3)),
 ii 49 (.ld false none (.t 48)),
 ii 4 (.mv (.t 49)),
 ii 5 (.mv (.c (.lit (.bool true))))]
def F109_:AFun:=⟨2,.seq (.reg F109_r0 [] [0,3] [3]) (.seq (.seq (.reg F109_r1 [] [0,3,11,12,13] [3]) (.block 0 (.loop F109_l1))) (.seq (.reg F109_r10 [] [4,5] []) (.ret))),[.t 4,.t 5]⟩
def F110_r0:List AIns:=[ii 3 (.box true (.t 1)),
 ii 4 (.mv (.c (.lit (.int .i64 0)))),
 ii 5 (.mv (.c (.lit (.bool false))))]
def F110_r1:List AIns:=[ii 6 (.mv (.t 0)),
 ii 7 (.fa 3 (.t 3)),
 ii 8 (.ld false none (.t 7)),
 ii 9 (.fa 2 (.t 3)),
 ii 10 (.ld false none (.t 9)),
 ii 11 (.fa 2 (.t 3)),
 ii 12 (.ld false none (.t 11)),
 ii 13 (.bsl 1 [(.t 10),(.t 12)]),
 ii 14 (.call (.f N160_) [(.t 6),(.t 8),(.t 13)]),
 ii 4 (.mv (.c (.lit (.int .i64 0)))),
 ii 5 (.mv (.t 14))]
def F110_:AFun:=⟨2,.seq (.reg F110_r0 [] [0,3] [3]) (.seq (.reg F110_r1 [] [4,5] []) (.ret)),[.t 4,.t 5]⟩
def F111_r0:List AIns:=[ii 3 (.box true (.t 1)),
 ii 4 (.mv (.c (.lit (.int .i64 0)))),
 ii 5 (.mv (.c (.lit (.bool false))))]
def F111_r1:List AIns:=[ii 6 (.mv (.t 0)),
 ii 7 (.fa 3 (.t 3)),
 ii 8 (.ld false none (.t 7)),
 ii 9 (.bsl 1 [(.c (.lit (.int .i64 0))),(.c (.lit (.int .i64 0))),(.c (.lit (.int .i64 0)))]),
 ii 10 (.call (.f N160_) [(.t 6),(.t 8),(.t 9)]),
 ii 4 (.mv (.c (.lit (.int .i64 0)))),
 ii 5 (.mv (.t 10))]
def F111_:AFun:=⟨2,.seq (.reg F111_r0 [] [0,3] [3]) (.seq (.reg F111_r1 [] [4,5] []) (.ret)),[.t 4,.t 5]⟩
def F112_r0:List AIns:=[ii 3 (.box true (.t 1)),
 ii 4 (.mv (.c (.lit (.int .i64 0)))),
 ii 5 (.mv (.c (.lit (.bool false))))]
def F112_r1:List AIns:=[ii 6 (.mv (.t 0)),
 ii 7 (.fa 3 (.t 3)),
 ii 8 (.ld false none (.t 7)),
 ii 9 (.bsl 1 [(.c (.lit (.int .i64 0))),(.c (.lit (.int .i64 0))),(.c (.lit (.int .i64 0)))]),
 ii 10 (.call (.f N160_) [(.t 6),(.t 8),(.t 9)]),
 ii 4 (.mv (.c (.lit (.int .i64 0)))),
 ii 5 (.mv (.t 10))]
def F112_:AFun:=⟨2,.seq (.reg F112_r0 [] [0,3] [3]) (.seq (.reg F112_r1 [] [4,5] []) (.ret)),[.t 4,.t 5]⟩
def F113_r0:List AIns:=[ii 3 (.box true (.t 1)),
 ii 4 (.mv (.c (.lit (.int .i64 0)))),
 ii 5 (.mv (.c (.lit (.bool false))))]
def F113_r1:List AIns:=[ii 6 (.mv (.t 0)),
 ii 7 (.fa 3 (.t 3)),
 ii 8 (.ld false none (.t 7)),
 ii 9 (.mv (.t 0)),
 ii 10 (.nck (.t 9)),
 ii 11 (.fa 0 (.t 10)),
 ii 12 (.fa 1 (.t 11)),
 ii 13 (.ld true none (.t 12)),
 ii 14 (.fa 1 (.t 3)),
 ii 15 (.ld false none (.t 14)),
 ii 16 (.ia 8 (.t 13) (.t 15)),
 ii 17 (.fa 1 (.t 16)),
 ii 18 (.ld false none (.t 17)),
 ii 19 (.call (.f N161_) [(.t 18)]),
 ii 20 (.call (.f N160_) [(.t 6),(.t 8),(.t 19)]),
 ii 4 (.mv (.c (.lit (.int .i64 0)))),
 ii 5 (.mv (.t 20))]
def F113_:AFun:=⟨2,.seq (.reg F113_r0 [] [0,3] [3]) (.seq (.reg F113_r1 [] [4,5] []) (.ret)),[.t 4,.t 5]⟩
def F138_r0:List AIns:=[ii 3 (.box true (.t 0)),
 ii 4 (.mv (.c (.lit (.bool false))))]
def F138_r1:List AIns:=[ii 7 (.fa 0 (.t 3)),
 ii 8 (.ld false none (.t 7)),
 ii 9 (.call (.f N139_) [(.t 8)]),
 ii 10 (.unot (.t 9)),
 ii 11 (.mv (.t 10)),
 ⟨some 12,(some (11,false)),.ld true none (.t 1)⟩,
 ⟨some 13,(some (11,false)),.fa 0 (.t 3)⟩,
 ⟨some 14,(some (11,false)),.ld false none (.t 13)⟩,
 ⟨some 15,(some (11,false)),.lk .str (.lit (.bool false)) false (.t 12) (.t 14)⟩,
 ii 16 (.pick (.t 11) (.c (.lit (.bool true))) (.t 15)),
 ii 17 (.mv (.t 16)),
 ⟨some 18,(some (17,false)),.fa 1 (.t 3)⟩,
 ⟨some 19,(some (17,false)),.ld false none (.t 18)⟩,
 ⟨some 20,(some (17,false)),.len false (.t 19)⟩,
 ⟨some 21,(some (17,false)),.bin .gtr (.t 20) (.c (.lit (.int .i64 6)))⟩,
 ii 22 (.pick (.t 17) (.c (.lit (.bool true))) (.t 21))]
def F138_r2:List AIns:=[ii 4 (.mv (.c (.lit (.bool false))))]
def F138_r3:List AIns:=[ii 23 (.ld true none (.t 1)),
 ii 24 (.fa 0 (.t 3)),
 ii 25 (.ld false none (.t 24)),
 ⟨none,none,.mu .str (.t 23) (.t 25) (.c (.lit (.bool true)))⟩]
def F138_r4:List AIns:=[ii 26 (.fa 1 (.t 3)),
 ii 27 (.ld false none (.t 26)),
 ii 28 (.len false (.t 27)),
 ii 29 (.mv (.c (.lit (.int .i64 0))))]
def F138_r5:List AIns:=[ii 30 (.bin .lss (.t 29) (.t 28))]
def F138_r6:List AIns:=[ii 31 (.ia 2 (.t 27) (.t 29)),
 ii 32 (.ld false (some 2) (.t 31)),
 ii 6 (.alloc true [.lit (.int .i64 0),.lit (.bool false)]),
 ⟨none,none,.st false 2 (.t 6) (.t 32)⟩]
def F138_r7:List AIns:=[ii 33 (.fa 0 (.t 6)),
 ii 34 (.ld false none (.t 33)),
 ii 35 (.bin .lss (.t 34) (.c (.lit (.int .i64 0)))),
 ii 36 (.mv (.t 35)),
 ⟨some 37,(some (36,false)),.fa 0 (.t 6)⟩,
 ⟨some 38,(some (36,false)),.ld false none (.t 37)⟩,
 ⟨some 39,(some (36,false)),.ld true none (.t 2)⟩,
 ⟨some 40,(some (36,false)),.len false (.t 39)⟩,
 ⟨some 41,(some (36,false)),.bin .gtr (.t 38) (.t 40)⟩,
 ii 42 (.pick (.t 36) (.c (.lit (.bool true))) (.t 41))]
def F138_r8:List AIns:=[ii 4 (.mv (.c (.lit (.bool false))))]
def F138_r9:List AIns:=[ii 43 (.bin .add (.t 29) (.c (.lit (.int .i64 1)))),
 ii 29 (.mv (.t 43))]
def F138_l1:AC:=.seq (.reg F138_r5 [] [2,27,28,29,30] []) (.seq (.cond (.t 30) (.skip) (.exit 0)) (.seq (.block 1 (.seq (.reg F138_r6 [] [2,6,27,28,29] [6]) (.seq (.reg F138_r7 [] [2,27,28,29,42] []) (.cond (.t 42) (.seq (.reg F138_r8 [] [4] []) (.ret)) (.skip))))) (.reg F138_r9 [] [2,27,28,29] [])))
def F138_r10:List AIns:=[ii 4 (.mv (.c (.lit (.bool true))))]
def F138_:AFun:=⟨3,.seq (.reg F138_r0 [] [1,2,3] [3]) (.seq (.seq (.reg F138_r1 [] [1,2,3,22] [3]) (.cond (.t 22) (.seq (.reg F138_r2 [] [4] []) (.ret)) (.skip))) (.seq (.reg F138_r3 [] [2,3] [3]) (.seq (.seq (.reg F138_r4 [] [2,27,28,29] []) (.block 0 (.loop F138_l1))) (.seq (.reg F138_r10 [] [4] []) (.ret))))),[.t 4]⟩
def F139_r0:List AIns:=[ii 2 (.mv (.c (.lit (.bool false))))]
def F139_r1:List AIns:=[ii 3 (.mv (.t 0)),
 ii 4 (.len true (.t 3)),
 ii 5 (.bin .geq (.t 4) (.c (.lit (.int .i64 1)))),
 ii 6 (.mv (.t 5)),
 ⟨some 7,(some (6,true)),.mv (.t 0)⟩,
 ⟨some 8,(some (6,true)),.len true (.t 7)⟩,
 ⟨some 9,(some (6,true)),.bin .leq (.t 8) (.c (.lit (.int .i64 10)))⟩,
 ii 10 (.pick (.t 6) (.t 9) (.c (.lit (.bool false)))),
 ii 11 (.mv (.t 10)),
 ⟨some 12,(some (11,true)),.mv (.t 0)⟩,
 ⟨some 13,(some (11,true)),.ixs (.t 12) (.c (.lit (.int .i64 0)))⟩,
 ⟨some 14,(some (11,true)),.bin .geq (.t 13) (.c (.lit (.int .u8 65)))⟩,
 ii 15 (.pick (.t 11) (.t 14) (.c (.lit (.bool false)))),
 ii 16 (.mv (.t 15)),
 ⟨some 17,(some (16,true)),.mv (.t 0)⟩,
 ⟨some 18,(some (16,true)),.ixs (.t 17) (.c (.lit (.int .i64 0)))⟩,
 ⟨some 19,(some (16,true)),.bin .leq (.t 18) (.c (.lit (.int .u8 90)))⟩,
 ii 20 (.pick (.t 16) (.t 19) (.c (.lit (.bool false)))),
 ii 21 (.mv (.t 20)),
 ⟨some 22,(some (21,true)),.mv (.t 0)⟩,
 ⟨some 23,(some (21,true)),.sls (.t 22) (some (.c (.lit (.int .i64 1)))) none⟩,
 ⟨some 24,(some (21,true)),.call (.f N141_) [(.t 23)]⟩,
 ii 25 (.pick (.t 21) (.t 24) (.c (.lit (.bool false)))),
 ii 2 (.mv (.t 25))]
def F139_:AFun:=⟨1,.seq (.reg F139_r0 [] [0] []) (.seq (.reg F139_r1 [] [2] []) (.ret)),[.t 2]⟩
def F140_r0:List AIns:=[ii 2 (.mv (.c (.lit (.bool false))))]
def F140_r1:List AIns:=[ii 3 (.mv (.t 0)),
 ii 4 (.bin .geq (.t 3) (.c (.lit (.int .u8 97)))),
 ii 5 (.mv (.t 4)),
 ⟨some 6,(some (5,true)),.mv (.t 0)⟩,
 ⟨some 7,(some (5,true)),.bin .leq (.t 6) (.c (.lit (.int .u8 122)))⟩,
 ii 8 (.pick (.t 5) (.t 7) (.c (.lit (.bool false)))),
 ii 2 (.mv (.t 8))]
def F140_:AFun:=⟨1,.seq (.reg F140_r0 [] [0] []) (.seq (.reg F140_r1 [] [2] []) (.ret)),[.t 2]⟩
def F141_r0:List AIns:=[ii 2 (.mv (.c (.lit (.bool false))))]
def F141_r1:List AIns:=[ii 3 (.mv (.c (.lit (.int .i64 0))))]
def F141_r2:List AIns:=[ii 4 (.mv (.t 3)),
 ii 5 (.mv (.t 0)),
 ii 6 (.len true (.t 5)),
 ii 7 (.bin .lss (.t 4) (.t 6))]
def F141_r4:List AIns:=[ii 10 (.mv (.t 0)),
 ii 11 (.mv (.t 3)),
 ii 12 (.ixs (.t 10) (.t 11)),
 ii 13 (.call (.f N140_) [(.t 12)]),
 ii 14 (.unot (.t 13)),
 ii 15 (.mv (.t 14)),
 ⟨some 16,(some (15,true)),.mv (.t 0)⟩,
 ⟨some 17,(some (15,true)),.mv (.t 3)⟩,
 ⟨some 18,(some (15,true)),.ixs (.t 16) (.t 17)⟩,
 ⟨some 19,(some (15,true)),.bin .lss (.t 18) (.c (.lit (.int .u8 48)))⟩,
 ⟨some 20,(some (15,true)),.mv (.t 19)⟩,
 ⟨some 21,(some (20,false)),.mv (.t 0)⟩,
 ⟨some 22,(some (20,false)),.mv (.t 3)⟩,
 ⟨some 23,(some (20,false)),.ixs (.t 21) (.t 22)⟩,
 ⟨some 24,(some (20,false)),.bin .gtr (.t 23) (.c (.lit (.int .u8 57)))⟩,
 ⟨some 25,(some (15,true)),.pick (.t 20) (.c (.lit (.bool true))) (.t 24)⟩,
 ii 26 (.pick (.t 15) (.t 25) (.c (.lit (.bool false))))]
def F141_r5:List AIns:=[ii 2 (.mv (.c (.lit (.bool false))))]
def F141_r3:List AIns:=[ii 8 (.mv (.t 3)),
 ii 9 (.bin .add (.t 8) (.c (.lit (.int .i64 1)))),
 ii 3 (.mv (.t 9))]
def F141_l1:AC:=.seq (.seq (.reg F141_r2 [] [0,3,7] []) (.cond (.t 7) (.skip) (.exit 0))) (.seq (.block 1 (.seq (.reg F141_r4 [] [0,3,26] []) (.cond (.t 26) (.seq (.reg F141_r5 [] [2] []) (.ret)) (.skip)))) (.reg F141_r3 [] [0,3] []))
def F141_r6:List AIns:=[ii 2 (.mv (.c (.lit (.bool true))))]
def F141_:AFun:=⟨1,.seq (.reg F141_r0 [] [0] []) (.seq (.seq (.reg F141_r1 [] [0,3] []) (.block 0 (.loop F141_l1))) (.seq (.reg F141_r6 [] [2] []) (.ret))),[.t 2]⟩
def F143_r0:List AIns:=[ii 2 (.mv (.c (.lit (.int .i64 0))))]
def F143_r1:List AIns:=[ii 3 (.mv (.t 0))]
def F143_r2:List AIns:=[ii 2 (.mv (.c (.lit (.int .i64 1))))]
def F143_r3:List AIns:=[ii 2 (.mv (.c (.lit (.int .i64 0))))]
def F143_:AFun:=⟨1,.seq (.reg F143_r0 [] [0] []) (.seq (.seq (.reg F143_r1 [] [3] []) (.cond (.t 3) (.seq (.reg F143_r2 [] [2] []) (.ret)) (.skip))) (.seq (.reg F143_r3 [] [2] []) (.ret))),[.t 2]⟩
def F144_r0:List AIns:=[ii 2 (.mv (.c (.lit (.bool false))))]
def F144_r1:List AIns:=[ii 3 (.mv (.t 0)),
 ii 4 (.bin .geq (.t 3) (.c (.lit (.int .i64 0)))),
 ii 5 (.mv (.t 4)),
 ⟨some 6,(some (5,true)),.mv (.t 0)⟩,
 ⟨some 7,(some (5,true)),.bin .leq (.t 6) (.c (.lit (.int .i64 1048576)))⟩,
 ii 8 (.pick (.t 5) (.t 7) (.c (.lit (.bool false)))),
 ii 2 (.mv (.t 8))]
def F144_:AFun:=⟨1,.seq (.reg F144_r0 [] [0] []) (.seq (.reg F144_r1 [] [2] []) (.ret)),[.t 2]⟩
def F145_r0:List AIns:=[ii 4 (.ld true none (.t 0)),
 ii 5 (.len false (.t 4)),
 ii 6 (.mv (.c (.lit (.int .i64 0))))]
def F145_r1:List AIns:=[ii 7 (.bin .lss (.t 6) (.t 5))]
def F145_r2:List AIns:=[ii 8 (.ia 2 (.t 4) (.t 6)),
 ii 9 (.ld false (some 2) (.t 8)),
 ii 3 (.alloc true [.lit (.int .i64 0),.lit (.int .i64 0)]),
 ⟨none,none,.st false 2 (.t 3) (.t 9)⟩]
def F145_r3:List AIns:=[ii 10 (.iaa 2 1 (.t 3) (.c (.lit (.int .i64 0)))),
 ii 11 (.ld false none (.t 10)),
 ii 12 (.iaa 2 1 (.t 1) (.t 11)),
 ii 13 (.ld true none (.t 12)),
 ii 14 (.iaa 2 1 (.t 3) (.c (.lit (.int .i64 1)))),
 ii 15 (.ld false none (.t 14)),
 ⟨none,none,.dl (.int .i64) (.t 13) (.t 15)⟩]
def F145_r4:List AIns:=[ii 16 (.bin .add (.t 6) (.c (.lit (.int .i64 1)))),
 ii 6 (.mv (.t 16))]
def F145_l1:AC:=.seq (.reg F145_r1 [] [1,4,5,6,7] []) (.seq (.cond (.t 7) (.skip) (.exit 0)) (.seq (.block 1 (.seq (.reg F145_r2 [] [1,3,4,5,6] [3]) (.reg F145_r3 [] [1,4,5,6] []))) (.reg F145_r4 [] [1,4,5,6] [])))
def F145_:AFun:=⟨2,.seq (.reg F145_r0 [] [1,4,5,6] []) (.block 0 (.loop F145_l1)),[]⟩
def F146_r0:List AIns:=[ii 8 (.alloc true [.lit (.string ⟨#[]⟩),.slice .full 2 []]),
 ii 9 (.mv (.c (.lit (.bool false))))]
def F146_r1:List AIns:=[ii 10 (.mv (.t 1)),
 ii 11 (.bin .lss (.t 10) (.c (.lit (.int .i64 1)))),
 ii 12 (.mv (.t 11)),
 ⟨some 13,(some (12,false)),.mv (.t 1)⟩,
 ⟨some 14,(some (12,false)),.mv (.t 0)⟩,
 ⟨some 15,(some (12,false)),.nck (.t 14)⟩,
 ⟨some 16,(some (12,false)),.fa 0 (.t 15)⟩,
 ⟨some 17,(some (12,false)),.ld true none (.t 16)⟩,
 ⟨some 18,(some (12,false)),.len false (.t 17)⟩,
 ⟨some 19,(some (12,false)),.bin .gtr (.t 13) (.t 18)⟩,
 ii 20 (.pick (.t 12) (.c (.lit (.bool true))) (.t 19)),
 ii 21 (.mv (.t 20)),
 ⟨some 22,(some (21,false)),.mv (.t 0)⟩,
 ⟨some 23,(some (21,false)),.nck (.t 22)⟩,
 ⟨some 24,(some (21,false)),.fa 0 (.t 23)⟩,
 ⟨some 25,(some (21,false)),.ld true none (.t 24)⟩,
 ⟨some 26,(some (21,false)),.mv (.t 1)⟩,
 ⟨some 27,(some (21,false)),.bin .sub (.t 26) (.c (.lit (.int .i64 1)))⟩,
 ⟨some 28,(some (21,false)),.ia 3 (.t 25) (.t 27)⟩,
 ⟨some 29,(some (21,false)),.fa 1 (.t 28)⟩,
 ⟨some 30,(some (21,false)),.ld false none (.t 29)⟩,
 ⟨some 31,(some (21,false)),.mv (.t 3)⟩,
 ⟨some 32,(some (21,false)),.beq true (.t 30) (.t 31)⟩,
 ii 33 (.pick (.t 21) (.c (.lit (.bool true))) (.t 32)),
 ii 34 (.mv (.t 33)),
 ⟨some 35,(some (34,false)),.mv (.t 2)⟩,
 ⟨some 36,(some (34,false)),.bin .lss (.t 35) (.c (.lit (.int .i64 0)))⟩,
 ii 37 (.pick (.t 34) (.c (.lit (.bool true))) (.t 36)),
 ii 38 (.mv (.t 37)),
 ⟨some 39,(some (38,false)),.mv (.t 2)⟩,
 ⟨some 40,(some (38,false)),.mv (.t 0)⟩,
 ⟨some 41,(some (38,false)),.nck (.t 40)⟩,
 ⟨some 42,(some (38,false)),.fa 0 (.t 41)⟩,
 ⟨some 43,(some (38,false)),.ld true none (.t 42)⟩,
 ⟨some 44,(some (38,false)),.mv (.t 1)⟩,
 ⟨some 45,(some (38,false)),.bin .sub (.t 44) (.c (.lit (.int .i64 1)))⟩,
 ⟨some 46,(some (38,false)),.ia 3 (.t 43) (.t 45)⟩,
 ⟨some 47,(some (38,false)),.fa 2 (.t 46)⟩,
 ⟨some 48,(some (38,false)),.ld false none (.t 47)⟩,
 ⟨some 49,(some (38,false)),.len false (.t 48)⟩,
 ⟨some 50,(some (38,false)),.bin .geq (.t 39) (.t 49)⟩,
 ii 51 (.pick (.t 38) (.c (.lit (.bool true))) (.t 50))]
def F146_r2:List AIns:=[ii 52 (.build [.lit (.string ⟨#[]⟩),.slice .full 2 []] []),
 ⟨none,none,.st false 2 (.t 8) (.t 52)⟩,
 ii 9 (.mv (.c (.lit (.bool false))))]
def F146_r3:List AIns:=[ii 53 (.mv (.t 0)),
 ii 54 (.nck (.t 53)),
 ii 55 (.fa 0 (.t 54)),
 ii 56 (.ld true none (.t 55)),
 ii 57 (.mv (.t 1)),
 ii 58 (.bin .sub (.t 57) (.c (.lit (.int .i64 1)))),
 ii 59 (.ia 3 (.t 56) (.t 58)),
 ii 60 (.fa 2 (.t 59)),
 ii 61 (.ld false none (.t 60)),
 ii 62 (.mv (.t 2)),
 ii 63 (.ia 2 (.t 61) (.t 62)),
 ii 64 (.ld false (some 2) (.t 63)),
 ⟨none,none,.st false 2 (.t 8) (.t 64)⟩,
 ii 9 (.mv (.c (.lit (.bool true))))]
def F146_:AFun:=⟨4,.seq (.reg F146_r0 [] [0,1,2,3,8] [8]) (.seq (.seq (.reg F146_r1 [] [0,1,2,8,51] [8]) (.cond (.t 51) (.seq (.reg F146_r2 [] [8,9] [8]) (.ret)) (.skip))) (.seq (.reg F146_r3 [] [8,9] [8]) (.ret))),[.cell (some 2) 8,.t 9]⟩
def F147_r0:List AIns:=[ii 6 (.box true (.t 1)),
 ii 10 (.mv (.c (.lit (.bool false))))]
def F147_r1:List AIns:=[ii 11 (.mv (.c (.slice .full 1 [])))]
def F147_r2:List AIns:=[ii 14 (.mv (.t 3)),
 ii 15 (.len false (.t 14)),
 ii 16 (.mv (.c (.lit (.int .i64 0))))]
def F147_r3:List AIns:=[ii 17 (.bin .lss (.t 16) (.t 15))]
def F147_r4:List AIns:=[ii 18 (.ia 2 (.t 14) (.t 16)),
 ii 19 (.ld false (some 2) (.t 18)),
 ii 13 (.alloc true [.lit (.int .i64 0),.lit (.bool false)]),
 ⟨none,none,.st false 2 (.t 13) (.t 19)⟩]
def F147_r5:List AIns:=[ii 20 (.mv (.t 11)),
 ii 21 (.fa 1 (.t 13)),
 ii 22 (.ld false none (.t 21)),
 ii 23 (.call (.f N143_) [(.t 22)]),
 ii 24 (.bsl 1 [(.t 23)]),
 ii 25 (.app 1 8 (.t 20) (.t 24)),
 ii 11 (.mv (.t 25))]
def F147_r6:List AIns:=[ii 26 (.bin .add (.t 16) (.c (.lit (.int .i64 1)))),
 ii 16 (.mv (.t 26))]
def F147_l1:AC:=.seq (.reg F147_r3 [] [0,2,4,6,11,14,15,16,17] [6]) (.seq (.cond (.t 17) (.skip) (.exit 0)) (.seq (.block 1 (.seq (.reg F147_r4 [] [0,2,4,6,11,13,14,15,16] [6,13]) (.reg F147_r5 [] [0,2,4,6,11,14,15,16] [6]))) (.reg F147_r6 [] [0,2,4,6,11,14,15,16] [6])))
def F147_r7:List AIns:=[ii 27 (.mv (.t 0)),
 ii 28 (.ld false (some 2) (.t 6)),
 ii 29 (.mv (.t 2)),
 ii 30 (.mv (.t 4)),
 ii 31 (.mv (.t 11)),
 ii 32 (.call (.f N148_) [(.t 27),(.t 28),(.t 29),(.t 30),(.t 31)]),
 ii 10 (.mv (.t 32))]
def F147_:AFun:=⟨5,.seq (.reg F147_r0 [] [0,2,3,4,6] [6]) (.seq (.reg F147_r1 [] [0,2,3,4,6,11] [6]) (.seq (.seq (.reg F147_r2 [] [0,2,4,6,11,14,15,16] [6]) (.block 0 (.loop F147_l1))) (.seq (.reg F147_r7 [] [10] []) (.ret)))),[.t 10]⟩
def F148_r0:List AIns:=[ii 6 (.box true (.t 1)),
 ii 10 (.mv (.c (.lit (.bool false))))]
def F148_r1:List AIns:=[ii 13 (.mv (.t 2)),
 ii 14 (.len false (.t 13)),
 ii 15 (.mv (.t 4)),
 ii 16 (.len false (.t 15)),
 ii 17 (.bin .neq (.t 14) (.t 16))]
def F148_r2:List AIns:=[ii 10 (.mv (.c (.lit (.bool false))))]
def F148_r3:List AIns:=[ii 18 (.mv (.t 2)),
 ii 19 (.len false (.t 18)),
 ii 20 (.mv (.c (.lit (.int .i64 0))))]
def F148_r4:List AIns:=[ii 21 (.bin .lss (.t 20) (.t 19))]
def F148_r5:List AIns:=[ii 22 (.mv (.t 20)),
 ii 23 (.ia 5 (.t 18) (.t 20)),
 ii 24 (.ld false (some 5) (.t 23)),
 ii 12 (.alloc true [.lit (.int .i64 0),.lit (.int .i64 0),.lit (.int .i64 0),.slice .full 5 [],.slice .full 7 []]),
 ii 11 (.mv (.t 22)),
 ⟨none,none,.st false 5 (.t 12) (.t 24)⟩]
def F148_r6:List AIns:=[ii 25 (.fa 0 (.t 12)),
 ii 26 (.ld false none (.t 25)),
 ii 27 (.call (.f N55_) [(.t 26)]),
 ii 28 (.mv (.t 4)),
 ii 29 (.mv (.t 11)),
 ii 30 (.ia 1 (.t 28) (.t 29)),
 ii 31 (.ld false none (.t 30)),
 ii 32 (.bin .neq (.t 27) (.t 31)),
 ii 33 (.mv (.t 32)),
 ⟨some 34,(some (33,false)),.mv (.t 0)⟩,
 ⟨some 35,(some (33,false)),.ld false (some 2) (.t 6)⟩,
 ⟨some 36,(some (33,false)),.ld false (some 5) (.t 12)⟩,
 ⟨some 37,(some (33,false)),.mv (.t 3)⟩,
 ⟨some 38,(some (33,false)),.bin .add (.t 37) (.c (.lit (.int .i64 1)))⟩,
 ⟨some 39,(some (33,false)),.call (.f N94_) [(.t 34),(.t 35),(.t 36),(.t 38)]⟩,
 ⟨some 40,(some (33,false)),.unot (.t 39)⟩,
 ii 41 (.pick (.t 33) (.c (.lit (.bool true))) (.t 40))]
def F148_r7:List AIns:=[ii 10 (.mv (.c (.lit (.bool false))))]
def F148_r8:List AIns:=[ii 42 (.bin .add (.t 20) (.c (.lit (.int .i64 1)))),
 ii 20 (.mv (.t 42))]
def F148_l1:AC:=.seq (.reg F148_r4 [] [0,3,4,6,18,19,20,21] [6]) (.seq (.cond (.t 21) (.skip) (.exit 0)) (.seq (.block 1 (.seq (.reg F148_r5 [] [0,3,4,6,11,12,18,19,20] [6,12]) (.seq (.reg F148_r6 [] [0,3,4,6,18,19,20,41] [6]) (.cond (.t 41) (.seq (.reg F148_r7 [] [10] []) (.ret)) (.skip))))) (.reg F148_r8 [] [0,3,4,6,18,19,20] [6])))
def F148_r9:List AIns:=[ii 10 (.mv (.c (.lit (.bool true))))]
def F148_:AFun:=⟨5,.seq (.reg F148_r0 [] [0,2,3,4,6] [6]) (.seq (.seq (.reg F148_r1 [] [0,2,3,4,6,17] [6]) (.cond (.t 17) (.seq (.reg F148_r2 [] [10] []) (.ret)) (.skip))) (.seq (.seq (.reg F148_r3 [] [0,3,4,6,18,19,20] [6]) (.block 0 (.loop F148_l1))) (.seq (.reg F148_r9 [] [10] []) (.ret)))),[.t 10]⟩
def F149_r0:List AIns:=[ii 5 (.box true (.t 1)),
 ii 6 (.box true (.t 2)),
 ii 8 (.mv (.c (.lit (.bool false))))]
def F149_r1:List AIns:=[ii 16 (.mv (.t 0)),
 ii 17 (.nck (.t 16)),
 ii 18 (.fa 0 (.t 17)),
 ii 19 (.ld true none (.t 18)),
 ii 20 (.fa 2 (.t 6)),
 ii 21 (.ld false none (.t 20)),
 ii 22 (.bin .sub (.t 21) (.c (.lit (.int .i64 1)))),
 ii 23 (.ia 3 (.t 19) (.t 22)),
 ii 24 (.fa 2 (.t 23)),
 ii 25 (.ld false none (.t 24)),
 ii 9 (.mv (.t 25))]
def F149_r2:List AIns:=[ii 26 (.fa 4 (.t 6)),
 ii 27 (.ld false none (.t 26)),
 ii 28 (.len false (.t 27)),
 ii 29 (.mv (.t 9)),
 ii 30 (.len false (.t 29)),
 ii 31 (.bin .neq (.t 28) (.t 30))]
def F149_r3:List AIns:=[ii 8 (.mv (.c (.lit (.bool false))))]
def F149_r4:List AIns:=[ii 32 (.fa 4 (.t 6)),
 ii 33 (.ld false none (.t 32)),
 ii 34 (.len false (.t 33)),
 ii 35 (.mv (.c (.lit (.int .i64 0))))]
def F149_r5:List AIns:=[ii 36 (.bin .lss (.t 35) (.t 34))]
def F149_r6:List AIns:=[ii 37 (.mv (.t 35)),
 ii 38 (.ia 7 (.t 33) (.t 35)),
 ii 39 (.ld false (some 7) (.t 38)),
 ii 11 (.alloc true [.slice .full 1 [],.slice .full 1 [],.lit (.int .i64 0),.lit (.int .i64 0),.lit (.int .i64 0),.slice .full 5 [],.slice .full 7 []]),
 ii 10 (.mv (.t 37)),
 ⟨none,none,.st false 7 (.t 11) (.t 39)⟩]
def F149_r7:List AIns:=[ii 40 (.fa 0 (.t 11)),
 ii 41 (.ld false none (.t 40)),
 ii 42 (.len false (.t 41)),
 ii 43 (.mv (.t 9)),
 ii 44 (.mv (.t 10)),
 ii 45 (.ia 2 (.t 43) (.t 44)),
 ii 46 (.fa 1 (.t 45)),
 ii 47 (.ld false none (.t 46)),
 ii 48 (.len false (.t 47)),
 ii 49 (.bin .neq (.t 42) (.t 48)),
 ii 50 (.mv (.t 49)),
 ⟨some 51,(some (50,false)),.fa 0 (.t 11)⟩,
 ⟨some 52,(some (50,false)),.ld false none (.t 51)⟩,
 ⟨some 53,(some (50,false)),.fa 1 (.t 11)⟩,
 ⟨some 54,(some (50,false)),.ld false none (.t 53)⟩,
 ⟨some 55,(some (50,false)),.call (.f N90_) [(.t 52),(.t 54)]⟩,
 ⟨some 56,(some (50,false)),.unot (.t 55)⟩,
 ii 57 (.pick (.t 50) (.c (.lit (.bool true))) (.t 56))]
def F149_r8:List AIns:=[ii 8 (.mv (.c (.lit (.bool false))))]
def F149_r9:List AIns:=[ii 58 (.mv (.t 9)),
 ii 59 (.mv (.t 10)),
 ii 60 (.ia 2 (.t 58) (.t 59)),
 ii 61 (.fa 1 (.t 60)),
 ii 62 (.ld false none (.t 61)),
 ii 63 (.len false (.t 62)),
 ii 64 (.mv (.c (.lit (.int .i64 0))))]
def F149_r10:List AIns:=[ii 65 (.bin .lss (.t 64) (.t 63))]
def F149_r11:List AIns:=[ii 66 (.mv (.t 64)),
 ii 67 (.ia 2 (.t 62) (.t 64)),
 ii 68 (.ld false (some 2) (.t 67)),
 ii 13 (.alloc true [.lit (.int .i64 0),.lit (.bool false)]),
 ii 12 (.mv (.t 66)),
 ⟨none,none,.st false 2 (.t 13) (.t 68)⟩]
def F149_r12:List AIns:=[ii 69 (.fa 1 (.t 11)),
 ii 70 (.ld false none (.t 69)),
 ii 71 (.mv (.t 12)),
 ii 72 (.ia 1 (.t 70) (.t 71)),
 ii 73 (.ld false none (.t 72)),
 ii 74 (.fa 1 (.t 13)),
 ii 75 (.ld false none (.t 74)),
 ii 76 (.beq true (.t 73) (.t 75))]
def F149_r13:List AIns:=[ii 8 (.mv (.c (.lit (.bool false))))]
def F149_r14:List AIns:=[ii 77 (.bin .add (.t 64) (.c (.lit (.int .i64 1)))),
 ii 64 (.mv (.t 77))]
def F149_l2:AC:=.seq (.reg F149_r10 [] [0,3,5,9,11,33,34,35,62,63,64,65] [5,11]) (.seq (.cond (.t 65) (.skip) (.exit 2)) (.seq (.block 3 (.seq (.reg F149_r11 [] [0,3,5,9,11,12,13,33,34,35,62,63,64] [5,11,13]) (.seq (.reg F149_r12 [] [0,3,5,9,11,33,34,35,62,63,64,76] [5,11]) (.cond (.t 76) (.seq (.reg F149_r13 [] [8] []) (.ret)) (.skip))))) (.reg F149_r14 [] [0,3,5,9,11,33,34,35,62,63,64] [5,11])))
def F149_r15:List AIns:=[ii 78 (.ld false (some 2) (.t 5)),
 ii 79 (.fa 0 (.t 11)),
 ii 80 (.ld false none (.t 79)),
 ii 81 (.fa 1 (.t 11)),
 ii 82 (.ld false none (.t 81)),
 ii 83 (.call (.f N92_) [(.t 78),(.t 80),(.t 82)]),
 ii 14 (.mv (.t 83))]
def F149_r16:List AIns:=[ii 84 (.fa 2 (.t 11)),
 ii 85 (.fa 0 (.t 84)),
 ii 86 (.ld false none (.t 85)),
 ii 87 (.call (.f N55_) [(.t 86)]),
 ii 88 (.bin .eql (.t 87) (.c (.lit (.int .i64 2)))),
 ii 89 (.mv (.t 88)),
 ⟨some 90,(some (89,true)),.mv (.t 0)⟩,
 ⟨some 91,(some (89,true)),.ld false (some 2) (.t 5)⟩,
 ⟨some 92,(some (89,true)),.fa 2 (.t 11)⟩,
 ⟨some 93,(some (89,true)),.ld false (some 5) (.t 92)⟩,
 ⟨some 94,(some (89,true)),.mv (.t 3)⟩,
 ⟨some 95,(some (89,true)),.bin .add (.t 94) (.c (.lit (.int .i64 1)))⟩,
 ⟨some 96,(some (89,true)),.call (.f N94_) [(.t 90),(.t 91),(.t 93),(.t 95)]⟩,
 ii 97 (.pick (.t 89) (.t 96) (.c (.lit (.bool false)))),
 ii 15 (.mv (.t 97))]
def F149_r17:List AIns:=[ii 98 (.mv (.t 14)),
 ii 99 (.call (.t 98) [])]
def F149_r18:List AIns:=[ii 100 (.mv (.t 15)),
 ii 101 (.unot (.t 100))]
def F149_r19:List AIns:=[ii 8 (.mv (.c (.lit (.bool false))))]
def F149_r20:List AIns:=[ii 102 (.bin .add (.t 35) (.c (.lit (.int .i64 1)))),
 ii 35 (.mv (.t 102))]
def F149_l1:AC:=.seq (.reg F149_r5 [] [0,3,5,9,33,34,35,36] [5]) (.seq (.cond (.t 36) (.skip) (.exit 0)) (.seq (.block 1 (.seq (.reg F149_r6 [] [0,3,5,9,10,11,33,34,35] [5,11]) (.seq (.seq (.reg F149_r7 [] [0,3,5,9,10,11,33,34,35,57] [5,11]) (.cond (.t 57) (.seq (.reg F149_r8 [] [8] []) (.ret)) (.skip))) (.seq (.seq (.reg F149_r9 [] [0,3,5,9,11,33,34,35,62,63,64] [5,11]) (.block 2 (.loop F149_l2))) (.seq (.reg F149_r15 [] [0,3,5,9,11,14,33,34,35] [5,11]) (.seq (.reg F149_r16 [] [0,3,5,9,14,15,33,34,35] [5]) (.seq (.reg F149_r17 [] [0,3,5,9,15,33,34,35] [5]) (.seq (.reg F149_r18 [] [0,3,5,9,33,34,35,101] [5]) (.cond (.t 101) (.seq (.reg F149_r19 [] [8] []) (.ret)) (.skip)))))))))) (.reg F149_r20 [] [0,3,5,9,33,34,35] [5])))
def F149_r21:List AIns:=[ii 8 (.mv (.c (.lit (.bool true))))]
def F149_:AFun:=⟨4,.seq (.reg F149_r0 [] [0,3,5,6] [5,6]) (.seq (.reg F149_r1 [] [0,3,5,6,9] [5,6]) (.seq (.seq (.reg F149_r2 [] [0,3,5,6,9,31] [5,6]) (.cond (.t 31) (.seq (.reg F149_r3 [] [8] []) (.ret)) (.skip))) (.seq (.seq (.reg F149_r4 [] [0,3,5,9,33,34,35] [5]) (.block 0 (.loop F149_l1))) (.seq (.reg F149_r21 [] [8] []) (.ret))))),[.t 8]⟩
def F150_r0:List AIns:=[ii 2 (.mv (.c (.lit (.int .i64 0))))]
def F150_r1:List AIns:=[ii 3 (.mv (.t 0))]
def F150_r2:List AIns:=[ii 2 (.mv (.c (.lit (.int .i64 1))))]
def F150_r3:List AIns:=[ii 2 (.mv (.c (.lit (.int .i64 0))))]
def F150_:AFun:=⟨1,.seq (.reg F150_r0 [] [0] []) (.seq (.seq (.reg F150_r1 [] [3] []) (.cond (.t 3) (.seq (.reg F150_r2 [] [2] []) (.ret)) (.skip))) (.seq (.reg F150_r3 [] [2] []) (.ret))),[.t 2]⟩
def F151_r0:List AIns:=[ii 4 (.ld true none (.t 0)),
 ii 5 (.len false (.t 4)),
 ii 6 (.bin .sub (.t 5) (.c (.lit (.int .i64 1)))),
 ii 2 (.mv (.t 6))]
def F151_r1:List AIns:=[ii 7 (.mv (.t 2)),
 ii 8 (.bin .geq (.t 7) (.c (.lit (.int .i64 0))))]
def F151_r3:List AIns:=[ii 11 (.ld true none (.t 0)),
 ii 12 (.mv (.t 2)),
 ii 13 (.ia 4 (.t 11) (.t 12)),
 ii 14 (.ld false (some 4) (.t 13)),
 ii 3 (.alloc true [.lit (.int .i64 0),.lit (.int .i64 0),.lit (.int .i64 0),.lit (.bool false)]),
 ⟨none,none,.st false 4 (.t 3) (.t 14)⟩]
def F151_r4:List AIns:=[ii 15 (.ld true none (.t 1)),
 ii 16 (.fa 0 (.t 3)),
 ii 17 (.ld false none (.t 16)),
 ii 18 (.nck (.t 15)),
 ii 19 (.fa 2 (.t 18)),
 ii 20 (.iaa 2 1 (.t 19) (.t 17)),
 ii 21 (.ld true none (.t 20)),
 ii 22 (.fa 1 (.t 3)),
 ii 23 (.ld false none (.t 22)),
 ⟨none,none,.dl (.int .i64) (.t 21) (.t 23)⟩]
def F151_r5:List AIns:=[ii 24 (.fa 3 (.t 3)),
 ii 25 (.ld false none (.t 24))]
def F151_r6:List AIns:=[ii 26 (.ld true none (.t 1)),
 ii 27 (.fa 0 (.t 3)),
 ii 28 (.ld false none (.t 27)),
 ii 29 (.nck (.t 26)),
 ii 30 (.fa 2 (.t 29)),
 ii 31 (.iaa 2 1 (.t 30) (.t 28)),
 ii 32 (.ld true none (.t 31)),
 ii 33 (.fa 1 (.t 3)),
 ii 34 (.ld false none (.t 33)),
 ii 35 (.fa 2 (.t 3)),
 ii 36 (.ld false none (.t 35)),
 ⟨none,none,.mu (.int .i64) (.t 32) (.t 34) (.t 36)⟩]
def F151_r2:List AIns:=[ii 9 (.mv (.t 2)),
 ii 10 (.bin .sub (.t 9) (.c (.lit (.int .i64 1)))),
 ii 2 (.mv (.t 10))]
def F151_l1:AC:=.seq (.seq (.reg F151_r1 [] [0,1,2,8] []) (.cond (.t 8) (.skip) (.exit 0))) (.seq (.block 1 (.seq (.reg F151_r3 [] [0,1,2,3] [3]) (.seq (.reg F151_r4 [] [0,1,2,3] [3]) (.seq (.reg F151_r5 [] [0,1,2,3,25] [3]) (.cond (.t 25) (.reg F151_r6 [] [0,1,2] []) (.skip)))))) (.reg F151_r2 [] [0,1,2] []))
def F151_:AFun:=⟨2,.seq (.reg F151_r0 [] [0,1,2] []) (.block 0 (.loop F151_l1)),[]⟩
def F160_r0:List AIns:=[ii 6 (.mv (.c (.lit (.bool false))))]
def F160_r1:List AIns:=[ii 11 (.mv (.t 1)),
 ii 12 (.len false (.t 11)),
 ii 13 (.mv (.c (.lit (.int .i64 0))))]
def F160_r2:List AIns:=[ii 14 (.bin .lss (.t 13) (.t 12))]
def F160_r3:List AIns:=[ii 15 (.mv (.t 13)),
 ii 16 (.ia 5 (.t 11) (.t 13)),
 ii 17 (.ld false (some 5) (.t 16)),
 ii 8 (.alloc true [.lit (.int .i64 0),.lit (.int .i64 0),.lit (.int .i64 0),.slice .full 5 [],.slice .full 7 []]),
 ii 7 (.mv (.t 15)),
 ⟨none,none,.st false 5 (.t 8) (.t 17)⟩]
def F160_r4:List AIns:=[ii 19 (.mv (.t 0)),
 ii 20 (.ld false (some 5) (.t 8)),
 ii 21 (.call (.f N57_) [(.t 19),(.t 20)]),
 ii 18 (.mv (.t 21)),
 ii 22 (.ext (.t 18) 0),
 ii 23 (.ext (.t 18) 1),
 ii 9 (.mv (.t 22)),
 ii 10 (.mv (.t 23))]
def F160_r5:List AIns:=[ii 24 (.mv (.t 10)),
 ii 25 (.unot (.t 24)),
 ii 26 (.mv (.t 25)),
 ⟨some 27,(some (26,false)),.mv (.t 9)⟩,
 ⟨some 28,(some (26,false)),.mv (.t 2)⟩,
 ⟨some 29,(some (26,false)),.mv (.t 7)⟩,
 ⟨some 30,(some (26,false)),.ia 1 (.t 28) (.t 29)⟩,
 ⟨some 31,(some (26,false)),.ld false none (.t 30)⟩,
 ⟨some 32,(some (26,false)),.bin .neq (.t 27) (.t 31)⟩,
 ii 33 (.pick (.t 26) (.c (.lit (.bool true))) (.t 32))]
def F160_r6:List AIns:=[ii 6 (.mv (.c (.lit (.bool false))))]
def F160_r7:List AIns:=[ii 34 (.bin .add (.t 13) (.c (.lit (.int .i64 1)))),
 ii 13 (.mv (.t 34))]
def F160_l1:AC:=.seq (.reg F160_r2 [] [0,2,11,12,13,14] []) (.seq (.cond (.t 14) (.skip) (.exit 0)) (.seq (.block 1 (.seq (.reg F160_r3 [] [0,2,7,8,11,12,13] [8]) (.seq (.reg F160_r4 [] [0,2,7,9,10,11,12,13] []) (.seq (.reg F160_r5 [] [0,2,11,12,13,33] []) (.cond (.t 33) (.seq (.reg F160_r6 [] [6] []) (.ret)) (.skip)))))) (.reg F160_r7 [] [0,2,11,12,13] [])))
def F160_r8:List AIns:=[ii 6 (.mv (.c (.lit (.bool true))))]
def F160_:AFun:=⟨3,.seq (.reg F160_r0 [] [0,1,2] []) (.seq (.seq (.reg F160_r1 [] [0,2,11,12,13] []) (.block 0 (.loop F160_l1))) (.seq (.reg F160_r8 [] [6] []) (.ret))),[.t 6]⟩
def F161_r0:List AIns:=[ii 2 (.mv (.c (.slice .full 1 [])))]
def F161_r1:List AIns:=[ii 3 (.mv (.c (.slice .full 1 [])))]
def F161_r2:List AIns:=[ii 6 (.mv (.t 0)),
 ii 7 (.len false (.t 6)),
 ii 8 (.mv (.c (.lit (.int .i64 0))))]
def F161_r3:List AIns:=[ii 9 (.bin .lss (.t 8) (.t 7))]
def F161_r4:List AIns:=[ii 10 (.ia 2 (.t 6) (.t 8)),
 ii 11 (.ld false (some 2) (.t 10)),
 ii 5 (.alloc true [.lit (.int .i64 0),.lit (.bool false)]),
 ⟨none,none,.st false 2 (.t 5) (.t 11)⟩]
def F161_r5:List AIns:=[ii 12 (.mv (.t 3)),
 ii 13 (.fa 0 (.t 5)),
 ii 14 (.ld false none (.t 13)),
 ii 15 (.bsl 1 [(.t 14)]),
 ii 16 (.app 1 8 (.t 12) (.t 15)),
 ii 3 (.mv (.t 16))]
def F161_r6:List AIns:=[ii 17 (.bin .add (.t 8) (.c (.lit (.int .i64 1)))),
 ii 8 (.mv (.t 17))]
def F161_l1:AC:=.seq (.reg F161_r3 [] [3,6,7,8,9] []) (.seq (.cond (.t 9) (.skip) (.exit 0)) (.seq (.block 1 (.seq (.reg F161_r4 [] [3,5,6,7,8] [5]) (.reg F161_r5 [] [3,6,7,8] []))) (.reg F161_r6 [] [3,6,7,8] [])))
def F161_r7:List AIns:=[ii 18 (.mv (.t 3)),
 ii 2 (.mv (.t 18))]
def F161_:AFun:=⟨1,.seq (.reg F161_r0 [] [0] []) (.seq (.reg F161_r1 [] [0,3] []) (.seq (.seq (.reg F161_r2 [] [3,6,7,8] []) (.block 0 (.loop F161_l1))) (.seq (.reg F161_r7 [] [2] []) (.ret)))),[.t 2]⟩
def tab:List (Nat × AFun):=[(N5_,F5_),(N10_,F10_),(N11_,F11_),(N12_,F12_),(N15_,F15_),(N16_,F16_),(N20_,F20_),(N21_,F21_),(N22_,F22_),(N23_,F23_),(N24_,F24_),(N43_,F43_),(N44_,F44_),(N45_,F45_),(N53_,F53_),(N54_,F54_),(N55_,F55_),(N56_,F56_),(N57_,F57_),(N64_,F64_),(N65_,F65_),(N66_,F66_),(N67_,F67_),(N88_,F88_),(N89_,F89_),(N90_,F90_),(N91_,F91_),(N92_,F92_),(N93_,F93_),(N94_,F94_),(N95_,F95_),(N105_,F105_),(N106_,F106_),(N107_,F107_),(N108_,F108_),(N109_,F109_),(N110_,F110_),(N111_,F111_),(N112_,F112_),(N113_,F113_),(N138_,F138_),(N139_,F139_),(N140_,F140_),(N141_,F141_),(N143_,F143_),(N144_,F144_),(N145_,F145_),(N146_,F146_),(N147_,F147_),(N148_,F148_),(N149_,F149_),(N150_,F150_),(N151_,F151_),(N160_,F160_),(N161_,F161_)]
def fnOf (n:Nat):Option AFun:=(tab.find? fun x=>x.1 == n).map (·.2)
end Go.Sim.Kd
namespace Go.Sim.Kd
open Go Go.Sim
def hasInt (q:Option AV):Bool :=
 match q with
 | some (.lit (.int .i64 _))=>true
 | _=>false
def containsOv (args:List AV) (s:Sg):Option (List AV × Sg) :=
 match args with
 | [.lit (.string a),.lit (.string b)]=>if a.size < 4294967281 ∧ hasInt (s.Q 0 0)=true then some ([.lit (.bool (Lib.contains a.data.toList b.data.toList))],s) else none
 | _=>none
def ov (n:Nat):Option (List AV → Sg → Option (List AV × Sg)):=if n=N142_ then some containsOv else none
def p:Pg:=⟨fnOf,ov⟩
theorem f5_:p.fn N5_=some F5_:=rfl
theorem f10_:p.fn N10_=some F10_:=rfl
theorem f11_:p.fn N11_=some F11_:=rfl
theorem f12_:p.fn N12_=some F12_:=rfl
theorem f15_:p.fn N15_=some F15_:=rfl
theorem f16_:p.fn N16_=some F16_:=rfl
theorem f20_:p.fn N20_=some F20_:=rfl
theorem f21_:p.fn N21_=some F21_:=rfl
theorem f22_:p.fn N22_=some F22_:=rfl
theorem f23_:p.fn N23_=some F23_:=rfl
theorem f24_:p.fn N24_=some F24_:=rfl
theorem f43_:p.fn N43_=some F43_:=rfl
theorem f44_:p.fn N44_=some F44_:=rfl
theorem f45_:p.fn N45_=some F45_:=rfl
theorem f53_:p.fn N53_=some F53_:=rfl
theorem f54_:p.fn N54_=some F54_:=rfl
theorem f55_:p.fn N55_=some F55_:=rfl
theorem f56_:p.fn N56_=some F56_:=rfl
theorem f57_:p.fn N57_=some F57_:=rfl
theorem f64_:p.fn N64_=some F64_:=rfl
theorem f65_:p.fn N65_=some F65_:=rfl
theorem f66_:p.fn N66_=some F66_:=rfl
theorem f67_:p.fn N67_=some F67_:=rfl
theorem f88_:p.fn N88_=some F88_:=rfl
theorem f89_:p.fn N89_=some F89_:=rfl
theorem f90_:p.fn N90_=some F90_:=rfl
theorem f91_:p.fn N91_=some F91_:=rfl
theorem f92_:p.fn N92_=some F92_:=rfl
theorem f93_:p.fn N93_=some F93_:=rfl
theorem f94_:p.fn N94_=some F94_:=rfl
theorem f95_:p.fn N95_=some F95_:=rfl
theorem f105_:p.fn N105_=some F105_:=rfl
theorem f106_:p.fn N106_=some F106_:=rfl
theorem f107_:p.fn N107_=some F107_:=rfl
theorem f108_:p.fn N108_=some F108_:=rfl
theorem f109_:p.fn N109_=some F109_:=rfl
theorem f110_:p.fn N110_=some F110_:=rfl
theorem f111_:p.fn N111_=some F111_:=rfl
theorem f112_:p.fn N112_=some F112_:=rfl
theorem f113_:p.fn N113_=some F113_:=rfl
theorem f138_:p.fn N138_=some F138_:=rfl
theorem f139_:p.fn N139_=some F139_:=rfl
theorem f140_:p.fn N140_=some F140_:=rfl
theorem f141_:p.fn N141_=some F141_:=rfl
theorem f143_:p.fn N143_=some F143_:=rfl
theorem f144_:p.fn N144_=some F144_:=rfl
theorem f145_:p.fn N145_=some F145_:=rfl
theorem f146_:p.fn N146_=some F146_:=rfl
theorem f147_:p.fn N147_=some F147_:=rfl
theorem f148_:p.fn N148_=some F148_:=rfl
theorem f149_:p.fn N149_=some F149_:=rfl
theorem f150_:p.fn N150_=some F150_:=rfl
theorem f151_:p.fn N151_=some F151_:=rfl
theorem f160_:p.fn N160_=some F160_:=rfl
theorem f161_:p.fn N161_=some F161_:=rfl
end Go.Sim.Kd
