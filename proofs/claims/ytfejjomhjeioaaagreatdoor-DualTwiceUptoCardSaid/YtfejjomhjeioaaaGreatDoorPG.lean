/-
  A part of a proof: see the last text of this claim.
-/
import Derived.Test.YtfejjomhjeioaaaGreatDoorPB
import Derived.Test.YtfejjomhjeioaaaGreatDoorPC
import Derived.Lib.IndexMore
set_option linter.unusedVariables false
set_option linter.unusedSimpArgs false
namespace Go.Sim
open Go
structure Arg where
 ty:Int
 co:Bool
structure Xtor where
 name:ByteArray
 args:List Arg
structure Decl where
 name:ByteArray
 codata:Bool
 xtors:List Xtor
mutual
inductive Node
 | mk (op n ty:Int) (args:List Node) (brs:List Br)
inductive Br
 | mk (vars:List Int) (co:List Bool) (body:Node)
end
structure CFun where
 name:ByteArray
 params:List Arg
 vars:List Int
 body:Node
structure Core where
 decls:List Decl
 funs:List CFun
def Node.op:Node → Int | .mk op _ _ _ _=>op
def Node.n:Node → Int | .mk _ n _ _ _=>n
def Node.ty:Node → Int | .mk _ _ ty _ _=>ty
def Node.args:Node → List Node | .mk _ _ _ args _=>args
def Node.brs:Node → List Br | .mk _ _ _ _ brs=>brs
def Br.vars:Br → List Int | .mk v _ _=>v
def Br.co:Br → List Bool | .mk _ c _=>c
def Br.body:Br → Node | .mk _ _ b=>b
abbrev SL (sz:Nat) (xs:List AV):AV:=.slice .none sz xs
abbrev ints (l:List Int):AV:=SL 1 (l.map I)
abbrev bools (l:List Bool):AV:=SL 1 (l.map B)
def Arg.enc (a:Arg):AV:=.agg [I a.ty,B a.co]
abbrev encArgs (l:List Arg):AV:=SL 2 (l.map Arg.enc)
def Xtor.enc (x:Xtor):AV:=.agg [Str x.name,encArgs x.args]
def Decl.enc (d:Decl):AV:=.agg [Str d.name,B d.codata,SL 2 (d.xtors.map Xtor.enc)]
mutual
def Node.enc:Node → AV
 | .mk op n ty args brs=>.agg [I op,I n,I ty,SL 5 (encNs args),SL 7 (encBs brs)]
def encNs:List Node → List AV
 | []=>[]
 | a :: as=>a.enc :: encNs as
def Br.enc:Br → AV
 | .mk vars co body=>.agg (ints vars :: bools co :: body.enc.cells)
def encBs:List Br → List AV
 | []=>[]
 | a :: as=>a.enc :: encBs as
end
def CFun.enc (f:CFun):AV:=.agg (Str f.name :: encArgs f.params :: ints f.vars :: f.body.enc.cells)
def Core.enc (c:Core):AV:=.agg [SL 3 (c.decls.map Decl.enc),SL 8 (c.funs.map CFun.enc)]
theorem encNs_eq (l:List Node):encNs l=l.map Node.enc:=by induction l with
 | nil=>rfl
 | cons a l ih=>simp [encNs,ih]
theorem encBs_eq (l:List Br):encBs l=l.map Br.enc:=by induction l with
 | nil=>rfl
 | cons a l ih=>simp [encBs,ih]
def Node.cs (a:Node):List AV:=[I a.op,I a.n,I a.ty,SL 5 (a.args.map Node.enc),SL 7 (a.brs.map Br.enc)]
theorem Node.enc_eq (a:Node):a.enc=.agg a.cs:=by
 cases a
 simp only [Node.enc,encNs_eq,encBs_eq]
 rfl
theorem Node.enc_cells (a:Node):a.enc.cells=a.cs:=by rw [a.enc_eq];rfl
theorem Br.enc_eq (b:Br):b.enc=.agg (ints b.vars :: bools b.co :: b.body.cs):=by
 cases b
 simp only [Br.enc,Node.enc_cells]
 rfl
theorem CFun.enc_eq (f:CFun):f.enc=.agg (Str f.name :: encArgs f.params :: ints f.vars :: f.body.cs):=by
 unfold CFun.enc
 rw [Node.enc_cells]
def Arg.sz (_:Arg):Nat:=1
def Xtor.sz (x:Xtor):Nat:=1 + x.name.size + x.args.length
def szL {α:Type} (f:α → Nat):List α → Nat
 | []=>0
 | a :: as=>f a + szL f as
def Decl.sz (d:Decl):Nat:=1 + d.name.size + szL Xtor.sz d.xtors
mutual
def Node.sz:Node → Nat
 | .mk _ _ _ args brs=>1 + szNs args + szBs brs
def szNs:List Node → Nat
 | []=>0
 | a :: as=>a.sz + szNs as
def Br.sz:Br → Nat
 | .mk vars co body=>1 + vars.length + co.length + body.sz
def szBs:List Br → Nat
 | []=>0
 | a :: as=>a.sz + szBs as
end
def CFun.sz (f:CFun):Nat:=1 + f.name.size + f.params.length + f.vars.length + f.body.sz
def Core.sz (c:Core):Nat:=1 + szL Decl.sz c.decls + szL CFun.sz c.funs
theorem szNs_mem {l:List Node} {a:Node} (h:a ∈ l):a.sz ≤ szNs l:=by induction l with
 | nil=>cases h
 | cons b l ih =>
   simp only [szNs]
   cases h with
   | head=>omega
   | tail _ h=>have:=ih h;omega
theorem szBs_mem {l:List Br} {a:Br} (h:a ∈ l):a.sz ≤ szBs l:=by induction l with
 | nil=>cases h
 | cons b l ih =>
   simp only [szBs]
   cases h with
   | head=>omega
   | tail _ h=>have:=ih h;omega
theorem szL_mem {α:Type} {f:α → Nat} {l:List α} {a:α} (h:a ∈ l):f a ≤ szL f l:=by induction l with
 | nil=>cases h
 | cons b l ih =>
   simp only [szL]
   cases h with
   | head=>omega
   | tail _ h=>have:=ih h;omega
theorem szL_len {α:Type} {f:α → Nat} {l:List α} (hf:∀ a,1 ≤ f a):l.length ≤ szL f l:=by induction l with
 | nil=>simp [szL]
 | cons b l ih=>simp only [szL,List.length_cons];have:=hf b;omega
theorem Node.sz_pos (a:Node):1 ≤ a.sz:=by cases a;simp only [Node.sz];omega
theorem Br.sz_pos (a:Br):1 ≤ a.sz:=by cases a;simp only [Br.sz];omega
theorem szNs_len (l:List Node):l.length ≤ szNs l:=by induction l with
 | nil=>simp [szNs]
 | cons b l ih=>simp only [szNs,List.length_cons];have:=b.sz_pos;omega
theorem szBs_len (l:List Br):l.length ≤ szBs l:=by induction l with
 | nil=>simp [szBs]
 | cons b l ih=>simp only [szBs,List.length_cons];have:=b.sz_pos;omega
theorem Node.sz_arg {a b:Node} (h:b ∈ a.args):b.sz < a.sz:=by cases a;simp only [Node.sz];have:=szNs_mem h;simp only [Node.args] at this;omega
theorem Node.sz_br {a:Node} {b:Br} (h:b ∈ a.brs):b.sz < a.sz:=by cases a;simp only [Node.sz];have:=szBs_mem h;simp only [Node.brs] at this;omega
theorem Br.sz_body (b:Br):b.body.sz < b.sz:=by cases b;simp only [Br.sz,Br.body];omega
theorem Node.sz_args (a:Node):a.args.length < a.sz:=by cases a;simp only [Node.sz,Node.args];have:=szNs_len ‹List Node›;omega
theorem Node.sz_brs (a:Node):a.brs.length < a.sz:=by cases a;simp only [Node.sz,Node.brs];have:=szBs_len ‹List Br›;omega
theorem Br.sz_vars (b:Br):b.vars.length < b.sz:=by cases b;simp only [Br.sz,Br.vars];omega
theorem Br.sz_co (b:Br):b.co.length < b.sz:=by cases b;simp only [Br.sz,Br.co];omega
theorem Node.ind {P:Node → Prop} (h:∀ a:Node,(∀ b ∈ a.args,P b) → (∀ b ∈ a.brs,P b.body) → P a) (a:Node):P a:=by
 generalize hn:a.sz=n
 induction n using Nat.strongRecOn generalizing a with
 | _ n ih =>
   subst hn
   refine h a (fun b hb=>ih _ (Node.sz_arg hb) b rfl) (fun b hb=>ih _ ?_ b.body rfl)
   have:=Node.sz_br hb
   have:=b.sz_body
   omega
end Go.Sim
namespace Go.Sim.Kd
open Go Go.Sim
def R (l:List AIns) (k kl:List Nat):AC:=.reg l [] k kl
def ii (n:Nat) (o:AOp):AIns:=⟨some n,none,o⟩
def jm (d:Nat) (a:Nat):AIns:=⟨some d,none,.mv (.t a)⟩
def jtm (d:Nat) (g:Nat) (a:Nat):AIns:=⟨some d,some (g,true),.mv (.t a)⟩
def jfm (d:Nat) (g:Nat) (a:Nat):AIns:=⟨some d,some (g,false),.mv (.t a)⟩
def ja (d:Nat) (k:Nat) (a:Nat):AIns:=⟨some d,none,.fa k (.t a)⟩
def jta (d:Nat) (g:Nat) (k:Nat) (a:Nat):AIns:=⟨some d,some (g,true),.fa k (.t a)⟩
def jfa (d:Nat) (g:Nat) (k:Nat) (a:Nat):AIns:=⟨some d,some (g,false),.fa k (.t a)⟩
def jl (d:Nat) (a:Nat):AIns:=⟨some d,none,.ld false none (.t a)⟩
def jtl (d:Nat) (g:Nat) (a:Nat):AIns:=⟨some d,some (g,true),.ld false none (.t a)⟩
def jfl (d:Nat) (g:Nat) (a:Nat):AIns:=⟨some d,some (g,false),.ld false none (.t a)⟩
def jL (d:Nat) (a:Nat):AIns:=⟨some d,none,.ld true none (.t a)⟩
def jtL (d:Nat) (g:Nat) (a:Nat):AIns:=⟨some d,some (g,true),.ld true none (.t a)⟩
def jfL (d:Nat) (g:Nat) (a:Nat):AIns:=⟨some d,some (g,false),.ld true none (.t a)⟩
def jk (d:Nat) (k:Nat) (a:Nat):AIns:=⟨some d,none,.ld false (some k) (.t a)⟩
def jtk (d:Nat) (g:Nat) (k:Nat) (a:Nat):AIns:=⟨some d,some (g,true),.ld false (some k) (.t a)⟩
def jfk (d:Nat) (g:Nat) (k:Nat) (a:Nat):AIns:=⟨some d,some (g,false),.ld false (some k) (.t a)⟩
def jK (d:Nat) (k:Nat) (a:Nat):AIns:=⟨some d,none,.ld true (some k) (.t a)⟩
def jc (d:Nat) (k:Int):AIns:=⟨some d,none,.mv (.c (.lit (.int .i64 k)))⟩
def jf_ (d:Nat):AIns:=⟨some d,none,.mv (.c (.lit (.bool false)))⟩
def jp (d:Nat) (a:Nat) (b:Nat):AIns:=⟨some d,none,.pick (.t a) (.t b) (.c (.lit (.bool false)))⟩
def jfp (d:Nat) (g:Nat) (a:Nat) (b:Nat):AIns:=⟨some d,some (g,false),.pick (.t a) (.t b) (.c (.lit (.bool false)))⟩
def jP (d:Nat) (a:Nat) (b:Nat):AIns:=⟨some d,none,.pick (.t a) (.c (.lit (.bool true))) (.t b)⟩
def jtP (d:Nat) (g:Nat) (a:Nat) (b:Nat):AIns:=⟨some d,some (g,true),.pick (.t a) (.c (.lit (.bool true))) (.t b)⟩
def jA (d:Nat) (a:Nat) (k:Int):AIns:=⟨some d,none,.bin .add (.t a) (.c (.lit (.int .i64 k)))⟩
def jtA (d:Nat) (g:Nat) (a:Nat) (k:Int):AIns:=⟨some d,some (g,true),.bin .add (.t a) (.c (.lit (.int .i64 k)))⟩
def jfA (d:Nat) (g:Nat) (a:Nat) (k:Int):AIns:=⟨some d,some (g,false),.bin .add (.t a) (.c (.lit (.int .i64 k)))⟩
def je (d:Nat) (a:Nat) (k:Int):AIns:=⟨some d,none,.bin .eql (.t a) (.c (.lit (.int .i64 k)))⟩
def jte (d:Nat) (g:Nat) (a:Nat) (k:Int):AIns:=⟨some d,some (g,true),.bin .eql (.t a) (.c (.lit (.int .i64 k)))⟩
def jfe (d:Nat) (g:Nat) (a:Nat) (k:Int):AIns:=⟨some d,some (g,false),.bin .eql (.t a) (.c (.lit (.int .i64 k)))⟩
def jq (d:Nat) (a:Nat) (b:Nat):AIns:=⟨some d,none,.bin .lss (.t a) (.t b)⟩
def jtq (d:Nat) (g:Nat) (a:Nat) (b:Nat):AIns:=⟨some d,some (g,true),.bin .lss (.t a) (.t b)⟩
def jx (d:Nat) (k:Nat) (a:Nat) (b:Nat):AIns:=⟨some d,none,.ia k (.t a) (.t b)⟩
def jtx (d:Nat) (g:Nat) (k:Nat) (a:Nat) (b:Nat):AIns:=⟨some d,some (g,true),.ia k (.t a) (.t b)⟩
def jfx (d:Nat) (g:Nat) (k:Nat) (a:Nat) (b:Nat):AIns:=⟨some d,some (g,false),.ia k (.t a) (.t b)⟩
def jg (d:Nat) (a:Nat):AIns:=⟨some d,none,.len false (.t a)⟩
def jtg (d:Nat) (g:Nat) (a:Nat):AIns:=⟨some d,some (g,true),.len false (.t a)⟩
def jfg (d:Nat) (g:Nat) (a:Nat):AIns:=⟨some d,some (g,false),.len false (.t a)⟩
def jh (d:Nat) (a:Nat):AIns:=⟨some d,none,.nck (.t a)⟩
def jth (d:Nat) (g:Nat) (a:Nat):AIns:=⟨some d,some (g,true),.nck (.t a)⟩
def jfh (d:Nat) (g:Nat) (a:Nat):AIns:=⟨some d,some (g,false),.nck (.t a)⟩
def ju (d:Nat) (a:Nat):AIns:=⟨some d,none,.unot (.t a)⟩
def jtu (d:Nat) (g:Nat) (a:Nat):AIns:=⟨some d,some (g,true),.unot (.t a)⟩
def jfu (d:Nat) (g:Nat) (a:Nat):AIns:=⟨some d,some (g,false),.unot (.t a)⟩
def jb (d:Nat) (a:Nat):AIns:=⟨some d,none,.box true (.t a)⟩
def jz (d:Nat) (a:Nat) (k:Nat):AIns:=⟨some d,none,.ext (.t a) k⟩
def jns (k:Nat) (a:Nat) (b:Nat):AIns:=⟨none,none,.st false k (.t a) (.t b)⟩
def jnS (k:Nat) (a:Nat) (b:Nat):AIns:=⟨none,none,.st true k (.t a) (.t b)⟩
def jB (d:Nat) (k:Nat) (a:Nat):AIns:=⟨some d,none,.bsl k [.t a]⟩
def N5_:Nat:=5
def N6_:Nat:=6
def N7_:Nat:=7
def N8_:Nat:=8
def N9_:Nat:=9
def N11_:Nat:=11
def N16_:Nat:=16
def N17_:Nat:=17
def N19_:Nat:=19
def N20_:Nat:=20
def N21_:Nat:=21
def N22_:Nat:=22
def N23_:Nat:=23
def N24_:Nat:=24
def N25_:Nat:=25
def N26_:Nat:=26
def N27_:Nat:=27
def N28_:Nat:=28
def N29_:Nat:=29
def N30_:Nat:=30
def N38_:Nat:=38
def N39_:Nat:=39
def N40_:Nat:=40
def N41_:Nat:=41
def N49_:Nat:=49
def N50_:Nat:=50
def N56_:Nat:=56
def N57_:Nat:=57
def N58_:Nat:=58
def N59_:Nat:=59
def N60_:Nat:=60
def N61_:Nat:=61
def N62_:Nat:=62
def N63_:Nat:=63
def N64_:Nat:=64
def N65_:Nat:=65
def N66_:Nat:=66
def N67_:Nat:=67
def N68_:Nat:=68
def N69_:Nat:=69
def N70_:Nat:=70
def N71_:Nat:=71
def N81_:Nat:=81
def N84_:Nat:=84
def N85_:Nat:=85
def N86_:Nat:=86
def N101_:Nat:=101
def N102_:Nat:=102
def N103_:Nat:=103
def N104_:Nat:=104
def N105_:Nat:=105
def N106_:Nat:=106
def N107_:Nat:=107
def N108_:Nat:=108
def N109_:Nat:=109
def N110_:Nat:=110
def N111_:Nat:=111
def N112_:Nat:=112
def N113_:Nat:=113
def N114_:Nat:=114
def N115_:Nat:=115
def N116_:Nat:=116
def N117_:Nat:=117
def N118_:Nat:=118
def N127_:Nat:=127
def N128_:Nat:=128
def N129_:Nat:=129
def N130_:Nat:=130
def N131_:Nat:=131
def N132_:Nat:=132
def N133_:Nat:=133
def N134_:Nat:=134
def N135_:Nat:=135
def N136_:Nat:=136
def N137_:Nat:=137
def N148_:Nat:=148
def N149_:Nat:=149
def N150_:Nat:=150
def N152_:Nat:=152
def N153_:Nat:=153
def F5_r0:List AIns:=[jb 1 0,jf_ 2]
def F5_r1:List AIns:=[jk 8 2 1,ii 9 (.call (.f N6_) [(.t 8),(.c (.lit (.int .i64 3000)))]),ju 10 9]
def F5_r2:List AIns:=[ii 11 (.call (.f N7_) []),jm 2 11]
def F5_r3:List AIns:=[jk 13 2 1,ii 14 (.call (.f N9_) [(.t 13)]),jm 12 14,jz 15 12 0,jz 16 12 1,ii 3 (.alloc true [.slice .full 3 [],.slice .full 8 []]),jns 2 3 15,jm 4 16]
def F5_r4:List AIns:=[jm 17 4,ii 18 (.bin .neq (.t 17) (.c (.lit (.int .i64 0))))]
def F5_r5:List AIns:=[ii 19 (.call (.f N7_) []),jm 2 19]
def F5_r6:List AIns:=[jk 21 2 3,ii 22 (.call (.f N8_) [(.t 21)]),jm 20 22,jz 23 20 0,jz 24 20 1,jm 5 23,jm 4 24]
def F5_r7:List AIns:=[jk 26 2 3,ii 27 (.call (.f N9_) [(.t 26)]),jm 25 27,jz 28 25 0,jz 29 25 1,ii 6 (.alloc true [.slice .full 3 [],.slice .full 8 []]),jns 2 6 28,jm 7 29]
def F5_r8:List AIns:=[jm 30 5,jm 31 30,jtm 32 31 4,jte 33 31 32 0,jp 34 31 33,jm 35 34,jtm 36 35 7,jte 37 35 36 0,jp 38 35 37,jm 39 38,jtk 40 39 2 1,jtk 41 39 2 6,⟨some 42,(some (39,true)),.call (.f N11_) [(.t 40),(.t 41)]⟩,jp 43 39 42,jm 44 43,jtk 45 44 2 1,⟨some 46,(some (44,true)),.call (.f N16_) [(.t 45)]⟩,jtk 47 44 2 3,⟨some 48,(some (44,true)),.call (.f N16_) [(.t 47)]⟩,⟨some 49,(some (44,true)),.bin .eql (.t 46) (.t 48)⟩,jp 50 44 49,jm 51 50,⟨some 52,(some (51,true)),.call (.f N7_) []⟩,jp 53 51 52,jm 2 53]
def F5_:AFun:=⟨1,.seq (R F5_r0 [1] [1]) (.seq (.seq (R F5_r1 [1,10] [1]) (.cond (.t 10) (.seq (R F5_r2 [2] []) (.ret)) (.skip))) (.seq (R F5_r3 [1,3,4] [1,3]) (.seq (.seq (R F5_r4 [1,3,18] [1,3]) (.cond (.t 18) (.seq (R F5_r5 [2] []) (.ret)) (.skip))) (.seq (R F5_r6 [1,3,4,5] [1,3]) (.seq (R F5_r7 [1,3,4,5,6,7] [1,3,6]) (.seq (R F5_r8 [2] []) (.ret))))))),[.t 2]⟩
def F6_r0:List AIns:=[jb 2 0,jf_ 4]
def F6_r1:List AIns:=[ja 7 0 2,jl 8 7,jg 9 8,ii 10 (.bin .gtr (.t 9) (.c (.lit (.int .i64 40)))),jm 11 10,jfa 12 11 1 2,jfl 13 11 12,jfg 14 11 13,⟨some 15,(some (11,false)),.bin .gtr (.t 14) (.c (.lit (.int .i64 40)))⟩,jP 16 11 15]
def F6_r2:List AIns:=[jf_ 4]
def F6_r3:List AIns:=[ja 17 1 2,jl 18 17,jg 19 18,jc 20 0]
def F6_r4:List AIns:=[jq 21 20 19]
def F6_r5:List AIns:=[jx 22 8 18 20,jk 23 8 22,ii 6 (.alloc true [.lit (.string ⟨#[]⟩),.slice .full 2 [],.slice .full 1 [],.lit (.int .i64 0),.lit (.int .i64 0),.lit (.int .i64 0),.slice .full 5 [],.slice .full 7 []]),jns 8 6 23]
def F6_r6:List AIns:=[ja 24 3 6,jk 25 5 24,jm 26 1,ii 27 (.call (.f N17_) [(.t 25),(.t 26)]),ju 28 27]
def F6_r7:List AIns:=[jf_ 4]
def F6_r8:List AIns:=[jA 29 20 1,jm 20 29]
def F6_l1:AC:=.seq (R F6_r4 [1,18,19,20,21] []) (.seq (.cond (.t 21) (.skip) (.exit 0)) (.seq (.block 1 (.seq (R F6_r5 [1,6,18,19,20] [6]) (.seq (R F6_r6 [1,18,19,20,28] []) (.cond (.t 28) (.seq (R F6_r7 [4] []) (.ret)) (.skip))))) (R F6_r8 [1,18,19,20] [])))
def F6_r9:List AIns:=[ii 4 (.mv (.c (.lit (.bool true))))]
def F6_:AFun:=⟨2,.seq (R F6_r0 [1,2] [2]) (.seq (.seq (R F6_r1 [1,2,16] [2]) (.cond (.t 16) (.seq (R F6_r2 [4] []) (.ret)) (.skip))) (.seq (.seq (R F6_r3 [1,18,19,20] []) (.block 0 (.loop F6_l1))) (.seq (R F6_r9 [4] []) (.ret)))),[.t 4]⟩
def F8_r0:List AIns:=[jb 1 0,jf_ 2,jc 3 0]
def F8_r1:List AIns:=[jk 4 2 1,ii 5 (.call (.f N19_) [(.t 4)]),ju 6 5]
def F8_r2:List AIns:=[jf_ 2,jc 3 60]
def F8_r3:List AIns:=[jk 7 2 1,ii 8 (.call (.f N20_) [(.t 7)]),jm 2 8,jc 3 0]
def F8_:AFun:=⟨1,.seq (R F8_r0 [1] [1]) (.seq (.seq (R F8_r1 [1,6] [1]) (.cond (.t 6) (.seq (R F8_r2 [2,3] []) (.ret)) (.skip))) (.seq (R F8_r3 [2,3] []) (.ret))),[.t 2,.t 3]⟩
def F9_r0:List AIns:=[jb 1 0,ii 2 (.alloc true [.slice .full 3 [],.slice .full 8 []]),jc 3 0]
def F9_r1:List AIns:=[jk 5 2 1,ii 6 (.call (.f N19_) [(.t 5)]),ju 7 6]
def F9_r2:List AIns:=[ii 8 (.build [.slice .full 3 [],.slice .full 8 []] []),jns 2 2 8,jc 3 60]
def F9_r3:List AIns:=[jk 9 2 1,ii 10 (.call (.f N20_) [(.t 9)]),ju 11 10]
def F9_r4:List AIns:=[ii 12 (.build [.slice .full 3 [],.slice .full 8 []] []),jns 2 2 12,jc 3 110]
def F9_r5:List AIns:=[ja 13 0 1,jl 14 13,ii 15 (.call (.f N21_) [(.t 14),(.f N22_)]),ja 16 1 1,jl 17 16,ii 18 (.call (.f N27_) [(.t 17),(.f N28_)]),ii 19 (.build [.slice .full 3 [],.slice .full 8 []] [(0,1,(.t 15)),(1,1,(.t 18))]),ii 4 (.alloc true [.slice .full 3 [],.slice .full 8 []]),jns 2 4 19]
def F9_r6:List AIns:=[jk 20 2 4,jns 2 2 20,jc 3 0]
def F9_:AFun:=⟨1,.seq (R F9_r0 [1,2] [1,2]) (.seq (.seq (R F9_r1 [1,2,7] [1,2]) (.cond (.t 7) (.seq (R F9_r2 [2,3] [2]) (.ret)) (.skip))) (.seq (.seq (R F9_r3 [1,2,11] [1,2]) (.cond (.t 11) (.seq (R F9_r4 [2,3] [2]) (.ret)) (.skip))) (.seq (.reg F9_r5 [4] [2,4] [2,4]) (.seq (R F9_r6 [2,3] [2]) (.ret))))),[.cell (some 2) 2,.t 3]⟩
def F11_r0:List AIns:=[jb 2 0,jb 3 1,jf_ 4]
def F11_r1:List AIns:=[ja 8 0 2,jl 9 8,ja 10 0 3,jl 11 10,ii 12 (.call (.f N38_) [(.t 9),(.t 11)]),ju 13 12,jm 14 13,jfa 15 14 1 2,jfl 16 14 15,jfg 17 14 16,jfa 18 14 1 3,jfl 19 14 18,jfg 20 14 19,⟨some 21,(some (14,false)),.bin .neq (.t 17) (.t 20)⟩,jP 22 14 21]
def F11_r2:List AIns:=[jf_ 4]
def F11_r3:List AIns:=[ja 23 1 2,jl 24 23,jg 25 24,jc 26 0]
def F11_r4:List AIns:=[jq 27 26 25]
def F11_r5:List AIns:=[jm 28 26,jx 29 8 24 26,jk 30 8 29,ii 6 (.alloc true [.lit (.string ⟨#[]⟩),.slice .full 2 [],.slice .full 1 [],.lit (.int .i64 0),.lit (.int .i64 0),.lit (.int .i64 0),.slice .full 5 [],.slice .full 7 []]),jm 5 28,jns 8 6 30]
def F11_r6:List AIns:=[ja 31 1 3,jl 32 31,jm 33 5,jx 34 8 32 33,jk 35 8 34,ii 7 (.alloc true [.lit (.string ⟨#[]⟩),.slice .full 2 [],.slice .full 1 [],.lit (.int .i64 0),.lit (.int .i64 0),.lit (.int .i64 0),.slice .full 5 [],.slice .full 7 []]),jns 8 7 35]
def F11_r7:List AIns:=[ja 36 0 6,jl 37 36,ja 38 0 7,jl 39 38,ii 40 (.bin .neq (.t 37) (.t 39)),jm 41 40,jfa 42 41 1 6,jfl 43 41 42,jfa 44 41 1 7,jfl 45 41 44,⟨some 46,(some (41,false)),.call (.f N39_) [(.t 43),(.t 45)]⟩,jfu 47 41 46,jP 48 41 47,jm 49 48,jfa 50 49 2 6,jfl 51 49 50,jfa 52 49 2 7,jfl 53 49 52,⟨some 54,(some (49,false)),.call (.f N40_) [(.t 51),(.t 53)]⟩,jfu 55 49 54,jP 56 49 55,jm 57 56,jfa 58 57 3 6,jfk 59 57 5 58,jfa 60 57 3 7,jfk 61 57 5 60,⟨some 62,(some (57,false)),.call (.f N41_) [(.t 59),(.t 61)]⟩,jfu 63 57 62,jP 64 57 63]
def F11_r8:List AIns:=[jf_ 4]
def F11_r9:List AIns:=[jA 65 26 1,jm 26 65]
def F11_l1:AC:=.seq (R F11_r4 [3,24,25,26,27] [3]) (.seq (.cond (.t 27) (.skip) (.exit 0)) (.seq (.block 1 (.seq (R F11_r5 [3,5,6,24,25,26] [3,6]) (.seq (R F11_r6 [3,6,7,24,25,26] [3,6,7]) (.seq (R F11_r7 [3,24,25,26,64] [3]) (.cond (.t 64) (.seq (R F11_r8 [4] []) (.ret)) (.skip)))))) (R F11_r9 [3,24,25,26] [3])))
def F11_r10:List AIns:=[ii 4 (.mv (.c (.lit (.bool true))))]
def F11_:AFun:=⟨2,.seq (R F11_r0 [2,3] [2,3]) (.seq (.seq (R F11_r1 [2,3,22] [2,3]) (.cond (.t 22) (.seq (R F11_r2 [4] []) (.ret)) (.skip))) (.seq (.seq (R F11_r3 [3,24,25,26] [3]) (.block 0 (.loop F11_l1))) (.seq (R F11_r10 [4] []) (.ret)))),[.t 4]⟩
def F16_r0:List AIns:=[jb 1 0,jc 2 0]
def F16_r1:List AIns:=[jk 3 2 1,ii 4 (.call (.f N19_) [(.t 3)]),ju 5 4]
def F16_r2:List AIns:=[jc 2 60]
def F16_r3:List AIns:=[jk 6 2 1,ii 7 (.call (.f N49_) [(.t 6)]),ju 8 7]
def F16_r4:List AIns:=[jc 2 70]
def F16_r5:List AIns:=[jc 2 0]
def F16_:AFun:=⟨1,.seq (R F16_r0 [1] [1]) (.seq (.seq (R F16_r1 [1,5] [1]) (.cond (.t 5) (.seq (R F16_r2 [2] []) (.ret)) (.skip))) (.seq (.seq (R F16_r3 [8] []) (.cond (.t 8) (.seq (R F16_r4 [2] []) (.ret)) (.skip))) (.seq (R F16_r5 [2] []) (.ret)))),[.t 2]⟩
def F17_r0:List AIns:=[jb 2 0,jf_ 4]
def F17_r1:List AIns:=[jk 5 5 2,jm 6 1,jA 7 6 1,ii 8 (.call (.f N50_) [(.t 5),(.t 7)]),ii 9 (.bin .gtr (.t 8) (.c (.lit (.int .i64 0)))),jm 4 9]
def F17_:AFun:=⟨2,.seq (R F17_r0 [1,2] [2]) (.seq (R F17_r1 [4] []) (.ret)),[.t 4]⟩
def F19_r0:List AIns:=[jb 1 0,jf_ 2]
def F19_r1:List AIns:=[ja 13 0 1,jl 14 13,ii 15 (.call (.f N56_) [(.t 14)]),ju 16 15,jm 17 16,jfa 18 17 1 1,jfl 19 17 18,jfg 20 17 19,⟨some 21,(some (17,false)),.bin .lss (.t 20) (.c (.lit (.int .i64 1)))⟩,jP 22 17 21,jm 23 22,jfa 24 23 1 1,jfl 25 23 24,jfg 26 23 25,⟨some 27,(some (23,false)),.bin .gtr (.t 26) (.c (.lit (.int .i64 12)))⟩,jP 28 23 27]
def F19_r2:List AIns:=[jf_ 2]
def F19_r3:List AIns:=[ii 29 (.mkm .str),jm 3 29]
def F19_r4:List AIns:=[ja 30 0 1,jl 31 30,ja 32 1 1,jl 33 32,ii 34 (.build [.slice .full 3 [],.slice .full 8 [],.lit (.int .i64 0)] [(0,1,(.t 31)),(1,1,(.t 33)),(2,1,(.c (.lit (.int .i64 30000))))]),ii 35 (.box false (.t 34)),jm 4 35]
def F19_r5:List AIns:=[ja 36 1 1,jl 37 36,jg 38 37,jc 39 0]
def F19_r6:List AIns:=[jq 40 39 38]
def F19_r7:List AIns:=[jm 41 39,jx 42 8 37 39,jk 43 8 42,ii 6 (.alloc true [.lit (.string ⟨#[]⟩),.slice .full 2 [],.slice .full 1 [],.lit (.int .i64 0),.lit (.int .i64 0),.lit (.int .i64 0),.slice .full 5 [],.slice .full 7 []]),jm 5 41,jns 8 6 43]
def F19_r8:List AIns:=[ja 44 0 6,jl 45 44,ii 46 (.call (.f N57_) [(.t 45)]),ju 47 46,jm 48 47,jfm 49 48 3,jfa 50 48 0 6,jfl 51 48 50,⟨some 52,(some (48,false)),.lk .str (.lit (.bool false)) false (.t 49) (.t 51)⟩,jP 53 48 52,jm 54 53,jfa 55 54 1 6,jfl 56 54 55,jfg 57 54 56,⟨some 58,(some (54,false)),.bin .gtr (.t 57) (.c (.lit (.int .i64 6)))⟩,jP 59 54 58,jm 60 59,jfa 61 60 2 6,jfl 62 60 61,jfg 63 60 62,jfa 64 60 1 6,jfl 65 60 64,jfg 66 60 65,⟨some 67,(some (60,false)),.bin .neq (.t 63) (.t 66)⟩,jP 68 60 67]
def F19_r9:List AIns:=[jf_ 2]
def F19_r10:List AIns:=[jm 69 3,ja 70 0 6,jl 71 70,⟨none,none,.mu .str (.t 69) (.t 71) (.c (.lit (.bool true)))⟩]
def F19_r11:List AIns:=[ii 7 (.mv (.c (.slice .full 1 [])))]
def F19_r12:List AIns:=[ja 72 1 6,jl 73 72,jg 74 73,jc 75 0]
def F19_r13:List AIns:=[jq 76 75 74]
def F19_r14:List AIns:=[jx 77 2 73 75,jk 78 2 77,ii 9 (.alloc true [.lit (.int .i64 0),.lit (.bool false)]),jns 2 9 78]
def F19_r15:List AIns:=[ja 79 0 9,jl 80 79,ii 81 (.bin .lss (.t 80) (.c (.lit (.int .i64 0)))),jm 82 81,jfa 83 82 0 9,jfl 84 82 83,jfa 85 82 0 1,jfl 86 82 85,jfg 87 82 86,⟨some 88,(some (82,false)),.bin .gtr (.t 84) (.t 87)⟩,jP 89 82 88,jm 90 89,jfm 91 90 5,jfe 92 90 91 0,jfm 93 90 92,jta 94 93 1 9,jtl 95 93 94,jtm 96 93 95,jfa 97 96 0 9,jfl 98 96 97,⟨some 99,(some (96,false)),.bin .neq (.t 98) (.c (.lit (.int .i64 0)))⟩,jtP 100 93 96 99,jfp 101 90 93 100,jP 102 90 101]
def F19_r16:List AIns:=[jf_ 2]
def F19_r17:List AIns:=[jm 103 7,ja 104 1 9,jl 105 104,jB 106 1 105,ii 107 (.app 1 1 (.t 103) (.t 106)),jm 7 107]
def F19_r18:List AIns:=[jA 108 75 1,jm 75 108]
def F19_l2:AC:=.seq (R F19_r13 [1,3,4,5,6,7,37,38,39,73,74,75,76] [1,6]) (.seq (.cond (.t 76) (.skip) (.exit 2)) (.seq (.block 3 (.seq (R F19_r14 [1,3,4,5,6,7,9,37,38,39,73,74,75] [1,6,9]) (.seq (.seq (R F19_r15 [1,3,4,5,6,7,9,37,38,39,73,74,75,102] [1,6,9]) (.cond (.t 102) (.seq (R F19_r16 [2] []) (.ret)) (.skip))) (R F19_r17 [1,3,4,5,6,7,37,38,39,73,74,75] [1,6])))) (R F19_r18 [1,3,4,5,6,7,37,38,39,73,74,75] [1,6])))
def F19_r19:List AIns:=[ja 109 2 6,jl 110 109,jm 111 7,ii 112 (.call (.f N58_) [(.t 110),(.t 111)]),ju 113 112]
def F19_r20:List AIns:=[jf_ 2]
def F19_r21:List AIns:=[jA 114 39 1,jm 39 114]
def F19_l1:AC:=.seq (R F19_r6 [1,3,4,37,38,39,40] [1]) (.seq (.cond (.t 40) (.skip) (.exit 0)) (.seq (.block 1 (.seq (R F19_r7 [1,3,4,5,6,37,38,39] [1,6]) (.seq (.seq (R F19_r8 [1,3,4,5,6,37,38,39,68] [1,6]) (.cond (.t 68) (.seq (R F19_r9 [2] []) (.ret)) (.skip))) (.seq (R F19_r10 [1,3,4,5,6,37,38,39] [1,6]) (.seq (R F19_r11 [1,3,4,5,6,7,37,38,39] [1,6]) (.seq (.seq (R F19_r12 [1,3,4,5,6,7,37,38,39,73,74,75] [1,6]) (.block 2 (.loop F19_l2))) (.seq (R F19_r19 [1,3,4,37,38,39,113] [1]) (.cond (.t 113) (.seq (R F19_r20 [2] []) (.ret)) (.skip))))))))) (R F19_r21 [1,3,4,37,38,39] [1])))
def F19_r22:List AIns:=[ja 115 1 1,jl 116 115,jg 117 116,jc 118 0]
def F19_r23:List AIns:=[jq 119 118 117]
def F19_r24:List AIns:=[jx 120 8 116 118,jk 121 8 120,ii 11 (.alloc true [.lit (.string ⟨#[]⟩),.slice .full 2 [],.slice .full 1 [],.lit (.int .i64 0),.lit (.int .i64 0),.lit (.int .i64 0),.slice .full 5 [],.slice .full 7 []]),jns 8 11 121]
def F19_r25:List AIns:=[ii 122 (.call (.f N59_) [(.c (.slice .full 1 [])),(.c (.slice .full 1 []))]),ii 12 (.alloc true [.lit (.map none),.lit (.map none)]),jns 2 12 122]
def F19_r26:List AIns:=[jk 123 2 12,ja 124 2 11,jl 125 124,ja 126 1 11,jl 127 126,ii 128 (.call (.f N61_) [(.t 127)]),ii 129 (.call (.f N60_) [(.t 123),(.t 125),(.t 128)])]
def F19_r27:List AIns:=[ja 130 3 11,ja 131 0 130,jl 132 131,ii 133 (.call (.f N62_) [(.t 132)]),ii 134 (.bin .neq (.t 133) (.c (.lit (.int .i64 2)))),jm 135 134,jfm 136 135 4,jfk 137 135 2 12,jfa 138 135 3 11,jfk 139 135 5 138,⟨some 140,(some (135,false)),.call (.f N63_) [(.t 136),(.t 137),(.t 139),(.c (.lit (.int .i64 1)))]⟩,jfu 141 135 140,jP 142 135 141]
def F19_r28:List AIns:=[jf_ 2]
def F19_r29:List AIns:=[jA 143 118 1,jm 118 143]
def F19_l3:AC:=.seq (R F19_r23 [4,116,117,118,119] []) (.seq (.cond (.t 119) (.skip) (.exit 4)) (.seq (.block 5 (.seq (R F19_r24 [4,11,116,117,118] [11]) (.seq (R F19_r25 [4,11,12,116,117,118] [11,12]) (.seq (R F19_r26 [4,11,12,116,117,118] [11,12]) (.seq (R F19_r27 [4,116,117,118,142] []) (.cond (.t 142) (.seq (R F19_r28 [2] []) (.ret)) (.skip))))))) (R F19_r29 [4,116,117,118] [])))
def F19_r30:List AIns:=[ii 2 (.mv (.c (.lit (.bool true))))]
def F19_:AFun:=⟨1,.seq (R F19_r0 [1] [1]) (.seq (.seq (R F19_r1 [1,28] [1]) (.cond (.t 28) (.seq (R F19_r2 [2] []) (.ret)) (.skip))) (.seq (R F19_r3 [1,3] [1]) (.seq (R F19_r4 [1,3,4] [1]) (.seq (.seq (R F19_r5 [1,3,4,37,38,39] [1]) (.block 0 (.loop F19_l1))) (.seq (.seq (R F19_r22 [4,116,117,118] []) (.block 4 (.loop F19_l3))) (.seq (R F19_r30 [2] []) (.ret))))))),[.t 2]⟩
def F20_r0:List AIns:=[jb 1 0,jf_ 2]
def F20_r1:List AIns:=[ja 9 0 1,jl 10 9,jg 11 10,jc 12 0]
def F20_r2:List AIns:=[jq 13 12 11]
def F20_r3:List AIns:=[jx 14 3 10 12,jk 15 3 14,ii 4 (.alloc true [.lit (.string ⟨#[]⟩),.lit (.bool false),.slice .full 2 []]),jns 3 4 15]
def F20_r4:List AIns:=[ja 16 2 4,jl 17 16,jg 18 17,jc 19 0]
def F20_r5:List AIns:=[jq 20 19 18]
def F20_r6:List AIns:=[jx 21 2 17 19,jk 22 2 21,ii 6 (.alloc true [.lit (.string ⟨#[]⟩),.slice .full 2 []]),jns 2 6 22]
def F20_r7:List AIns:=[ja 23 1 6,jl 24 23,ii 25 (.call (.f N64_) [(.t 24)]),ju 26 25]
def F20_r8:List AIns:=[jf_ 2]
def F20_r9:List AIns:=[jA 27 19 1,jm 19 27]
def F20_l2:AC:=.seq (R F20_r5 [1,10,11,12,17,18,19,20] [1]) (.seq (.cond (.t 20) (.skip) (.exit 2)) (.seq (.block 3 (.seq (R F20_r6 [1,6,10,11,12,17,18,19] [1,6]) (.seq (R F20_r7 [1,10,11,12,17,18,19,26] [1]) (.cond (.t 26) (.seq (R F20_r8 [2] []) (.ret)) (.skip))))) (R F20_r9 [1,10,11,12,17,18,19] [1])))
def F20_r10:List AIns:=[jA 28 12 1,jm 12 28]
def F20_l1:AC:=.seq (R F20_r2 [1,10,11,12,13] [1]) (.seq (.cond (.t 13) (.skip) (.exit 0)) (.seq (.block 1 (.seq (R F20_r3 [1,4,10,11,12] [1,4]) (.seq (R F20_r4 [1,10,11,12,17,18,19] [1]) (.block 2 (.loop F20_l2))))) (R F20_r10 [1,10,11,12] [1])))
def F20_r11:List AIns:=[ja 29 1 1,jl 30 29,jg 31 30,jc 32 0]
def F20_r12:List AIns:=[jq 33 32 31]
def F20_r13:List AIns:=[jx 34 8 30 32,jk 35 8 34,ii 8 (.alloc true [.lit (.string ⟨#[]⟩),.slice .full 2 [],.slice .full 1 [],.lit (.int .i64 0),.lit (.int .i64 0),.lit (.int .i64 0),.slice .full 5 [],.slice .full 7 []]),jns 8 8 35]
def F20_r14:List AIns:=[ja 36 1 8,jl 37 36,ii 38 (.call (.f N64_) [(.t 37)]),ju 39 38,jm 40 39,jfa 41 40 3 8,jfk 42 40 5 41,⟨some 43,(some (40,false)),.call (.f N65_) [(.t 42)]⟩,jfu 44 40 43,jP 45 40 44]
def F20_r15:List AIns:=[jf_ 2]
def F20_r16:List AIns:=[jA 46 32 1,jm 32 46]
def F20_l3:AC:=.seq (R F20_r12 [1,30,31,32,33] [1]) (.seq (.cond (.t 33) (.skip) (.exit 4)) (.seq (.block 5 (.seq (R F20_r13 [1,8,30,31,32] [1,8]) (.seq (R F20_r14 [1,30,31,32,45] [1]) (.cond (.t 45) (.seq (R F20_r15 [2] []) (.ret)) (.skip))))) (R F20_r16 [1,30,31,32] [1])))
def F20_r17:List AIns:=[ja 47 1 1,jl 48 47,ii 49 (.ia 8 (.t 48) (.c (.lit (.int .i64 0)))),ja 50 1 49,jl 51 50,jg 52 51,je 53 52 0,jm 2 53]
def F20_:AFun:=⟨1,.seq (R F20_r0 [1] [1]) (.seq (.seq (R F20_r1 [1,10,11,12] [1]) (.block 0 (.loop F20_l1))) (.seq (.seq (R F20_r11 [1,30,31,32] [1]) (.block 4 (.loop F20_l3))) (.seq (R F20_r17 [2] []) (.ret)))),[.t 2]⟩
def F21_r0:List AIns:=[ii 4 (.mv (.c (.slice .full 3 [])))]
def F21_r1:List AIns:=[ii 5 (.mv (.c (.slice .full 3 [])))]
def F21_r2:List AIns:=[jm 8 0,jg 9 8,jc 10 0]
def F21_r3:List AIns:=[jq 11 10 9]
def F21_r4:List AIns:=[jx 12 3 8 10,jk 13 3 12,ii 7 (.alloc true [.lit (.string ⟨#[]⟩),.lit (.bool false),.slice .full 2 []]),jns 3 7 13]
def F21_r5:List AIns:=[jm 14 5,jm 15 1,jk 16 3 7,ii 17 (.call (.t 15) [(.t 16)]),jB 18 3 17,ii 19 (.app 3 48 (.t 14) (.t 18)),jm 5 19]
def F21_r6:List AIns:=[jA 20 10 1,jm 10 20]
def F21_l1:AC:=.seq (R F21_r3 [1,5,8,9,10,11] []) (.seq (.cond (.t 11) (.skip) (.exit 0)) (.seq (.block 1 (.seq (R F21_r4 [1,5,7,8,9,10] [7]) (R F21_r5 [1,5,8,9,10] []))) (R F21_r6 [1,5,8,9,10] [])))
def F21_r7:List AIns:=[jm 21 5,jm 4 21]
def F21_:AFun:=⟨2,.seq (R F21_r0 [0,1] []) (.seq (R F21_r1 [0,1,5] []) (.seq (.seq (R F21_r2 [1,5,8,9,10] []) (.block 0 (.loop F21_l1))) (.seq (R F21_r7 [4] []) (.ret)))),[.t 4]⟩
def F22_r0:List AIns:=[jb 1 0,ii 2 (.alloc true [.lit (.string ⟨#[]⟩),.lit (.bool false),.slice .full 2 []])]
def F22_r1:List AIns:=[ja 3 0 1,jl 4 3,ja 5 1 1,jl 6 5,ju 7 6,ja 8 2 1,jl 9 8,ii 10 (.call (.f N23_) [(.t 9),(.f N24_)]),ii 11 (.build [.lit (.string ⟨#[]⟩),.lit (.bool false),.slice .full 2 []] [(0,1,(.t 4)),(1,1,(.t 7)),(2,1,(.t 10))]),jns 3 2 11]
def F22_:AFun:=⟨1,.seq (R F22_r0 [1,2] [1,2]) (.seq (R F22_r1 [2] [2]) (.ret)),[.cell (some 3) 2]⟩
def F23_r0:List AIns:=[ii 4 (.mv (.c (.slice .full 2 [])))]
def F23_r1:List AIns:=[ii 5 (.mv (.c (.slice .full 2 [])))]
def F23_r2:List AIns:=[jm 8 0,jg 9 8,jc 10 0]
def F23_r3:List AIns:=[jq 11 10 9]
def F23_r4:List AIns:=[jx 12 2 8 10,jk 13 2 12,ii 7 (.alloc true [.lit (.string ⟨#[]⟩),.slice .full 2 []]),jns 2 7 13]
def F23_r5:List AIns:=[jm 14 5,jm 15 1,jk 16 2 7,ii 17 (.call (.t 15) [(.t 16)]),jB 18 2 17,ii 19 (.app 2 40 (.t 14) (.t 18)),jm 5 19]
def F23_r6:List AIns:=[jA 20 10 1,jm 10 20]
def F23_l1:AC:=.seq (R F23_r3 [1,5,8,9,10,11] []) (.seq (.cond (.t 11) (.skip) (.exit 0)) (.seq (.block 1 (.seq (R F23_r4 [1,5,7,8,9,10] [7]) (R F23_r5 [1,5,8,9,10] []))) (R F23_r6 [1,5,8,9,10] [])))
def F23_r7:List AIns:=[jm 21 5,jm 4 21]
def F23_:AFun:=⟨2,.seq (R F23_r0 [0,1] []) (.seq (R F23_r1 [0,1,5] []) (.seq (.seq (R F23_r2 [1,5,8,9,10] []) (.block 0 (.loop F23_l1))) (.seq (R F23_r7 [4] []) (.ret)))),[.t 4]⟩
def F24_r0:List AIns:=[jb 1 0,ii 2 (.alloc true [.lit (.string ⟨#[]⟩),.slice .full 2 []])]
def F24_r1:List AIns:=[ja 3 0 1,jl 4 3,ja 5 1 1,jl 6 5,ii 7 (.call (.f N25_) [(.t 6),(.f N26_)]),ii 8 (.build [.lit (.string ⟨#[]⟩),.slice .full 2 []] [(0,1,(.t 4)),(1,1,(.t 7))]),jns 2 2 8]
def F24_:AFun:=⟨1,.seq (R F24_r0 [1,2] [1,2]) (.seq (R F24_r1 [2] [2]) (.ret)),[.cell (some 2) 2]⟩
def F25_r0:List AIns:=[ii 4 (.mv (.c (.slice .full 2 [])))]
def F25_r1:List AIns:=[ii 5 (.mv (.c (.slice .full 2 [])))]
def F25_r2:List AIns:=[jm 8 0,jg 9 8,jc 10 0]
def F25_r3:List AIns:=[jq 11 10 9]
def F25_r4:List AIns:=[jx 12 2 8 10,jk 13 2 12,ii 7 (.alloc true [.lit (.int .i64 0),.lit (.bool false)]),jns 2 7 13]
def F25_r5:List AIns:=[jm 14 5,jm 15 1,jk 16 2 7,ii 17 (.call (.t 15) [(.t 16)]),jB 18 2 17,ii 19 (.app 2 16 (.t 14) (.t 18)),jm 5 19]
def F25_r6:List AIns:=[jA 20 10 1,jm 10 20]
def F25_l1:AC:=.seq (R F25_r3 [1,5,8,9,10,11] []) (.seq (.cond (.t 11) (.skip) (.exit 0)) (.seq (.block 1 (.seq (R F25_r4 [1,5,7,8,9,10] [7]) (R F25_r5 [1,5,8,9,10] []))) (R F25_r6 [1,5,8,9,10] [])))
def F25_r7:List AIns:=[jm 21 5,jm 4 21]
def F25_:AFun:=⟨2,.seq (R F25_r0 [0,1] []) (.seq (R F25_r1 [0,1,5] []) (.seq (.seq (R F25_r2 [1,5,8,9,10] []) (.block 0 (.loop F25_l1))) (.seq (R F25_r7 [4] []) (.ret)))),[.t 4]⟩
def F26_r0:List AIns:=[jb 1 0,ii 2 (.alloc true [.lit (.int .i64 0),.lit (.bool false)])]
def F26_r1:List AIns:=[ja 3 0 1,jl 4 3,ja 5 1 1,jl 6 5,ju 7 6,ii 8 (.build [.lit (.int .i64 0),.lit (.bool false)] [(0,1,(.t 4)),(1,1,(.t 7))]),jns 2 2 8]
def F26_:AFun:=⟨1,.seq (R F26_r0 [1,2] [1,2]) (.seq (R F26_r1 [2] [2]) (.ret)),[.cell (some 2) 2]⟩
def F27_r0:List AIns:=[ii 4 (.mv (.c (.slice .full 8 [])))]
def F27_r1:List AIns:=[ii 5 (.mv (.c (.slice .full 8 [])))]
def F27_r2:List AIns:=[jm 8 0,jg 9 8,jc 10 0]
def F27_r3:List AIns:=[jq 11 10 9]
def F27_r4:List AIns:=[jx 12 8 8 10,jk 13 8 12,ii 7 (.alloc true [.lit (.string ⟨#[]⟩),.slice .full 2 [],.slice .full 1 [],.lit (.int .i64 0),.lit (.int .i64 0),.lit (.int .i64 0),.slice .full 5 [],.slice .full 7 []]),jns 8 7 13]
def F27_r5:List AIns:=[jm 14 5,jm 15 1,jk 16 8 7,ii 17 (.call (.t 15) [(.t 16)]),jB 18 8 17,ii 19 (.app 8 136 (.t 14) (.t 18)),jm 5 19]
def F27_r6:List AIns:=[jA 20 10 1,jm 10 20]
def F27_l1:AC:=.seq (R F27_r3 [1,5,8,9,10,11] []) (.seq (.cond (.t 11) (.skip) (.exit 0)) (.seq (.block 1 (.seq (R F27_r4 [1,5,7,8,9,10] [7]) (R F27_r5 [1,5,8,9,10] []))) (R F27_r6 [1,5,8,9,10] [])))
def F27_r7:List AIns:=[jm 21 5,jm 4 21]
def F27_:AFun:=⟨2,.seq (R F27_r0 [0,1] []) (.seq (R F27_r1 [0,1,5] []) (.seq (.seq (R F27_r2 [1,5,8,9,10] []) (.block 0 (.loop F27_l1))) (.seq (R F27_r7 [4] []) (.ret)))),[.t 4]⟩
def F28_r0:List AIns:=[jb 1 0,ii 2 (.alloc true [.lit (.string ⟨#[]⟩),.slice .full 2 [],.slice .full 1 [],.lit (.int .i64 0),.lit (.int .i64 0),.lit (.int .i64 0),.slice .full 5 [],.slice .full 7 []])]
def F28_r1:List AIns:=[ja 3 0 1,jl 4 3,ja 5 1 1,jl 6 5,ii 7 (.call (.f N25_) [(.t 6),(.f N26_)]),ja 8 2 1,jl 9 8,ii 10 (.call (.f N29_) [(.t 9)]),ja 11 3 1,jk 12 5 11,ii 13 (.call (.f N30_) [(.t 12)]),ii 14 (.build [.lit (.string ⟨#[]⟩),.slice .full 2 [],.slice .full 1 [],.lit (.int .i64 0),.lit (.int .i64 0),.lit (.int .i64 0),.slice .full 5 [],.slice .full 7 []] [(0,1,(.t 4)),(1,1,(.t 7)),(2,1,(.t 10)),(3,5,(.t 13))]),jns 8 2 14]
def F28_:AFun:=⟨1,.seq (R F28_r0 [1,2] [1,2]) (.seq (R F28_r1 [2] [2]) (.ret)),[.cell (some 8) 2]⟩
def F30_r0:List AIns:=[jb 1 0,ii 2 (.alloc true [.lit (.int .i64 0),.lit (.int .i64 0),.lit (.int .i64 0),.slice .full 5 [],.slice .full 7 []])]
def F30_r1:List AIns:=[ja 4 0 1,jl 5 4,ii 6 (.wop (.gad 0 1 [.lit (.int .i64 5),.lit (.int .i64 1),.lit (.int .i64 6),.lit (.int .i64 7),.lit (.int .i64 8),.lit (.int .i64 0),.lit (.int .i64 2),.lit (.int .i64 3),.lit (.int .i64 4),.lit (.int .i64 9),.lit (.int .i64 10),.lit (.int .i64 11),.lit (.int .i64 12),.lit (.int .i64 13),.lit (.int .i64 14)]) [(.t 5)]),jl 7 6,ja 8 1 1,jl 9 8,ja 10 2 1,jl 11 10,ja 12 3 1,jl 13 12,ii 14 (.callq [] (.f N66_) [(.t 13),(.f N30_)]),ii 15 (.build [.lit (.int .i64 0),.lit (.int .i64 0),.lit (.int .i64 0),.slice .full 5 [],.slice .full 7 []] [(0,1,(.t 7)),(1,1,(.t 9)),(2,1,(.t 11)),(3,1,(.t 14))]),ii 3 (.alloc true [.lit (.int .i64 0),.lit (.int .i64 0),.lit (.int .i64 0),.slice .full 5 [],.slice .full 7 []]),jns 5 3 15]
def F30_r2:List AIns:=[ja 16 0 1,jl 17 16,je 18 17 9]
def F30_r3:List AIns:=[ja 19 3 3,jl 20 19,ii 21 (.call (.f N67_) [(.t 20)])]
def F30_r4:List AIns:=[ja 22 4 1,jl 23 22,ii 24 (.call (.f N68_) [(.t 23),(.f N69_)]),ja 25 4 3,jns 1 25 24]
def F30_r5:List AIns:=[jk 26 5 3,jns 5 2 26]
def F30_:AFun:=⟨1,.seq (R F30_r0 [1,2] [1,2]) (.seq (.reg F30_r1 [3] [1,2,3] [1,2,3]) (.seq (.seq (R F30_r2 [1,2,3,18] [1,2,3]) (.cond (.t 18) (R F30_r3 [1,2,3] [1,2,3]) (.skip))) (.seq (R F30_r4 [2,3] [2,3]) (.seq (R F30_r5 [2] [2]) (.retz 1 2))))),[.cell (some 5) 2]⟩
def F38_r0:List AIns:=[jf_ 4]
def F38_r1:List AIns:=[jm 8 0,jg 9 8,jm 10 1,jg 11 10,ii 12 (.bin .neq (.t 9) (.t 11))]
def F38_r2:List AIns:=[jf_ 4]
def F38_r3:List AIns:=[jm 13 0,jg 14 13,jc 15 0]
def F38_r4:List AIns:=[jq 16 15 14]
def F38_r5:List AIns:=[jm 17 15,jm 5 17]
def F38_r6:List AIns:=[jm 18 0,jm 19 5,jx 20 3 18 19,ja 21 0 20,jl 22 21,jm 23 1,jm 24 5,jx 25 3 23 24,ja 26 0 25,jl 27 26,ii 28 (.bin .neq (.t 22) (.t 27)),jm 29 28,jfm 30 29 0,jfm 31 29 5,jfx 32 29 3 30 31,jfa 33 29 1 32,jfl 34 29 33,jfm 35 29 1,jfm 36 29 5,jfx 37 29 3 35 36,jfa 38 29 1 37,jfl 39 29 38,⟨some 40,(some (29,false)),.beq true (.t 34) (.t 39)⟩,jP 41 29 40,jm 42 41,jfm 43 42 0,jfm 44 42 5,jfx 45 42 3 43 44,jfa 46 42 2 45,jfl 47 42 46,jfg 48 42 47,jfm 49 42 1,jfm 50 42 5,jfx 51 42 3 49 50,jfa 52 42 2 51,jfl 53 42 52,jfg 54 42 53,⟨some 55,(some (42,false)),.bin .neq (.t 48) (.t 54)⟩,jP 56 42 55]
def F38_r7:List AIns:=[jf_ 4]
def F38_r8:List AIns:=[jm 57 0,jm 58 5,jx 59 3 57 58,ja 60 2 59,jl 61 60,jg 62 61,jc 63 0]
def F38_r9:List AIns:=[jq 64 63 62]
def F38_r10:List AIns:=[jm 65 63,jx 66 2 61 63,jk 67 2 66,ii 7 (.alloc true [.lit (.string ⟨#[]⟩),.slice .full 2 []]),jm 6 65,jns 2 7 67]
def F38_r11:List AIns:=[ja 68 0 7,jl 69 68,jm 70 1,jm 71 5,jx 72 3 70 71,ja 73 2 72,jl 74 73,jm 75 6,jx 76 2 74 75,ja 77 0 76,jl 78 77,ii 79 (.bin .neq (.t 69) (.t 78)),jm 80 79,jfa 81 80 1 7,jfl 82 80 81,jfm 83 80 1,jfm 84 80 5,jfx 85 80 3 83 84,jfa 86 80 2 85,jfl 87 80 86,jfm 88 80 6,jfx 89 80 2 87 88,jfa 90 80 1 89,jfl 91 80 90,⟨some 92,(some (80,false)),.call (.f N39_) [(.t 82),(.t 91)]⟩,jfu 93 80 92,jP 94 80 93]
def F38_r12:List AIns:=[jf_ 4]
def F38_r13:List AIns:=[jA 95 63 1,jm 63 95]
def F38_l2:AC:=.seq (R F38_r9 [0,1,5,14,15,61,62,63,64] []) (.seq (.cond (.t 64) (.skip) (.exit 2)) (.seq (.block 3 (.seq (R F38_r10 [0,1,5,6,7,14,15,61,62,63] [7]) (.seq (R F38_r11 [0,1,5,14,15,61,62,63,94] []) (.cond (.t 94) (.seq (R F38_r12 [4] []) (.ret)) (.skip))))) (R F38_r13 [0,1,5,14,15,61,62,63] [])))
def F38_r14:List AIns:=[jA 96 15 1,jm 15 96]
def F38_l1:AC:=.seq (R F38_r4 [0,1,14,15,16] []) (.seq (.cond (.t 16) (.skip) (.exit 0)) (.seq (.block 1 (.seq (R F38_r5 [0,1,5,14,15] []) (.seq (.seq (R F38_r6 [0,1,5,14,15,56] []) (.cond (.t 56) (.seq (R F38_r7 [4] []) (.ret)) (.skip))) (.seq (R F38_r8 [0,1,5,14,15,61,62,63] []) (.block 2 (.loop F38_l2)))))) (R F38_r14 [0,1,14,15] [])))
def F38_r15:List AIns:=[ii 4 (.mv (.c (.lit (.bool true))))]
def F38_:AFun:=⟨2,.seq (R F38_r0 [0,1] []) (.seq (.seq (R F38_r1 [0,1,12] []) (.cond (.t 12) (.seq (R F38_r2 [4] []) (.ret)) (.skip))) (.seq (.seq (R F38_r3 [0,1,14,15] []) (.block 0 (.loop F38_l1))) (.seq (R F38_r15 [4] []) (.ret)))),[.t 4]⟩
def F39_r0:List AIns:=[jf_ 4]
def F39_r1:List AIns:=[jm 6 0,jg 7 6,jm 8 1,jg 9 8,ii 10 (.bin .neq (.t 7) (.t 9))]
def F39_r2:List AIns:=[jf_ 4]
def F39_r3:List AIns:=[jm 11 0,jg 12 11,jc 13 0]
def F39_r4:List AIns:=[jq 14 13 12]
def F39_r5:List AIns:=[jm 15 13,jm 5 15]
def F39_r6:List AIns:=[jm 16 0,jm 17 5,jx 18 2 16 17,jk 19 2 18,jm 20 1,jm 21 5,jx 22 2 20 21,jk 23 2 22,ii 24 (.aeq true [.i,.b] (.t 19) (.t 23))]
def F39_r7:List AIns:=[jf_ 4]
def F39_r8:List AIns:=[jA 25 13 1,jm 13 25]
def F39_l1:AC:=.seq (R F39_r4 [0,1,12,13,14] []) (.seq (.cond (.t 14) (.skip) (.exit 0)) (.seq (.block 1 (.seq (R F39_r5 [0,1,5,12,13] []) (.seq (R F39_r6 [0,1,12,13,24] []) (.cond (.t 24) (.seq (R F39_r7 [4] []) (.ret)) (.skip))))) (R F39_r8 [0,1,12,13] [])))
def F39_r9:List AIns:=[ii 4 (.mv (.c (.lit (.bool true))))]
def F39_:AFun:=⟨2,.seq (R F39_r0 [0,1] []) (.seq (.seq (R F39_r1 [0,1,10] []) (.cond (.t 10) (.seq (R F39_r2 [4] []) (.ret)) (.skip))) (.seq (.seq (R F39_r3 [0,1,12,13] []) (.block 0 (.loop F39_l1))) (.seq (R F39_r9 [4] []) (.ret)))),[.t 4]⟩
def F40_r0:List AIns:=[jf_ 4]
def F40_r1:List AIns:=[jm 6 0,jg 7 6,jm 8 1,jg 9 8,ii 10 (.bin .neq (.t 7) (.t 9))]
def F40_r2:List AIns:=[jf_ 4]
def F40_r3:List AIns:=[jm 11 0,jg 12 11,jc 13 0]
def F40_r4:List AIns:=[jq 14 13 12]
def F40_r5:List AIns:=[jm 15 13,jm 5 15]
def F40_r6:List AIns:=[jm 16 0,jm 17 5,jx 18 1 16 17,jl 19 18,jm 20 1,jm 21 5,jx 22 1 20 21,jl 23 22,ii 24 (.bin .neq (.t 19) (.t 23))]
def F40_r7:List AIns:=[jf_ 4]
def F40_r8:List AIns:=[jA 25 13 1,jm 13 25]
def F40_l1:AC:=.seq (R F40_r4 [0,1,12,13,14] []) (.seq (.cond (.t 14) (.skip) (.exit 0)) (.seq (.block 1 (.seq (R F40_r5 [0,1,5,12,13] []) (.seq (R F40_r6 [0,1,12,13,24] []) (.cond (.t 24) (.seq (R F40_r7 [4] []) (.ret)) (.skip))))) (R F40_r8 [0,1,12,13] [])))
def F40_r9:List AIns:=[ii 4 (.mv (.c (.lit (.bool true))))]
def F40_:AFun:=⟨2,.seq (R F40_r0 [0,1] []) (.seq (.seq (R F40_r1 [0,1,10] []) (.cond (.t 10) (.seq (R F40_r2 [4] []) (.ret)) (.skip))) (.seq (.seq (R F40_r3 [0,1,12,13] []) (.block 0 (.loop F40_l1))) (.seq (R F40_r9 [4] []) (.ret)))),[.t 4]⟩
def F41_r0:List AIns:=[jb 2 0,jb 3 1,jf_ 4]
def F41_r1:List AIns:=[ja 9 0 2,jl 10 9,ja 11 0 3,jl 12 11,ii 13 (.bin .neq (.t 10) (.t 12)),jm 14 13,jfa 15 14 1 2,jfl 16 14 15,jfa 17 14 1 3,jfl 18 14 17,⟨some 19,(some (14,false)),.bin .neq (.t 16) (.t 18)⟩,jP 20 14 19,jm 21 20,jfa 22 21 2 2,jfl 23 21 22,jfa 24 21 2 3,jfl 25 21 24,⟨some 26,(some (21,false)),.bin .neq (.t 23) (.t 25)⟩,jP 27 21 26,jm 28 27,jfa 29 28 3 2,jfl 30 28 29,jfg 31 28 30,jfa 32 28 3 3,jfl 33 28 32,jfg 34 28 33,⟨some 35,(some (28,false)),.bin .neq (.t 31) (.t 34)⟩,jP 36 28 35,jm 37 36,jfa 38 37 4 2,jfl 39 37 38,jfg 40 37 39,jfa 41 37 4 3,jfl 42 37 41,jfg 43 37 42,⟨some 44,(some (37,false)),.bin .neq (.t 40) (.t 43)⟩,jP 45 37 44]
def F41_r2:List AIns:=[jf_ 4]
def F41_r3:List AIns:=[ja 46 3 2,jl 47 46,jg 48 47,jc 49 0]
def F41_r4:List AIns:=[jq 50 49 48]
def F41_r5:List AIns:=[jm 51 49,jm 5 51]
def F41_r6:List AIns:=[ja 52 3 2,jl 53 52,jm 54 5,jx 55 5 53 54,jk 56 5 55,ja 57 3 3,jl 58 57,jm 59 5,jx 60 5 58 59,jk 61 5 60,ii 62 (.call (.f N41_) [(.t 56),(.t 61)]),ju 63 62]
def F41_r7:List AIns:=[jf_ 4]
def F41_r8:List AIns:=[jA 64 49 1,jm 49 64]
def F41_l1:AC:=.seq (R F41_r4 [2,3,48,49,50] [2,3]) (.seq (.cond (.t 50) (.skip) (.exit 0)) (.seq (.block 1 (.seq (R F41_r5 [2,3,5,48,49] [2,3]) (.seq (R F41_r6 [2,3,48,49,63] [2,3]) (.cond (.t 63) (.seq (R F41_r7 [4] []) (.ret)) (.skip))))) (R F41_r8 [2,3,48,49] [2,3])))
def F41_r9:List AIns:=[ja 65 4 2,jl 66 65,jg 67 66,jc 68 0]
def F41_r10:List AIns:=[jq 69 68 67]
def F41_r11:List AIns:=[jm 70 68,jx 71 7 66 68,jk 72 7 71,ii 7 (.alloc true [.slice .full 1 [],.slice .full 1 [],.lit (.int .i64 0),.lit (.int .i64 0),.lit (.int .i64 0),.slice .full 5 [],.slice .full 7 []]),jm 6 70,jns 7 7 72]
def F41_r12:List AIns:=[ja 73 4 3,jl 74 73,jm 75 6,jx 76 7 74 75,jk 77 7 76,ii 8 (.alloc true [.slice .full 1 [],.slice .full 1 [],.lit (.int .i64 0),.lit (.int .i64 0),.lit (.int .i64 0),.slice .full 5 [],.slice .full 7 []]),jns 7 8 77]
def F41_r13:List AIns:=[ja 78 0 7,jl 79 78,ja 80 0 8,jl 81 80,ii 82 (.call (.f N40_) [(.t 79),(.t 81)]),ju 83 82,jm 84 83,jfa 85 84 1 7,jfl 86 84 85,jfa 87 84 1 8,jfl 88 84 87,⟨some 89,(some (84,false)),.call (.f N81_) [(.t 86),(.t 88)]⟩,jfu 90 84 89,jP 91 84 90,jm 92 91,jfa 93 92 2 7,jfk 94 92 5 93,jfa 95 92 2 8,jfk 96 92 5 95,⟨some 97,(some (92,false)),.call (.f N41_) [(.t 94),(.t 96)]⟩,jfu 98 92 97,jP 99 92 98]
def F41_r14:List AIns:=[jf_ 4]
def F41_r15:List AIns:=[jA 100 68 1,jm 68 100]
def F41_l2:AC:=.seq (R F41_r10 [3,66,67,68,69] [3]) (.seq (.cond (.t 69) (.skip) (.exit 2)) (.seq (.block 3 (.seq (R F41_r11 [3,6,7,66,67,68] [3,7]) (.seq (R F41_r12 [3,7,8,66,67,68] [3,7,8]) (.seq (R F41_r13 [3,66,67,68,99] [3]) (.cond (.t 99) (.seq (R F41_r14 [4] []) (.ret)) (.skip)))))) (R F41_r15 [3,66,67,68] [3])))
def F41_r16:List AIns:=[ii 4 (.mv (.c (.lit (.bool true))))]
def F41_:AFun:=⟨2,.seq (R F41_r0 [2,3] [2,3]) (.seq (.seq (R F41_r1 [2,3,45] [2,3]) (.cond (.t 45) (.seq (R F41_r2 [4] []) (.ret)) (.skip))) (.seq (.seq (R F41_r3 [2,3,48,49] [2,3]) (.block 0 (.loop F41_l1))) (.seq (.seq (R F41_r9 [3,66,67,68] [3]) (.block 2 (.loop F41_l2))) (.seq (R F41_r16 [4] []) (.ret))))),[.t 4]⟩
def F49_r0:List AIns:=[jb 1 0,jf_ 2]
def F49_r1:List AIns:=[ja 8 1 1,jl 9 8,jg 10 9,jc 11 0]
def F49_r2:List AIns:=[jq 12 11 10]
def F49_r3:List AIns:=[jx 13 8 9 11,jk 14 8 13,ii 4 (.alloc true [.lit (.string ⟨#[]⟩),.slice .full 2 [],.slice .full 1 [],.lit (.int .i64 0),.lit (.int .i64 0),.lit (.int .i64 0),.slice .full 5 [],.slice .full 7 []]),jns 8 4 14]
def F49_r4:List AIns:=[jk 15 2 1,ii 16 (.call (.f N84_) [(.t 15)]),jm 5 16]
def F49_r5:List AIns:=[jm 17 5,ja 18 2 4,jl 19 18,ja 20 1 4,jl 21 20,ii 22 (.call (.f N85_) [(.t 17),(.t 19),(.t 21)])]
def F49_r6:List AIns:=[jm 24 5,ja 25 3 4,jk 26 5 25,ii 27 (.call (.f N86_) [(.t 24),(.t 26)]),jm 23 27,jz 28 23 0,jz 29 23 1,jm 6 28,jm 7 29]
def F49_r7:List AIns:=[jm 30 7,ju 31 30]
def F49_r8:List AIns:=[jf_ 2]
def F49_r9:List AIns:=[jA 32 11 1,jm 11 32]
def F49_l1:AC:=.seq (R F49_r2 [1,9,10,11,12] [1]) (.seq (.cond (.t 12) (.skip) (.exit 0)) (.seq (.block 1 (.seq (R F49_r3 [1,4,9,10,11] [1,4]) (.seq (R F49_r4 [1,4,5,9,10,11] [1,4]) (.seq (R F49_r5 [1,4,5,9,10,11] [1,4]) (.seq (R F49_r6 [1,7,9,10,11] [1]) (.seq (R F49_r7 [1,9,10,11,31] [1]) (.cond (.t 31) (.seq (R F49_r8 [2] []) (.ret)) (.skip)))))))) (R F49_r9 [1,9,10,11] [1])))
def F49_r10:List AIns:=[ii 2 (.mv (.c (.lit (.bool true))))]
def F49_:AFun:=⟨1,.seq (R F49_r0 [1] [1]) (.seq (.seq (R F49_r1 [1,9,10,11] [1]) (.block 0 (.loop F49_l1))) (.seq (R F49_r10 [2] []) (.ret))),[.t 2]⟩
def F50_r0:List AIns:=[jb 2 0,jc 4 0]
def F50_r1:List AIns:=[jm 7 1,ii 8 (.bin .sub (.t 7) (.c (.lit (.int .i64 1)))),jm 1 8]
def F50_r2:List AIns:=[jc 5 0]
def F50_r3:List AIns:=[jm 9 5,ja 10 3 2,jl 11 10,jg 12 11,jq 13 9 12,jm 14 13,jtm 15 14 1,⟨some 16,(some (14,true)),.bin .gtr (.t 15) (.c (.lit (.int .i64 0)))⟩,jp 17 14 16]
def F50_r5:List AIns:=[ja 20 3 2,jl 21 20,jm 22 5,jx 23 5 21 22,jk 24 5 23,jm 25 1,ii 26 (.call (.f N50_) [(.t 24),(.t 25)]),jm 1 26]
def F50_r4:List AIns:=[jm 18 5,jA 19 18 1,jm 5 19]
def F50_l1:AC:=.seq (.seq (R F50_r3 [1,2,5,17] [2]) (.cond (.t 17) (.skip) (.exit 0))) (.seq (.block 1 (R F50_r5 [1,2,5] [2])) (R F50_r4 [1,2,5] [2]))
def F50_r6:List AIns:=[jc 6 0]
def F50_r7:List AIns:=[jm 27 6,ja 28 4 2,jl 29 28,jg 30 29,jq 31 27 30,jm 32 31,jtm 33 32 1,⟨some 34,(some (32,true)),.bin .gtr (.t 33) (.c (.lit (.int .i64 0)))⟩,jp 35 32 34]
def F50_r9:List AIns:=[ja 38 4 2,jl 39 38,jm 40 6,jx 41 7 39 40,ja 42 2 41,jk 43 5 42,jm 44 1,ii 45 (.call (.f N50_) [(.t 43),(.t 44)]),jm 1 45]
def F50_r8:List AIns:=[jm 36 6,jA 37 36 1,jm 6 37]
def F50_l2:AC:=.seq (.seq (R F50_r7 [1,2,6,35] [2]) (.cond (.t 35) (.skip) (.exit 2))) (.seq (.block 3 (R F50_r9 [1,2,6] [2])) (R F50_r8 [1,2,6] [2]))
def F50_r10:List AIns:=[jm 46 1,ii 47 (.mmx true (.t 46) (.c (.lit (.int .i64 0)))),jm 4 47]
def F50_:AFun:=⟨2,.seq (R F50_r0 [1,2] [2]) (.seq (R F50_r1 [1,2] [2]) (.seq (.seq (R F50_r2 [1,2,5] [2]) (.block 0 (.loop F50_l1))) (.seq (.seq (R F50_r6 [1,2,6] [2]) (.block 2 (.loop F50_l2))) (.seq (R F50_r10 [4] []) (.ret))))),[.t 4]⟩
def F56_r0:List AIns:=[ii 1 (.box false (.t 0)),jf_ 2]
def F56_r1:List AIns:=[jL 10 1,jg 11 10,ii 12 (.bin .gtr (.t 11) (.c (.lit (.int .i64 8))))]
def F56_r2:List AIns:=[jf_ 2]
def F56_r3:List AIns:=[ii 13 (.mkm .str),ii 14 (.mkm .str),ii 4 (.alloc false [.lit (.map none)]),jm 3 13,jnS 1 4 14]
def F56_r4:List AIns:=[ii 15 (.mkf N101_ [] [(.t 4),(.t 1)]),jm 5 15]
def F56_r5:List AIns:=[jL 16 1,jg 17 16,jc 18 0]
def F56_r6:List AIns:=[jq 19 18 17]
def F56_r7:List AIns:=[jx 20 3 16 18,jk 21 3 20,ii 7 (.alloc true [.lit (.string ⟨#[]⟩),.lit (.bool false),.slice .full 2 []]),jns 3 7 21]
def F56_r8:List AIns:=[ja 22 0 7,jl 23 22,ii 24 (.call (.f N57_) [(.t 23)]),ju 25 24,jm 26 25,jfm 27 26 3,jfa 28 26 0 7,jfl 29 26 28,⟨some 30,(some (26,false)),.lk .str (.lit (.bool false)) false (.t 27) (.t 29)⟩,jP 31 26 30,jm 32 31,jfa 33 32 2 7,jfl 34 32 33,jfg 35 32 34,⟨some 36,(some (32,false)),.bin .lss (.t 35) (.c (.lit (.int .i64 1)))⟩,jP 37 32 36,jm 38 37,jfa 39 38 2 7,jfl 40 38 39,jfg 41 38 40,⟨some 42,(some (38,false)),.bin .gtr (.t 41) (.c (.lit (.int .i64 6)))⟩,jP 43 38 42]
def F56_r9:List AIns:=[jf_ 2]
def F56_r10:List AIns:=[jm 44 3,ja 45 0 7,jl 46 45,⟨none,none,.mu .str (.t 44) (.t 46) (.c (.lit (.bool true)))⟩]
def F56_r11:List AIns:=[ja 47 2 7,jl 48 47,jg 49 48,jc 50 0]
def F56_r12:List AIns:=[jq 51 50 49]
def F56_r13:List AIns:=[jx 52 2 48 50,jk 53 2 52,ii 9 (.alloc true [.lit (.string ⟨#[]⟩),.slice .full 2 []]),jns 2 9 53]
def F56_r14:List AIns:=[jm 54 5,jk 55 2 9,ii 56 (.call (.t 54) [(.t 55)]),ju 57 56]
def F56_r15:List AIns:=[jf_ 2]
def F56_r16:List AIns:=[jA 58 50 1,jm 50 58]
def F56_l2:AC:=.seq (R F56_r12 [3,5,16,17,18,48,49,50,51] []) (.seq (.cond (.t 51) (.skip) (.exit 2)) (.seq (.block 3 (.seq (R F56_r13 [3,5,9,16,17,18,48,49,50] [9]) (.seq (R F56_r14 [3,5,16,17,18,48,49,50,57] []) (.cond (.t 57) (.seq (R F56_r15 [2] []) (.ret)) (.skip))))) (R F56_r16 [3,5,16,17,18,48,49,50] [])))
def F56_r17:List AIns:=[jA 59 18 1,jm 18 59]
def F56_l1:AC:=.seq (R F56_r6 [3,5,16,17,18,19] []) (.seq (.cond (.t 19) (.skip) (.exit 0)) (.seq (.block 1 (.seq (R F56_r7 [3,5,7,16,17,18] [7]) (.seq (.seq (R F56_r8 [3,5,7,16,17,18,43] [7]) (.cond (.t 43) (.seq (R F56_r9 [2] []) (.ret)) (.skip))) (.seq (R F56_r10 [3,5,7,16,17,18] [7]) (.seq (R F56_r11 [3,5,16,17,18,48,49,50] []) (.block 2 (.loop F56_l2))))))) (R F56_r17 [3,5,16,17,18] [])))
def F56_r18:List AIns:=[ii 2 (.mv (.c (.lit (.bool true))))]
def F56_:AFun:=⟨1,.seq (R F56_r0 [1] []) (.seq (.seq (R F56_r1 [1,12] []) (.cond (.t 12) (.seq (R F56_r2 [2] []) (.ret)) (.skip))) (.seq (R F56_r3 [1,3,4] []) (.seq (R F56_r4 [1,3,5] []) (.seq (.seq (R F56_r5 [3,5,16,17,18] []) (.block 0 (.loop F56_l1))) (.seq (R F56_r18 [2] []) (.ret)))))),[.t 2]⟩
def F57_r0:List AIns:=[jf_ 2]
def F57_r1:List AIns:=[jm 3 0,ii 4 (.len true (.t 3)),ii 5 (.bin .geq (.t 4) (.c (.lit (.int .i64 1)))),jm 6 5,jtm 7 6 0,⟨some 8,(some (6,true)),.len true (.t 7)⟩,⟨some 9,(some (6,true)),.bin .leq (.t 8) (.c (.lit (.int .i64 10)))⟩,jp 10 6 9,jm 11 10,jtm 12 11 0,⟨some 13,(some (11,true)),.ixs (.t 12) (.c (.lit (.int .i64 0)))⟩,⟨some 14,(some (11,true)),.call (.f N103_) [(.t 13)]⟩,jp 15 11 14,jm 16 15,jtm 17 16 0,⟨some 18,(some (16,true)),.call (.f N104_) [(.t 17)]⟩,jp 19 16 18,jm 20 19,jtm 21 20 0,⟨some 22,(some (20,true)),.bin .add (.c (.lit (.string ⟨#[32]⟩))) (.t 21)⟩,⟨some 23,(some (20,true)),.bin .add (.t 22) (.c (.lit (.string ⟨#[32]⟩)))⟩,⟨some 24,(some (20,true)),.call (.f N105_) [(.c (.lit (.string ⟨#[32,100,97,116,97,32,99,111,100,97,116,97,32,102,117,110,32,105,110,116,32,105,102,122,32,99,97,115,101,32,99,111,99,97,115,101,32,108,101,116,32,101,109,105,116,32,108,97,98,101,108,32,103,111,116,111,32]⟩))),(.t 23)]⟩,jtu 25 20 24,jp 26 20 25,jm 2 26]
def F57_:AFun:=⟨1,.seq (R F57_r0 [0] []) (.seq (R F57_r1 [2] []) (.ret)),[.t 2]⟩
def F58_r0:List AIns:=[jf_ 4]
def F58_r1:List AIns:=[jm 9 0,jg 10 9,jm 11 1,jg 12 11,ii 13 (.bin .neq (.t 10) (.t 12))]
def F58_r2:List AIns:=[jf_ 4]
def F58_r3:List AIns:=[ii 14 (.mkm (.int2 .i64)),jm 5 14]
def F58_r4:List AIns:=[jm 15 0,jg 16 15,jc 17 0]
def F58_r5:List AIns:=[jq 18 17 16]
def F58_r6:List AIns:=[jm 19 17,jx 20 1 15 17,jl 21 20,jm 6 19,jm 7 21]
def F58_r7:List AIns:=[jm 22 1,jm 23 6,jx 24 1 22 23,jl 25 24,ii 26 (.call (.f N106_) [(.t 25)]),jm 27 7,ii 28 (.build [.lit (.int .i64 0),.lit (.int .i64 0)] [(0,1,(.t 26)),(1,1,(.t 27))]),ii 8 (.alloc true [.lit (.int .i64 0),.lit (.int .i64 0)]),jns 2 8 28]
def F58_r8:List AIns:=[jm 29 7,ii 30 (.call (.f N107_) [(.t 29)]),ju 31 30,jm 32 31,jfm 33 32 5,jfk 34 32 2 8,⟨some 35,(some (32,false)),.lk (.int2 .i64) (.lit (.bool false)) false (.t 33) (.t 34)⟩,jP 36 32 35]
def F58_r9:List AIns:=[jf_ 4]
def F58_r10:List AIns:=[jm 37 5,jk 38 2 8,⟨none,none,.mu (.int2 .i64) (.t 37) (.t 38) (.c (.lit (.bool true)))⟩]
def F58_r11:List AIns:=[jA 39 17 1,jm 17 39]
def F58_l1:AC:=.seq (R F58_r5 [1,5,15,16,17,18] []) (.seq (.cond (.t 18) (.skip) (.exit 0)) (.seq (.block 1 (.seq (R F58_r6 [1,5,6,7,15,16,17] []) (.seq (R F58_r7 [1,5,7,8,15,16,17] [8]) (.seq (.seq (R F58_r8 [1,5,8,15,16,17,36] [8]) (.cond (.t 36) (.seq (R F58_r9 [4] []) (.ret)) (.skip))) (R F58_r10 [1,5,15,16,17] []))))) (R F58_r11 [1,5,15,16,17] [])))
def F58_r12:List AIns:=[ii 4 (.mv (.c (.lit (.bool true))))]
def F58_:AFun:=⟨2,.seq (R F58_r0 [0,1] []) (.seq (.seq (R F58_r1 [0,1,13] []) (.cond (.t 13) (.seq (R F58_r2 [4] []) (.ret)) (.skip))) (.seq (R F58_r3 [0,1,5] []) (.seq (.seq (R F58_r4 [1,5,15,16,17] []) (.block 0 (.loop F58_l1))) (.seq (R F58_r12 [4] []) (.ret))))),[.t 4]⟩
def F59_r0:List AIns:=[ii 4 (.alloc true [.lit (.map none),.lit (.map none)])]
def F59_r1:List AIns:=[ii 10 (.mkm (.int .i64)),ii 11 (.mkm (.int .i64)),ii 12 (.build [.lit (.map none),.lit (.map none)] [(0,1,(.t 10)),(1,1,(.t 11))]),ii 5 (.alloc true [.lit (.map none),.lit (.map none)]),jns 2 5 12]
def F59_r2:List AIns:=[jm 13 0,jg 14 13,jc 15 0]
def F59_r3:List AIns:=[jq 16 15 14]
def F59_r4:List AIns:=[jx 17 1 13 15,jl 18 17,jm 7 18]
def F59_r5:List AIns:=[ii 19 (.iaa 2 1 (.t 5) (.c (.lit (.int .i64 0)))),jl 20 19,jm 21 7,⟨none,none,.mu (.int .i64) (.t 20) (.t 21) (.c (.lit (.bool true)))⟩]
def F59_r6:List AIns:=[jA 22 15 1,jm 15 22]
def F59_l1:AC:=.seq (R F59_r3 [1,4,5,13,14,15,16] [4,5]) (.seq (.cond (.t 16) (.skip) (.exit 0)) (.seq (.block 1 (.seq (R F59_r4 [1,4,5,7,13,14,15] [4,5]) (R F59_r5 [1,4,5,13,14,15] [4,5]))) (R F59_r6 [1,4,5,13,14,15] [4,5])))
def F59_r7:List AIns:=[jm 23 1,jg 24 23,jc 25 0]
def F59_r8:List AIns:=[jq 26 25 24]
def F59_r9:List AIns:=[jx 27 1 23 25,jl 28 27,jm 9 28]
def F59_r10:List AIns:=[ii 29 (.iaa 2 1 (.t 5) (.c (.lit (.int .i64 1)))),jl 30 29,jm 31 9,⟨none,none,.mu (.int .i64) (.t 30) (.t 31) (.c (.lit (.bool true)))⟩]
def F59_r11:List AIns:=[jA 32 25 1,jm 25 32]
def F59_l2:AC:=.seq (R F59_r8 [4,5,23,24,25,26] [4,5]) (.seq (.cond (.t 26) (.skip) (.exit 2)) (.seq (.block 3 (.seq (R F59_r9 [4,5,9,23,24,25] [4,5]) (R F59_r10 [4,5,23,24,25] [4,5]))) (R F59_r11 [4,5,23,24,25] [4,5])))
def F59_r12:List AIns:=[jk 33 2 5,jns 2 4 33]
def F59_:AFun:=⟨2,.seq (R F59_r0 [0,1,4] [4]) (.seq (R F59_r1 [0,1,4,5] [4,5]) (.seq (.seq (R F59_r2 [1,4,5,13,14,15] [4,5]) (.block 0 (.loop F59_l1))) (.seq (.seq (R F59_r7 [4,5,23,24,25] [4,5]) (.block 2 (.loop F59_l2))) (.seq (R F59_r12 [4] [4]) (.ret))))),[.cell (some 2) 4]⟩
def F60_r0:List AIns:=[ii 3 (.box false (.t 0)),ii 6 (.mv (.c (.lit .nilFunc)))]
def F60_r1:List AIns:=[ii 7 (.alloc false [.slice .full 2 []])]
def F60_r2:List AIns:=[jm 11 1,jg 12 11,jc 13 0]
def F60_r3:List AIns:=[jq 14 13 12]
def F60_r4:List AIns:=[jm 15 13,jx 16 1 11 13,jl 17 16,jm 8 15,jm 9 17]
def F60_r5:List AIns:=[jm 18 2,jm 19 8,jx 20 1 18 19,jl 21 20,ii 22 (.call (.f N106_) [(.t 21)]),jm 10 22]
def F60_r6:List AIns:=[jm 23 10,ii 24 (.iaa 2 1 (.t 3) (.t 23)),jL 25 24,jm 26 9,ii 27 (.lk (.int .i64) (.lit (.bool false)) false (.t 25) (.t 26)),ju 28 27]
def F60_r7:List AIns:=[jm 29 10,ii 30 (.iaa 2 1 (.t 3) (.t 29)),jL 31 30,jm 32 9,⟨none,none,.mu (.int .i64) (.t 31) (.t 32) (.c (.lit (.bool true)))⟩]
def F60_r8:List AIns:=[jL 33 7,jm 34 10,jm 35 9,ii 36 (.build [.lit (.int .i64 0),.lit (.int .i64 0)] [(0,1,(.t 34)),(1,1,(.t 35))]),jB 37 2 36,ii 38 (.app 2 16 (.t 33) (.t 37)),jnS 1 7 38]
def F60_r9:List AIns:=[jA 39 13 1,jm 13 39]
def F60_l1:AC:=.seq (R F60_r3 [2,3,7,11,12,13,14] []) (.seq (.cond (.t 14) (.skip) (.exit 0)) (.seq (.block 1 (.seq (R F60_r4 [2,3,7,8,9,11,12,13] []) (.seq (R F60_r5 [2,3,7,9,10,11,12,13] []) (.seq (R F60_r6 [2,3,7,9,10,11,12,13,28] []) (.cond (.t 28) (.seq (R F60_r7 [2,3,7,9,10,11,12,13] []) (R F60_r8 [2,3,7,11,12,13] [])) (.skip)))))) (R F60_r9 [2,3,7,11,12,13] [])))
def F60_r10:List AIns:=[ii 40 (.mkf N108_ [] [(.t 7),(.t 3)]),jm 6 40]
def F60_:AFun:=⟨3,.seq (R F60_r0 [1,2,3] []) (.seq (R F60_r1 [1,2,3,7] []) (.seq (.seq (R F60_r2 [2,3,7,11,12,13] []) (.block 0 (.loop F60_l1))) (.seq (R F60_r10 [6] []) (.ret)))),[.t 6]⟩
def F61_r0:List AIns:=[ii 2 (.mv (.c (.slice .full 1 [])))]
def F61_r1:List AIns:=[ii 3 (.mv (.c (.slice .full 1 [])))]
def F61_r2:List AIns:=[jm 6 0,jg 7 6,jc 8 0]
def F61_r3:List AIns:=[jq 9 8 7]
def F61_r4:List AIns:=[jx 10 2 6 8,jk 11 2 10,ii 5 (.alloc true [.lit (.int .i64 0),.lit (.bool false)]),jns 2 5 11]
def F61_r5:List AIns:=[jm 12 3,ja 13 1 5,jl 14 13,jB 15 1 14,ii 16 (.app 1 1 (.t 12) (.t 15)),jm 3 16]
def F61_r6:List AIns:=[jA 17 8 1,jm 8 17]
def F61_l1:AC:=.seq (R F61_r3 [3,6,7,8,9] []) (.seq (.cond (.t 9) (.skip) (.exit 0)) (.seq (.block 1 (.seq (R F61_r4 [3,5,6,7,8] [5]) (R F61_r5 [3,6,7,8] []))) (R F61_r6 [3,6,7,8] [])))
def F61_r7:List AIns:=[jm 18 3,jm 2 18]
def F61_:AFun:=⟨1,.seq (R F61_r0 [0] []) (.seq (R F61_r1 [0,3] []) (.seq (.seq (R F61_r2 [3,6,7,8] []) (.block 0 (.loop F61_l1))) (.seq (R F61_r7 [2] []) (.ret)))),[.t 2]⟩
def F62_r0:List AIns:=[jc 2 0]
def F62_r1:List AIns:=[jm 4 0,ii 5 (.bin .lss (.t 4) (.c (.lit (.int .i64 0)))),jm 6 5,jfm 7 6 0,⟨some 8,(some (6,false)),.bin .gtr (.t 7) (.c (.lit (.int .i64 14)))⟩,jP 9 6 8,jm 3 9]
def F62_r2:List AIns:=[ii 2 (.mv (.c (.lit (.int .i64 (-1)))))]
def F62_r3:List AIns:=[jm 11 0,ii 12 (.bin .leq (.t 11) (.c (.lit (.int .i64 4)))),jm 10 12]
def F62_r4:List AIns:=[jc 2 0]
def F62_r5:List AIns:=[jm 14 0,ii 15 (.bin .leq (.t 14) (.c (.lit (.int .i64 8)))),jm 13 15]
def F62_r6:List AIns:=[jc 2 1]
def F62_r7:List AIns:=[jc 2 2]
def F62_:AFun:=⟨1,.seq (R F62_r0 [0] []) (.seq (.block 0 (.seq (R F62_r1 [0,3] []) (.cond (.t 3) (.seq (R F62_r2 [2] []) (.ret)) (.seq (R F62_r3 [0,10] []) (.cond (.t 10) (.seq (R F62_r4 [2] []) (.ret)) (.seq (R F62_r5 [13] []) (.cond (.t 13) (.seq (R F62_r6 [2] []) (.ret)) (.skip)))))))) (.seq (R F62_r7 [2] []) (.ret))),[.t 2]⟩
def F63_r0:List AIns:=[jb 5 1,jb 6 2,jf_ 8]
def F63_r1:List AIns:=[jm 14 0,jh 15 14,ja 16 2 15,jL 17 16,ii 18 (.bin .sub (.t 17) (.c (.lit (.int .i64 1)))),jh 19 14,ja 20 2 19,jnS 1 20 18]
def F63_r2:List AIns:=[jm 21 0,jh 22 21,ja 23 2 22,jL 24 23,ii 25 (.bin .lss (.t 24) (.c (.lit (.int .i64 0)))),jm 26 25,jfm 27 26 3,⟨some 28,(some (26,false)),.bin .gtr (.t 27) (.c (.lit (.int .i64 4000)))⟩,jP 29 26 28]
def F63_r3:List AIns:=[jf_ 8]
def F63_r4:List AIns:=[ja 30 0 6,jl 31 30,ii 32 (.bin .neq (.t 31) (.c (.lit (.int .i64 4)))),jm 33 32,jta 34 33 0 6,jtl 35 33 34,⟨some 36,(some (33,true)),.bin .neq (.t 35) (.c (.lit (.int .i64 8)))⟩,jp 37 33 36,jm 38 37,jta 39 38 4 6,jtl 40 38 39,jtg 41 38 40,⟨some 42,(some (38,true)),.bin .neq (.t 41) (.c (.lit (.int .i64 0)))⟩,jp 43 38 42]
def F63_r5:List AIns:=[jf_ 8]
def F63_r6:List AIns:=[ja 44 2 6,jl 45 44,ii 46 (.bin .geq (.t 45) (.c (.lit (.int .i64 0)))),jm 47 46,jta 48 47 2 6,jtl 49 47 48,jtm 50 47 0,jth 51 47 50,jta 52 47 0 51,jtL 53 47 52,jtg 54 47 53,⟨some 55,(some (47,true)),.bin .leq (.t 49) (.t 54)⟩,jp 56 47 55,jm 9 56]
def F63_r7:List AIns:=[ja 57 0 6,jl 58 57]
def F63_r8:List AIns:=[je 60 58 0,jm 59 60]
def F63_r9:List AIns:=[je 61 58 5,jm 59 61]
def F63_r10:List AIns:=[ja 62 2 6,jl 63 62,je 64 63 0,jm 65 64,jta 66 65 3 6,jtl 67 65 66,jtg 68 65 67,jte 69 65 68 0,jp 70 65 69,jm 71 70,jta 72 71 1 6,jtl 73 71 72,⟨some 74,(some (71,true)),.call (.f N107_) [(.t 73)]⟩,jp 75 71 74,jm 76 75,jta 77 76 0 6,jtl 78 76 77,⟨some 79,(some (76,true)),.call (.f N62_) [(.t 78)]⟩,⟨some 80,(some (76,true)),.iaa 2 1 (.t 5) (.t 79)⟩,jtl 81 76 80,jta 82 76 1 6,jtl 83 76 82,⟨some 84,(some (76,true)),.lk (.int .i64) (.lit (.bool false)) false (.t 81) (.t 83)⟩,jp 85 76 84,jm 8 85]
def F63_r11:List AIns:=[je 87 58 1,jm 86 87]
def F63_r12:List AIns:=[ja 88 2 6,jl 89 88,je 90 89 0,jm 91 90,jta 92 91 3 6,jtl 93 91 92,jtg 94 91 93,jte 95 91 94 0,jp 96 91 95,jm 8 96]
def F63_r13:List AIns:=[je 98 58 2,jm 97 98]
def F63_r14:List AIns:=[je 99 58 6,jm 97 99]
def F63_r15:List AIns:=[jm 101 0,ja 102 2 6,jl 103 102,ja 104 1 6,jl 105 104,ja 106 0 6,jl 107 106,je 108 107 6,ii 109 (.call (.f N109_) [(.t 101),(.t 103),(.t 105),(.t 108)]),jm 100 109,jz 110 100 0,jz 111 100 1,ii 10 (.alloc true [.lit (.string ⟨#[]⟩),.slice .full 2 []]),jns 2 10 110,jm 11 111]
def F63_r16:List AIns:=[jm 112 11,jm 113 112,jtm 114 113 0,jtk 115 113 2 5,jta 116 113 3 6,jtl 117 113 116,jta 118 113 1 10,jtl 119 113 118,jtm 120 113 3,⟨some 121,(some (113,true)),.call (.f N110_) [(.t 114),(.t 115),(.t 117),(.t 119),(.t 120)]⟩,jp 122 113 121,jm 8 122]
def F63_r17:List AIns:=[je 124 58 3,jm 123 124]
def F63_r18:List AIns:=[je 125 58 7,jm 123 125]
def F63_r19:List AIns:=[jm 126 9,ju 127 126,jm 128 127,jfa 129 128 1 6,jfl 130 128 129,⟨some 131,(some (128,false)),.call (.f N107_) [(.t 130)]⟩,jfu 132 128 131,jP 133 128 132]
def F63_r20:List AIns:=[jf_ 8]
def F63_r21:List AIns:=[jk 134 2 5,ja 135 1 6,jl 136 135,jB 137 1 136,ja 138 0 6,jl 139 138,je 140 139 3,jB 141 1 140,ii 142 (.call (.f N60_) [(.t 134),(.t 137),(.t 141)]),jm 12 142]
def F63_r22:List AIns:=[jm 143 0,jk 144 2 5,ja 145 3 6,jl 146 145,jm 147 3,ii 148 (.bsl 1 [(.c (.lit (.int .i64 2)))]),ii 149 (.call (.f N111_) [(.t 143),(.t 144),(.t 146),(.t 147),(.t 148)]),jm 13 149]
def F63_r23:List AIns:=[jm 150 12,ii 151 (.call (.t 150) [])]
def F63_r24:List AIns:=[jm 152 13,jm 8 152]
def F63_r25:List AIns:=[je 154 58 4,jm 153 154]
def F63_r26:List AIns:=[je 155 58 8,jm 153 155]
def F63_r27:List AIns:=[ja 156 1 6,jl 157 156,je 158 157 0,jm 159 158,jta 160 159 3 6,jtl 161 159 160,jtg 162 159 161,jte 163 159 162 0,jp 164 159 163,jm 165 164,jta 166 165 2 6,jtl 167 165 166,⟨some 168,(some (165,true)),.bin .geq (.t 167) (.c (.lit (.int .i64 1)))⟩,jp 169 165 168,jm 170 169,jtm 171 170 9,jp 172 170 171,jm 173 172,jtm 174 173 0,jth 175 173 174,jta 176 173 0 175,jtL 177 173 176,jta 178 173 2 6,jtl 179 173 178,⟨some 180,(some (173,true)),.bin .sub (.t 179) (.c (.lit (.int .i64 1)))⟩,jtx 181 173 3 177 180,jta 182 173 1 181,jtl 183 173 182,jta 184 173 0 6,jtl 185 173 184,jte 186 173 185 4,⟨some 187,(some (173,true)),.beq false (.t 183) (.t 186)⟩,jp 188 173 187,jm 189 188,jtm 190 189 0,jtk 191 189 2 5,jtk 192 189 5 6,jtm 193 189 3,⟨some 194,(some (189,true)),.call (.f N112_) [(.t 190),(.t 191),(.t 192),(.t 193)]⟩,jp 195 189 194,jm 8 195]
def F63_r28:List AIns:=[je 197 58 9,jm 196 197]
def F63_r29:List AIns:=[ja 198 1 6,jl 199 198,je 200 199 0,jm 201 200,jtm 202 201 9,jp 203 201 202,jm 204 203,jtm 205 204 0,jtk 206 204 2 5,jta 207 204 3 6,jtl 208 204 207,jtm 209 204 3,⟨some 210,(some (204,true)),.bsl 1 [(.c (.lit (.int .i64 0))),(.c (.lit (.int .i64 1)))]⟩,⟨some 211,(some (204,true)),.call (.f N111_) [(.t 205),(.t 206),(.t 208),(.t 209),(.t 210)]⟩,jp 212 204 211,jm 8 212]
def F63_r30:List AIns:=[je 214 58 10,jm 213 214]
def F63_r31:List AIns:=[ja 215 2 6,jl 216 215,je 217 216 0,jm 218 217,jta 219 218 1 6,jtl 220 218 219,⟨some 221,(some (218,true)),.bin .geq (.t 220) (.c (.lit (.int .i64 0)))⟩,jp 222 218 221,jm 223 222,jta 224 223 1 6,jtl 225 223 224,⟨some 226,(some (223,true)),.bin .leq (.t 225) (.c (.lit (.int .i64 6)))⟩,jp 227 223 226,jm 228 227,jtm 229 228 0,jtk 230 228 2 5,jta 231 228 3 6,jtl 232 228 231,jtm 233 228 3,⟨some 234,(some (228,true)),.bsl 1 [(.c (.lit (.int .i64 0))),(.c (.lit (.int .i64 0))),(.c (.lit (.int .i64 1)))]⟩,⟨some 235,(some (228,true)),.call (.f N111_) [(.t 229),(.t 230),(.t 232),(.t 233),(.t 234)]⟩,jp 236 228 235,jm 8 236]
def F63_r32:List AIns:=[je 238 58 11,jm 237 238]
def F63_r33:List AIns:=[ja 239 2 6,jl 240 239,je 241 240 0,jm 242 241,jta 243 242 1 6,jtl 244 242 243,jte 245 242 244 0,jp 246 242 245,jm 247 246,jtm 248 247 0,jtk 249 247 2 5,jta 250 247 3 6,jtl 251 247 250,jtm 252 247 3,⟨some 253,(some (247,true)),.bsl 1 [(.c (.lit (.int .i64 0))),(.c (.lit (.int .i64 2))),(.c (.lit (.int .i64 2)))]⟩,⟨some 254,(some (247,true)),.call (.f N111_) [(.t 248),(.t 249),(.t 251),(.t 252),(.t 253)]⟩,jp 255 247 254,jm 8 255]
def F63_r34:List AIns:=[je 257 58 12,jm 256 257]
def F63_r35:List AIns:=[ja 258 2 6,jl 259 258,je 260 259 0,jm 261 260,jta 262 261 1 6,jtl 263 261 262,jte 264 261 263 0,jp 265 261 264,jm 266 265,jtm 267 266 0,jtk 268 266 2 5,jta 269 266 3 6,jtl 270 266 269,jtm 271 266 3,⟨some 272,(some (266,true)),.bsl 1 [(.c (.lit (.int .i64 0))),(.c (.lit (.int .i64 2)))]⟩,⟨some 273,(some (266,true)),.call (.f N111_) [(.t 267),(.t 268),(.t 270),(.t 271),(.t 272)]⟩,jp 274 266 273,jm 8 274]
def F63_r36:List AIns:=[je 276 58 13,jm 275 276]
def F63_r37:List AIns:=[ja 277 2 6,jl 278 277,je 279 278 0,jm 280 279,jta 281 280 1 6,jtl 282 280 281,⟨some 283,(some (280,true)),.bin .geq (.t 282) (.c (.lit (.int .i64 0)))⟩,jp 284 280 283,jm 285 284,jta 286 285 1 6,jtl 287 285 286,jtm 288 285 0,jth 289 285 288,jta 290 285 1 289,jtL 291 285 290,jtg 292 285 291,jtq 293 285 287 292,jp 294 285 293,jm 295 294,jtm 296 295 0,jtk 297 295 2 5,jta 298 295 3 6,jtl 299 295 298,jtm 300 295 0,jth 301 295 300,jta 302 295 1 301,jtL 303 295 302,jta 304 295 1 6,jtl 305 295 304,jtx 306 295 8 303 305,jta 307 295 1 306,jtl 308 295 307,jtm 309 295 3,⟨some 310,(some (295,true)),.call (.f N110_) [(.t 296),(.t 297),(.t 299),(.t 308),(.t 309)]⟩,jp 311 295 310,jm 8 311]
def F63_r38:List AIns:=[je 313 58 14,jm 312 313]
def F63_r39:List AIns:=[ja 314 2 6,jl 315 314,je 316 315 0,jm 317 316,jta 318 317 1 6,jtl 319 317 318,jte 320 317 319 0,jp 321 317 320,jm 322 321,jtm 323 322 0,jtk 324 322 2 5,jta 325 322 3 6,jtl 326 322 325,jtm 327 322 3,⟨some 328,(some (322,true)),.bsl 1 [(.c (.lit (.int .i64 0)))]⟩,⟨some 329,(some (322,true)),.call (.f N111_) [(.t 323),(.t 324),(.t 326),(.t 327),(.t 328)]⟩,jp 330 322 329,jm 8 330]
def F63_r40:List AIns:=[jf_ 8]
def F63_:AFun:=⟨4,.seq (R F63_r0 [0,3,5,6] [5,6]) (.seq (R F63_r1 [0,3,5,6] [5,6]) (.seq (.seq (R F63_r2 [0,3,5,6,29] [5,6]) (.cond (.t 29) (.seq (R F63_r3 [8] []) (.ret)) (.skip))) (.seq (.seq (R F63_r4 [0,3,5,6,43] [5,6]) (.cond (.t 43) (.seq (R F63_r5 [8] []) (.ret)) (.skip))) (.seq (R F63_r6 [0,3,5,6,9] [5,6]) (.seq (.seq (R F63_r7 [0,3,5,6,9,58] [5,6]) (.block 0 (.seq (.seq (R F63_r8 [0,3,5,6,9,58,59] [5,6]) (.cond (.t 59) (.skip) (R F63_r9 [0,3,5,6,9,58,59] [5,6]))) (.cond (.t 59) (.seq (R F63_r10 [8] []) (.ret)) (.seq (R F63_r11 [0,3,5,6,9,58,86] [5,6]) (.cond (.t 86) (.seq (R F63_r12 [8] []) (.ret)) (.seq (.seq (R F63_r13 [0,3,5,6,9,58,97] [5,6]) (.cond (.t 97) (.skip) (R F63_r14 [0,3,5,6,9,58,97] [5,6]))) (.cond (.t 97) (.seq (R F63_r15 [0,3,5,6,10,11] [5,6,10]) (.seq (R F63_r16 [8] []) (.ret))) (.seq (.seq (R F63_r17 [0,3,5,6,9,58,123] [5,6]) (.cond (.t 123) (.skip) (R F63_r18 [0,3,5,6,9,58,123] [5,6]))) (.cond (.t 123) (.seq (.seq (R F63_r19 [0,3,5,6,133] [5,6]) (.cond (.t 133) (.seq (R F63_r20 [8] []) (.ret)) (.skip))) (.seq (R F63_r21 [0,3,5,6,12] [5,6]) (.seq (R F63_r22 [12,13] []) (.seq (R F63_r23 [13] []) (.seq (R F63_r24 [8] []) (.ret)))))) (.seq (.seq (R F63_r25 [0,3,5,6,9,58,153] [5,6]) (.cond (.t 153) (.skip) (R F63_r26 [0,3,5,6,9,58,153] [5,6]))) (.cond (.t 153) (.seq (R F63_r27 [8] []) (.ret)) (.seq (R F63_r28 [0,3,5,6,9,58,196] [5,6]) (.cond (.t 196) (.seq (R F63_r29 [8] []) (.ret)) (.seq (R F63_r30 [0,3,5,6,58,213] [5,6]) (.cond (.t 213) (.seq (R F63_r31 [8] []) (.ret)) (.seq (R F63_r32 [0,3,5,6,58,237] [5,6]) (.cond (.t 237) (.seq (R F63_r33 [8] []) (.ret)) (.seq (R F63_r34 [0,3,5,6,58,256] [5,6]) (.cond (.t 256) (.seq (R F63_r35 [8] []) (.ret)) (.seq (R F63_r36 [0,3,5,6,58,275] [5,6]) (.cond (.t 275) (.seq (R F63_r37 [8] []) (.ret)) (.seq (R F63_r38 [0,3,5,6,312] [5,6]) (.cond (.t 312) (.seq (R F63_r39 [8] []) (.ret)) (.skip))))))))))))))))))))))))) (.seq (R F63_r40 [8] []) (.ret))))))),[.t 8]⟩
def F64_r0:List AIns:=[jf_ 2]
def F64_r1:List AIns:=[jm 3 0,ii 4 (.call (.f N113_) [(.t 3),(.f N114_)]),ju 5 4,jm 2 5]
def F64_:AFun:=⟨1,.seq (R F64_r0 [0] []) (.seq (R F64_r1 [2] []) (.ret)),[.t 2]⟩
def F65_r0:List AIns:=[jb 1 0,jf_ 2]
def F65_r1:List AIns:=[ja 3 0 1,jl 4 3]
def F65_r2:List AIns:=[je 6 4 3,jm 5 6]
def F65_r3:List AIns:=[je 7 4 7,jm 5 7]
def F65_r4:List AIns:=[je 8 4 9,jm 5 8]
def F65_r5:List AIns:=[ja 9 2 1,jl 10 9,je 11 10 0]
def F65_r6:List AIns:=[jf_ 2]
def F65_r7:List AIns:=[je 13 4 10,jm 12 13]
def F65_r8:List AIns:=[je 14 4 11,jm 12 14]
def F65_r9:List AIns:=[je 15 4 1,jm 12 15]
def F65_r10:List AIns:=[jf_ 2]
def F65_r11:List AIns:=[je 17 4 12,jm 16 17]
def F65_r12:List AIns:=[ja 18 3 1,jl 19 18,ii 20 (.ia 5 (.t 19) (.c (.lit (.int .i64 0)))),ja 21 0 20,jl 22 21,je 23 22 1,jm 24 23,jta 25 24 3 1,jtl 26 24 25,⟨some 27,(some (24,true)),.ia 5 (.t 26) (.c (.lit (.int .i64 1)))⟩,jtk 28 24 5 27,⟨some 29,(some (24,true)),.call (.f N65_) [(.t 28)]⟩,jp 30 24 29,jm 2 30]
def F65_r13:List AIns:=[je 32 4 14,jm 31 32]
def F65_r14:List AIns:=[ja 33 3 1,jl 34 33,ii 35 (.ia 5 (.t 34) (.c (.lit (.int .i64 0)))),ja 36 0 35,jl 37 36,je 38 37 1,jm 2 38]
def F65_r15:List AIns:=[ja 39 3 1,jl 40 39,ii 41 (.call (.f N115_) [(.t 40),(.f N116_)]),ju 42 41,jm 43 42,jta 44 43 4 1,jtl 45 43 44,⟨some 46,(some (43,true)),.call (.f N117_) [(.t 45),(.f N118_)]⟩,jtu 47 43 46,jp 48 43 47,jm 2 48]
def F65_:AFun:=⟨1,.seq (R F65_r0 [1] [1]) (.seq (.seq (R F65_r1 [1,4] [1]) (.block 0 (.seq (.seq (R F65_r2 [1,4,5] [1]) (.cond (.t 5) (.skip) (.seq (R F65_r3 [1,4,5] [1]) (.cond (.t 5) (.skip) (R F65_r4 [1,4,5] [1]))))) (.cond (.t 5) (.seq (R F65_r5 [1,11] [1]) (.cond (.t 11) (.seq (R F65_r6 [2] []) (.ret)) (.skip))) (.seq (.seq (R F65_r7 [1,4,12] [1]) (.cond (.t 12) (.skip) (.seq (R F65_r8 [1,4,12] [1]) (.cond (.t 12) (.skip) (R F65_r9 [1,4,12] [1]))))) (.cond (.t 12) (.seq (R F65_r10 [2] []) (.ret)) (.seq (R F65_r11 [1,4,16] [1]) (.cond (.t 16) (.seq (R F65_r12 [2] []) (.ret)) (.seq (R F65_r13 [1,31] [1]) (.cond (.t 31) (.seq (R F65_r14 [2] []) (.ret)) (.skip))))))))))) (.seq (R F65_r15 [2] []) (.ret))),[.t 2]⟩
def F66_r0:List AIns:=[ii 4 (.mv (.c (.slice .full 5 [])))]
def F66_r1:List AIns:=[ii 5 (.mv (.c (.slice .full 5 [])))]
def F66_r2:List AIns:=[jm 8 0,jg 9 8,jc 10 0]
def F66_r3:List AIns:=[jq 11 10 9]
def F66_r4:List AIns:=[jx 12 5 8 10,jK 13 5 12,ii 7 (.alloc true [.lit (.int .i64 0),.lit (.int .i64 0),.lit (.int .i64 0),.slice .full 5 [],.slice .full 7 []]),jns 5 7 13]
def F66_r5:List AIns:=[jm 14 5,jm 15 1,jk 16 5 7,ii 17 (.call (.t 15) [(.t 16)]),jB 18 5 17,ii 19 (.wop (.appm 5 72) [(.t 14),(.t 18)]),jm 5 19]
def F66_r6:List AIns:=[jA 20 10 1,jm 10 20]
def F66_l1:AC:=.seq (R F66_r3 [1,5,8,9,10,11] []) (.seq (.cond (.t 11) (.skip) (.exit 0)) (.seq (.block 1 (.seq (R F66_r4 [1,5,7,8,9,10] [7]) (R F66_r5 [1,5,8,9,10] []))) (R F66_r6 [1,5,8,9,10] [])))
def F66_r7:List AIns:=[jm 21 5,jm 4 21]
def F66_:AFun:=⟨2,.seq (R F66_r0 [0,1] []) (.seq (R F66_r1 [0,1,5] []) (.seq (.seq (R F66_r2 [1,5,8,9,10] []) (.block 0 (.loop F66_l1))) (.seq (R F66_r7 [4] []) (.ret)))),[.t 4]⟩
def F67_r0:List AIns:=[jm 4 0,jg 5 4,ii 6 (.bin .sub (.t 5) (.c (.lit (.int .i64 1)))),jc 2 0,jm 3 6]
def F67_r1:List AIns:=[jm 7 2,jm 8 3,jq 9 7 8]
def F67_r3:List AIns:=[jm 14 0,jm 15 2,jm 16 0,jm 17 3,jm 18 0,jm 19 3,jx 20 5 18 19,jK 21 5 20,jm 22 0,jm 23 2,jx 24 5 22 23,jK 25 5 24,jx 26 5 14 15,jnS 5 26 21,jx 27 5 16 17,jnS 5 27 25]
def F67_r2:List AIns:=[jm 10 2,jA 11 10 1,jm 12 3,ii 13 (.bin .sub (.t 12) (.c (.lit (.int .i64 1)))),jm 2 11,jm 3 13]
def F67_l1:AC:=.seq (.seq (R F67_r1 [0,2,3,9] []) (.cond (.t 9) (.skip) (.exit 0))) (.seq (.block 1 (R F67_r3 [0,2,3] [])) (R F67_r2 [0,2,3] []))
def F67_:AFun:=⟨1,.seq (R F67_r0 [0,2,3] []) (.block 0 (.loop F67_l1)),[]⟩
def F68_r0:List AIns:=[ii 4 (.mv (.c (.slice .full 7 [])))]
def F68_r1:List AIns:=[ii 5 (.mv (.c (.slice .full 7 [])))]
def F68_r2:List AIns:=[jm 8 0,jg 9 8,jc 10 0]
def F68_r3:List AIns:=[jq 11 10 9]
def F68_r4:List AIns:=[jx 12 7 8 10,jk 13 7 12,ii 7 (.alloc true [.slice .full 1 [],.slice .full 1 [],.lit (.int .i64 0),.lit (.int .i64 0),.lit (.int .i64 0),.slice .full 5 [],.slice .full 7 []]),jns 7 7 13]
def F68_r5:List AIns:=[jm 14 5,jm 15 1,jk 16 7 7,ii 17 (.call (.t 15) [(.t 16)]),jB 18 7 17,ii 19 (.app 7 120 (.t 14) (.t 18)),jm 5 19]
def F68_r6:List AIns:=[jA 20 10 1,jm 10 20]
def F68_l1:AC:=.seq (R F68_r3 [1,5,8,9,10,11] []) (.seq (.cond (.t 11) (.skip) (.exit 0)) (.seq (.block 1 (.seq (R F68_r4 [1,5,7,8,9,10] [7]) (R F68_r5 [1,5,8,9,10] []))) (R F68_r6 [1,5,8,9,10] [])))
def F68_r7:List AIns:=[jm 21 5,jm 4 21]
def F68_:AFun:=⟨2,.seq (R F68_r0 [0,1] []) (.seq (R F68_r1 [0,1,5] []) (.seq (.seq (R F68_r2 [1,5,8,9,10] []) (.block 0 (.loop F68_l1))) (.seq (R F68_r7 [4] []) (.ret)))),[.t 4]⟩
def F69_r0:List AIns:=[jb 1 0,ii 2 (.alloc true [.slice .full 1 [],.slice .full 1 [],.lit (.int .i64 0),.lit (.int .i64 0),.lit (.int .i64 0),.slice .full 5 [],.slice .full 7 []])]
def F69_r1:List AIns:=[ja 3 0 1,jl 4 3,ii 5 (.call (.f N29_) [(.t 4)]),ja 6 1 1,jl 7 6,ii 8 (.call (.f N70_) [(.t 7),(.f N71_)]),ja 9 2 1,jk 10 5 9,ii 11 (.call (.f N30_) [(.t 10)]),ii 12 (.build [.slice .full 1 [],.slice .full 1 [],.lit (.int .i64 0),.lit (.int .i64 0),.lit (.int .i64 0),.slice .full 5 [],.slice .full 7 []] [(0,1,(.t 5)),(1,1,(.t 8)),(2,5,(.t 11))]),jns 7 2 12]
def F69_:AFun:=⟨1,.seq (R F69_r0 [1,2] [1,2]) (.seq (R F69_r1 [2] [2]) (.ret)),[.cell (some 7) 2]⟩
def F70_r0:List AIns:=[ii 4 (.mv (.c (.slice .full 1 [])))]
def F70_r1:List AIns:=[ii 5 (.mv (.c (.slice .full 1 [])))]
def F70_r2:List AIns:=[jm 8 0,jg 9 8,jc 10 0]
def F70_r3:List AIns:=[jq 11 10 9]
def F70_r4:List AIns:=[jx 12 1 8 10,jl 13 12,jm 7 13]
def F70_r5:List AIns:=[jm 14 5,jm 15 1,jm 16 7,ii 17 (.call (.t 15) [(.t 16)]),jB 18 1 17,ii 19 (.app 1 1 (.t 14) (.t 18)),jm 5 19]
def F70_r6:List AIns:=[jA 20 10 1,jm 10 20]
def F70_l1:AC:=.seq (R F70_r3 [1,5,8,9,10,11] []) (.seq (.cond (.t 11) (.skip) (.exit 0)) (.seq (.block 1 (.seq (R F70_r4 [1,5,7,8,9,10] []) (R F70_r5 [1,5,8,9,10] []))) (R F70_r6 [1,5,8,9,10] [])))
def F70_r7:List AIns:=[jm 21 5,jm 4 21]
def F70_:AFun:=⟨2,.seq (R F70_r0 [0,1] []) (.seq (R F70_r1 [0,1,5] []) (.seq (.seq (R F70_r2 [1,5,8,9,10] []) (.block 0 (.loop F70_l1))) (.seq (R F70_r7 [4] []) (.ret)))),[.t 4]⟩
def F71_r0:List AIns:=[jf_ 2]
def F71_r1:List AIns:=[jm 3 0,ju 4 3,jm 2 4]
def F71_:AFun:=⟨1,.seq (R F71_r0 [0] []) (.seq (R F71_r1 [2] []) (.ret)),[.t 2]⟩
def F81_r0:List AIns:=[jf_ 4]
def F81_r1:List AIns:=[jm 6 0,jg 7 6,jm 8 1,jg 9 8,ii 10 (.bin .neq (.t 7) (.t 9))]
def F81_r2:List AIns:=[jf_ 4]
def F81_r3:List AIns:=[jm 11 0,jg 12 11,jc 13 0]
def F81_r4:List AIns:=[jq 14 13 12]
def F81_r5:List AIns:=[jm 15 13,jm 5 15]
def F81_r6:List AIns:=[jm 16 0,jm 17 5,jx 18 1 16 17,jl 19 18,jm 20 1,jm 21 5,jx 22 1 20 21,jl 23 22,ii 24 (.beq true (.t 19) (.t 23))]
def F81_r7:List AIns:=[jf_ 4]
def F81_r8:List AIns:=[jA 25 13 1,jm 13 25]
def F81_l1:AC:=.seq (R F81_r4 [0,1,12,13,14] []) (.seq (.cond (.t 14) (.skip) (.exit 0)) (.seq (.block 1 (.seq (R F81_r5 [0,1,5,12,13] []) (.seq (R F81_r6 [0,1,12,13,24] []) (.cond (.t 24) (.seq (R F81_r7 [4] []) (.ret)) (.skip))))) (R F81_r8 [0,1,12,13] [])))
def F81_r9:List AIns:=[ii 4 (.mv (.c (.lit (.bool true))))]
def F81_:AFun:=⟨2,.seq (R F81_r0 [0,1] []) (.seq (.seq (R F81_r1 [0,1,10] []) (.cond (.t 10) (.seq (R F81_r2 [4] []) (.ret)) (.skip))) (.seq (.seq (R F81_r3 [0,1,12,13] []) (.block 0 (.loop F81_l1))) (.seq (R F81_r9 [4] []) (.ret)))),[.t 4]⟩
def F84_r0:List AIns:=[jb 1 0,ii 2 (.mv (.c (.lit (.pointer none))))]
def F84_r1:List AIns:=[jk 4 2 1,ii 5 (.mkm (.int .i64)),ii 6 (.mkm (.int .i64)),ii 7 (.build [.lit (.map none),.lit (.map none)] [(0,1,(.t 5)),(1,1,(.t 6))]),ii 8 (.build [.slice .full 3 [],.slice .full 8 [],.lit (.map none),.lit (.map none),.lit .nilFunc,.lit .nilFunc,.lit .nilFunc,.lit .nilFunc,.lit .nilFunc,.lit .nilFunc,.lit .nilFunc,.lit .nilFunc,.lit .nilFunc,.lit .nilFunc,.lit .nilFunc,.lit .nilFunc,.lit .nilFunc,.lit .nilFunc,.lit .nilFunc] [(0,2,(.t 4)),(2,2,(.t 7))]),ii 9 (.box false (.t 8)),jm 3 9]
def F84_r2:List AIns:=[jm 10 3,jm 11 3,ii 12 (.mkf N127_ [(.t 11)] []),jm 13 3,ii 14 (.mkf N128_ [(.t 13)] []),jm 15 3,ii 16 (.mkf N129_ [(.t 15)] []),jm 17 3,ii 18 (.mkf N130_ [(.t 17)] []),jm 19 3,ii 20 (.mkf N131_ [(.t 19)] []),jm 21 3,ii 22 (.mkf N127_ [(.t 21)] []),jm 23 3,ii 24 (.mkf N129_ [(.t 23)] []),jm 25 3,ii 26 (.mkf N130_ [(.t 25)] []),jm 27 3,ii 28 (.mkf N131_ [(.t 27)] []),jm 29 3,ii 30 (.mkf N132_ [(.t 29)] []),jm 31 3,ii 32 (.mkf N133_ [(.t 31)] []),jm 33 3,ii 34 (.mkf N134_ [(.t 33)] []),jm 35 3,ii 36 (.mkf N134_ [(.t 35)] []),jm 37 3,ii 38 (.mkf N135_ [(.t 37)] []),jm 39 3,ii 40 (.mkf N134_ [(.t 39)] []),ii 41 (.build [.lit .nilFunc,.lit .nilFunc,.lit .nilFunc,.lit .nilFunc,.lit .nilFunc,.lit .nilFunc,.lit .nilFunc,.lit .nilFunc,.lit .nilFunc,.lit .nilFunc,.lit .nilFunc,.lit .nilFunc,.lit .nilFunc,.lit .nilFunc,.lit .nilFunc] [(0,1,(.t 12)),(1,1,(.t 14)),(2,1,(.t 16)),(3,1,(.t 18)),(4,1,(.t 20)),(5,1,(.t 22)),(6,1,(.t 24)),(7,1,(.t 26)),(8,1,(.t 28)),(9,1,(.t 30)),(10,1,(.t 32)),(11,1,(.t 34)),(12,1,(.t 36)),(13,1,(.t 38)),(14,1,(.t 40))]),jh 42 10,ja 43 4 42,jnS 15 43 41]
def F84_r3:List AIns:=[jm 44 3,jm 2 44]
def F84_:AFun:=⟨1,.seq (R F84_r0 [1] [1]) (.seq (R F84_r1 [3] []) (.seq (R F84_r2 [3] []) (.seq (R F84_r3 [2] []) (.ret)))),[.t 2]⟩
def F85_r0:List AIns:=[ii 3 (.box false (.t 0)),ii 6 (.mv (.c (.lit .nilFunc)))]
def F85_r1:List AIns:=[ii 7 (.alloc false [.slice .full 4 []])]
def F85_r2:List AIns:=[jm 13 1,jg 14 13,jc 15 0]
def F85_r3:List AIns:=[jq 16 15 14]
def F85_r4:List AIns:=[jm 17 15,jx 18 1 13 15,jl 19 18,jm 8 17,jm 9 19]
def F85_r5:List AIns:=[jm 20 2,jm 21 8,jx 22 2 20 21,ja 23 1 22,jl 24 23,ii 25 (.call (.f N136_) [(.t 24)]),jm 10 25]
def F85_r6:List AIns:=[jL 27 3,jm 28 10,jh 29 27,ja 30 2 29,ii 31 (.iaa 2 1 (.t 30) (.t 28)),jL 32 31,jm 33 9,ii 34 (.lk (.int .i64) (.lit (.int .i64 0)) true (.t 32) (.t 33)),jm 26 34,jz 35 26 0,jz 36 26 1,jm 11 35,jm 12 36]
def F85_r7:List AIns:=[jL 37 7,jm 38 10,jm 39 9,jm 40 11,jm 41 12,ii 42 (.build [.lit (.int .i64 0),.lit (.int .i64 0),.lit (.int .i64 0),.lit (.bool false)] [(0,1,(.t 38)),(1,1,(.t 39)),(2,1,(.t 40)),(3,1,(.t 41))]),jB 43 4 42,ii 44 (.app 4 32 (.t 37) (.t 43)),jnS 1 7 44]
def F85_r8:List AIns:=[jL 45 3,jm 46 10,jh 47 45,ja 48 2 47,ii 49 (.iaa 2 1 (.t 48) (.t 46)),jL 50 49,jm 51 9,jm 52 2,jm 53 8,jx 54 2 52 53,ja 55 0 54,jl 56 55,⟨none,none,.mu (.int .i64) (.t 50) (.t 51) (.t 56)⟩]
def F85_r9:List AIns:=[jA 57 15 1,jm 15 57]
def F85_l1:AC:=.seq (R F85_r3 [2,3,7,13,14,15,16] []) (.seq (.cond (.t 16) (.skip) (.exit 0)) (.seq (.block 1 (.seq (R F85_r4 [2,3,7,8,9,13,14,15] []) (.seq (R F85_r5 [2,3,7,8,9,10,13,14,15] []) (.seq (R F85_r6 [2,3,7,8,9,10,11,12,13,14,15] []) (.seq (R F85_r7 [2,3,7,8,9,10,13,14,15] []) (R F85_r8 [2,3,7,13,14,15] [])))))) (R F85_r9 [2,3,7,13,14,15] [])))
def F85_r10:List AIns:=[ii 58 (.mkf N137_ [] [(.t 7),(.t 3)]),jm 6 58]
def F85_:AFun:=⟨3,.seq (R F85_r0 [1,2,3] []) (.seq (R F85_r1 [1,2,3,7] []) (.seq (.seq (R F85_r2 [2,3,7,13,14,15] []) (.block 0 (.loop F85_l1))) (.seq (R F85_r10 [6] []) (.ret)))),[.t 6]⟩
def F86_r0:List AIns:=[jb 3 1,jc 4 0,jf_ 5]
def F86_r1:List AIns:=[jm 6 0,ja 7 0 3,jl 8 7,jh 9 6,ja 10 4 9,ii 11 (.iaa 15 1 (.t 10) (.t 8)),jL 12 11,jk 13 5 3,ii 14 (.call (.t 12) [(.t 13)]),jz 15 14 0,jz 16 14 1,jm 4 15,jm 5 16]
def F86_:AFun:=⟨2,.seq (R F86_r0 [0,3] [3]) (.seq (R F86_r1 [4,5] []) (.ret)),[.t 4,.t 5]⟩
def F101_r0:List AIns:=[jb 3 0,jf_ 4]
def F101_r1:List AIns:=[ja 7 0 3,jl 8 7,ii 9 (.call (.f N102_) [(.t 8)]),ju 10 9,jm 11 10,jfL 12 11 1,jfa 13 11 0 3,jfl 14 11 13,⟨some 15,(some (11,false)),.lk .str (.lit (.bool false)) false (.t 12) (.t 14)⟩,jP 16 11 15,jm 17 16,jfa 18 17 1 3,jfl 19 17 18,jfg 20 17 19,⟨some 21,(some (17,false)),.bin .gtr (.t 20) (.c (.lit (.int .i64 6)))⟩,jP 22 17 21]
def F101_r2:List AIns:=[jf_ 4]
def F101_r3:List AIns:=[jL 23 1,ja 24 0 3,jl 25 24,⟨none,none,.mu .str (.t 23) (.t 25) (.c (.lit (.bool true)))⟩]
def F101_r4:List AIns:=[ja 26 1 3,jl 27 26,jg 28 27,jc 29 0]
def F101_r5:List AIns:=[jq 30 29 28]
def F101_r6:List AIns:=[jx 31 2 27 29,jk 32 2 31,ii 6 (.alloc true [.lit (.int .i64 0),.lit (.bool false)]),jns 2 6 32]
def F101_r7:List AIns:=[ja 33 0 6,jl 34 33,ii 35 (.bin .lss (.t 34) (.c (.lit (.int .i64 0)))),jm 36 35,jfa 37 36 0 6,jfl 38 36 37,jfL 39 36 2,jfg 40 36 39,⟨some 41,(some (36,false)),.bin .gtr (.t 38) (.t 40)⟩,jP 42 36 41]
def F101_r8:List AIns:=[jf_ 4]
def F101_r9:List AIns:=[jA 43 29 1,jm 29 43]
def F101_l1:AC:=.seq (R F101_r5 [2,27,28,29,30] []) (.seq (.cond (.t 30) (.skip) (.exit 0)) (.seq (.block 1 (.seq (R F101_r6 [2,6,27,28,29] [6]) (.seq (R F101_r7 [2,27,28,29,42] []) (.cond (.t 42) (.seq (R F101_r8 [4] []) (.ret)) (.skip))))) (R F101_r9 [2,27,28,29] [])))
def F101_r10:List AIns:=[ii 4 (.mv (.c (.lit (.bool true))))]
def F101_:AFun:=⟨3,.seq (R F101_r0 [1,2,3] [3]) (.seq (.seq (R F101_r1 [1,2,3,22] [3]) (.cond (.t 22) (.seq (R F101_r2 [4] []) (.ret)) (.skip))) (.seq (R F101_r3 [2,3] [3]) (.seq (.seq (R F101_r4 [2,27,28,29] []) (.block 0 (.loop F101_l1))) (.seq (R F101_r10 [4] []) (.ret))))),[.t 4]⟩
def F102_r0:List AIns:=[jf_ 2]
def F102_r1:List AIns:=[jm 3 0,ii 4 (.len true (.t 3)),ii 5 (.bin .geq (.t 4) (.c (.lit (.int .i64 1)))),jm 6 5,jtm 7 6 0,⟨some 8,(some (6,true)),.len true (.t 7)⟩,⟨some 9,(some (6,true)),.bin .leq (.t 8) (.c (.lit (.int .i64 10)))⟩,jp 10 6 9,jm 11 10,jtm 12 11 0,⟨some 13,(some (11,true)),.ixs (.t 12) (.c (.lit (.int .i64 0)))⟩,⟨some 14,(some (11,true)),.bin .geq (.t 13) (.c (.lit (.int .u8 65)))⟩,jp 15 11 14,jm 16 15,jtm 17 16 0,⟨some 18,(some (16,true)),.ixs (.t 17) (.c (.lit (.int .i64 0)))⟩,⟨some 19,(some (16,true)),.bin .leq (.t 18) (.c (.lit (.int .u8 90)))⟩,jp 20 16 19,jm 21 20,jtm 22 21 0,⟨some 23,(some (21,true)),.sls (.t 22) (some (.c (.lit (.int .i64 1)))) none⟩,⟨some 24,(some (21,true)),.call (.f N104_) [(.t 23)]⟩,jp 25 21 24,jm 2 25]
def F102_:AFun:=⟨1,.seq (R F102_r0 [0] []) (.seq (R F102_r1 [2] []) (.ret)),[.t 2]⟩
def F103_r0:List AIns:=[jf_ 2]
def F103_r1:List AIns:=[jm 3 0,ii 4 (.bin .geq (.t 3) (.c (.lit (.int .u8 97)))),jm 5 4,jtm 6 5 0,⟨some 7,(some (5,true)),.bin .leq (.t 6) (.c (.lit (.int .u8 122)))⟩,jp 8 5 7,jm 2 8]
def F103_:AFun:=⟨1,.seq (R F103_r0 [0] []) (.seq (R F103_r1 [2] []) (.ret)),[.t 2]⟩
def F104_r0:List AIns:=[jf_ 2]
def F104_r1:List AIns:=[jc 3 0]
def F104_r2:List AIns:=[jm 4 3,jm 5 0,ii 6 (.len true (.t 5)),jq 7 4 6]
def F104_r4:List AIns:=[jm 10 0,jm 11 3,ii 12 (.ixs (.t 10) (.t 11)),ii 13 (.call (.f N103_) [(.t 12)]),ju 14 13,jm 15 14,jtm 16 15 0,jtm 17 15 3,⟨some 18,(some (15,true)),.ixs (.t 16) (.t 17)⟩,⟨some 19,(some (15,true)),.bin .lss (.t 18) (.c (.lit (.int .u8 48)))⟩,jtm 20 15 19,jfm 21 20 0,jfm 22 20 3,⟨some 23,(some (20,false)),.ixs (.t 21) (.t 22)⟩,⟨some 24,(some (20,false)),.bin .gtr (.t 23) (.c (.lit (.int .u8 57)))⟩,jtP 25 15 20 24,jp 26 15 25]
def F104_r5:List AIns:=[jf_ 2]
def F104_r3:List AIns:=[jm 8 3,jA 9 8 1,jm 3 9]
def F104_l1:AC:=.seq (.seq (R F104_r2 [0,3,7] []) (.cond (.t 7) (.skip) (.exit 0))) (.seq (.block 1 (.seq (R F104_r4 [0,3,26] []) (.cond (.t 26) (.seq (R F104_r5 [2] []) (.ret)) (.skip)))) (R F104_r3 [0,3] []))
def F104_r6:List AIns:=[ii 2 (.mv (.c (.lit (.bool true))))]
def F104_:AFun:=⟨1,.seq (R F104_r0 [0] []) (.seq (.seq (R F104_r1 [0,3] []) (.block 0 (.loop F104_l1))) (.seq (R F104_r6 [2] []) (.ret))),[.t 2]⟩
def F106_r0:List AIns:=[jc 2 0]
def F106_r1:List AIns:=[jm 3 0]
def F106_r2:List AIns:=[jc 2 1]
def F106_r3:List AIns:=[jc 2 0]
def F106_:AFun:=⟨1,.seq (R F106_r0 [0] []) (.seq (.seq (R F106_r1 [3] []) (.cond (.t 3) (.seq (R F106_r2 [2] []) (.ret)) (.skip))) (.seq (R F106_r3 [2] []) (.ret))),[.t 2]⟩
def F107_r0:List AIns:=[jf_ 2]
def F107_r1:List AIns:=[jm 3 0,ii 4 (.bin .geq (.t 3) (.c (.lit (.int .i64 0)))),jm 5 4,jtm 6 5 0,⟨some 7,(some (5,true)),.bin .leq (.t 6) (.c (.lit (.int .i64 1048576)))⟩,jp 8 5 7,jm 2 8]
def F107_:AFun:=⟨1,.seq (R F107_r0 [0] []) (.seq (R F107_r1 [2] []) (.ret)),[.t 2]⟩
def F108_r0:List AIns:=[jL 4 0,jg 5 4,jc 6 0]
def F108_r1:List AIns:=[jq 7 6 5]
def F108_r2:List AIns:=[jx 8 2 4 6,jk 9 2 8,ii 3 (.alloc true [.lit (.int .i64 0),.lit (.int .i64 0)]),jns 2 3 9]
def F108_r3:List AIns:=[ii 10 (.iaa 2 1 (.t 3) (.c (.lit (.int .i64 0)))),jl 11 10,ii 12 (.iaa 2 1 (.t 1) (.t 11)),jL 13 12,ii 14 (.iaa 2 1 (.t 3) (.c (.lit (.int .i64 1)))),jl 15 14,⟨none,none,.dl (.int .i64) (.t 13) (.t 15)⟩]
def F108_r4:List AIns:=[jA 16 6 1,jm 6 16]
def F108_l1:AC:=.seq (R F108_r1 [1,4,5,6,7] []) (.seq (.cond (.t 7) (.skip) (.exit 0)) (.seq (.block 1 (.seq (R F108_r2 [1,3,4,5,6] [3]) (R F108_r3 [1,4,5,6] []))) (R F108_r4 [1,4,5,6] [])))
def F108_:AFun:=⟨2,.seq (R F108_r0 [1,4,5,6] []) (.block 0 (.loop F108_l1)),[]⟩
def F109_r0:List AIns:=[ii 8 (.alloc true [.lit (.string ⟨#[]⟩),.slice .full 2 []]),jf_ 9]
def F109_r1:List AIns:=[jm 10 1,ii 11 (.bin .lss (.t 10) (.c (.lit (.int .i64 1)))),jm 12 11,jfm 13 12 1,jfm 14 12 0,jfh 15 12 14,jfa 16 12 0 15,jfL 17 12 16,jfg 18 12 17,⟨some 19,(some (12,false)),.bin .gtr (.t 13) (.t 18)⟩,jP 20 12 19,jm 21 20,jfm 22 21 0,jfh 23 21 22,jfa 24 21 0 23,jfL 25 21 24,jfm 26 21 1,⟨some 27,(some (21,false)),.bin .sub (.t 26) (.c (.lit (.int .i64 1)))⟩,jfx 28 21 3 25 27,jfa 29 21 1 28,jfl 30 21 29,jfm 31 21 3,⟨some 32,(some (21,false)),.beq true (.t 30) (.t 31)⟩,jP 33 21 32,jm 34 33,jfm 35 34 2,⟨some 36,(some (34,false)),.bin .lss (.t 35) (.c (.lit (.int .i64 0)))⟩,jP 37 34 36,jm 38 37,jfm 39 38 2,jfm 40 38 0,jfh 41 38 40,jfa 42 38 0 41,jfL 43 38 42,jfm 44 38 1,⟨some 45,(some (38,false)),.bin .sub (.t 44) (.c (.lit (.int .i64 1)))⟩,jfx 46 38 3 43 45,jfa 47 38 2 46,jfl 48 38 47,jfg 49 38 48,⟨some 50,(some (38,false)),.bin .geq (.t 39) (.t 49)⟩,jP 51 38 50]
def F109_r2:List AIns:=[ii 52 (.build [.lit (.string ⟨#[]⟩),.slice .full 2 []] []),jns 2 8 52,jf_ 9]
def F109_r3:List AIns:=[jm 53 0,jh 54 53,ja 55 0 54,jL 56 55,jm 57 1,ii 58 (.bin .sub (.t 57) (.c (.lit (.int .i64 1)))),jx 59 3 56 58,ja 60 2 59,jl 61 60,jm 62 2,jx 63 2 61 62,jk 64 2 63,jns 2 8 64,ii 9 (.mv (.c (.lit (.bool true))))]
def F109_:AFun:=⟨4,.seq (R F109_r0 [0,1,2,3,8] [8]) (.seq (.seq (R F109_r1 [0,1,2,8,51] [8]) (.cond (.t 51) (.seq (R F109_r2 [8,9] [8]) (.ret)) (.skip))) (.seq (R F109_r3 [8,9] [8]) (.ret))),[.cell (some 2) 8,.t 9]⟩
def F110_r0:List AIns:=[jb 6 1,jf_ 10]
def F110_r1:List AIns:=[ii 11 (.mv (.c (.slice .full 1 [])))]
def F110_r2:List AIns:=[jm 14 3,jg 15 14,jc 16 0]
def F110_r3:List AIns:=[jq 17 16 15]
def F110_r4:List AIns:=[jx 18 2 14 16,jk 19 2 18,ii 13 (.alloc true [.lit (.int .i64 0),.lit (.bool false)]),jns 2 13 19]
def F110_r5:List AIns:=[jm 20 11,ja 21 1 13,jl 22 21,ii 23 (.call (.f N106_) [(.t 22)]),jB 24 1 23,ii 25 (.app 1 8 (.t 20) (.t 24)),jm 11 25]
def F110_r6:List AIns:=[jA 26 16 1,jm 16 26]
def F110_l1:AC:=.seq (R F110_r3 [0,2,4,6,11,14,15,16,17] [6]) (.seq (.cond (.t 17) (.skip) (.exit 0)) (.seq (.block 1 (.seq (R F110_r4 [0,2,4,6,11,13,14,15,16] [6,13]) (R F110_r5 [0,2,4,6,11,14,15,16] [6]))) (R F110_r6 [0,2,4,6,11,14,15,16] [6])))
def F110_r7:List AIns:=[jm 27 0,jk 28 2 6,jm 29 2,jm 30 4,jm 31 11,ii 32 (.call (.f N111_) [(.t 27),(.t 28),(.t 29),(.t 30),(.t 31)]),jm 10 32]
def F110_:AFun:=⟨5,.seq (R F110_r0 [0,2,3,4,6] [6]) (.seq (R F110_r1 [0,2,3,4,6,11] [6]) (.seq (.seq (R F110_r2 [0,2,4,6,11,14,15,16] [6]) (.block 0 (.loop F110_l1))) (.seq (R F110_r7 [10] []) (.ret)))),[.t 10]⟩
def F111_r0:List AIns:=[jb 6 1,jf_ 10]
def F111_r1:List AIns:=[jm 13 2,jg 14 13,jm 15 4,jg 16 15,ii 17 (.bin .neq (.t 14) (.t 16))]
def F111_r2:List AIns:=[jf_ 10]
def F111_r3:List AIns:=[jm 18 2,jg 19 18,jc 20 0]
def F111_r4:List AIns:=[jq 21 20 19]
def F111_r5:List AIns:=[jm 22 20,jx 23 5 18 20,jk 24 5 23,ii 12 (.alloc true [.lit (.int .i64 0),.lit (.int .i64 0),.lit (.int .i64 0),.slice .full 5 [],.slice .full 7 []]),jm 11 22,jns 5 12 24]
def F111_r6:List AIns:=[ja 25 0 12,jl 26 25,ii 27 (.call (.f N62_) [(.t 26)]),jm 28 4,jm 29 11,jx 30 1 28 29,jl 31 30,ii 32 (.bin .neq (.t 27) (.t 31)),jm 33 32,jfm 34 33 0,jfk 35 33 2 6,jfk 36 33 5 12,jfm 37 33 3,jfA 38 33 37 1,⟨some 39,(some (33,false)),.call (.f N63_) [(.t 34),(.t 35),(.t 36),(.t 38)]⟩,jfu 40 33 39,jP 41 33 40]
def F111_r7:List AIns:=[jf_ 10]
def F111_r8:List AIns:=[jA 42 20 1,jm 20 42]
def F111_l1:AC:=.seq (R F111_r4 [0,3,4,6,18,19,20,21] [6]) (.seq (.cond (.t 21) (.skip) (.exit 0)) (.seq (.block 1 (.seq (R F111_r5 [0,3,4,6,11,12,18,19,20] [6,12]) (.seq (R F111_r6 [0,3,4,6,18,19,20,41] [6]) (.cond (.t 41) (.seq (R F111_r7 [10] []) (.ret)) (.skip))))) (R F111_r8 [0,3,4,6,18,19,20] [6])))
def F111_r9:List AIns:=[ii 10 (.mv (.c (.lit (.bool true))))]
def F111_:AFun:=⟨5,.seq (R F111_r0 [0,2,3,4,6] [6]) (.seq (.seq (R F111_r1 [0,2,3,4,6,17] [6]) (.cond (.t 17) (.seq (R F111_r2 [10] []) (.ret)) (.skip))) (.seq (.seq (R F111_r3 [0,3,4,6,18,19,20] [6]) (.block 0 (.loop F111_l1))) (.seq (R F111_r9 [10] []) (.ret)))),[.t 10]⟩
def F112_r0:List AIns:=[jb 5 1,jb 6 2,jf_ 8]
def F112_r1:List AIns:=[jm 16 0,jh 17 16,ja 18 0 17,jL 19 18,ja 20 2 6,jl 21 20,ii 22 (.bin .sub (.t 21) (.c (.lit (.int .i64 1)))),jx 23 3 19 22,ja 24 2 23,jl 25 24,jm 9 25]
def F112_r2:List AIns:=[ja 26 4 6,jl 27 26,jg 28 27,jm 29 9,jg 30 29,ii 31 (.bin .neq (.t 28) (.t 30))]
def F112_r3:List AIns:=[jf_ 8]
def F112_r4:List AIns:=[ja 32 4 6,jl 33 32,jg 34 33,jc 35 0]
def F112_r5:List AIns:=[jq 36 35 34]
def F112_r6:List AIns:=[jm 37 35,jx 38 7 33 35,jk 39 7 38,ii 11 (.alloc true [.slice .full 1 [],.slice .full 1 [],.lit (.int .i64 0),.lit (.int .i64 0),.lit (.int .i64 0),.slice .full 5 [],.slice .full 7 []]),jm 10 37,jns 7 11 39]
def F112_r7:List AIns:=[ja 40 0 11,jl 41 40,jg 42 41,jm 43 9,jm 44 10,jx 45 2 43 44,ja 46 1 45,jl 47 46,jg 48 47,ii 49 (.bin .neq (.t 42) (.t 48)),jm 50 49,jfa 51 50 0 11,jfl 52 50 51,jfa 53 50 1 11,jfl 54 50 53,⟨some 55,(some (50,false)),.call (.f N58_) [(.t 52),(.t 54)]⟩,jfu 56 50 55,jP 57 50 56]
def F112_r8:List AIns:=[jf_ 8]
def F112_r9:List AIns:=[jm 58 9,jm 59 10,jx 60 2 58 59,ja 61 1 60,jl 62 61,jg 63 62,jc 64 0]
def F112_r10:List AIns:=[jq 65 64 63]
def F112_r11:List AIns:=[jm 66 64,jx 67 2 62 64,jk 68 2 67,ii 13 (.alloc true [.lit (.int .i64 0),.lit (.bool false)]),jm 12 66,jns 2 13 68]
def F112_r12:List AIns:=[ja 69 1 11,jl 70 69,jm 71 12,jx 72 1 70 71,jl 73 72,ja 74 1 13,jl 75 74,ii 76 (.beq true (.t 73) (.t 75))]
def F112_r13:List AIns:=[jf_ 8]
def F112_r14:List AIns:=[jA 77 64 1,jm 64 77]
def F112_l2:AC:=.seq (R F112_r10 [0,3,5,9,11,33,34,35,62,63,64,65] [5,11]) (.seq (.cond (.t 65) (.skip) (.exit 2)) (.seq (.block 3 (.seq (R F112_r11 [0,3,5,9,11,12,13,33,34,35,62,63,64] [5,11,13]) (.seq (R F112_r12 [0,3,5,9,11,33,34,35,62,63,64,76] [5,11]) (.cond (.t 76) (.seq (R F112_r13 [8] []) (.ret)) (.skip))))) (R F112_r14 [0,3,5,9,11,33,34,35,62,63,64] [5,11])))
def F112_r15:List AIns:=[jk 78 2 5,ja 79 0 11,jl 80 79,ja 81 1 11,jl 82 81,ii 83 (.call (.f N60_) [(.t 78),(.t 80),(.t 82)]),jm 14 83]
def F112_r16:List AIns:=[ja 84 2 11,ja 85 0 84,jl 86 85,ii 87 (.call (.f N62_) [(.t 86)]),je 88 87 2,jm 89 88,jtm 90 89 0,jtk 91 89 2 5,jta 92 89 2 11,jtk 93 89 5 92,jtm 94 89 3,jtA 95 89 94 1,⟨some 96,(some (89,true)),.call (.f N63_) [(.t 90),(.t 91),(.t 93),(.t 95)]⟩,jp 97 89 96,jm 15 97]
def F112_r17:List AIns:=[jm 98 14,ii 99 (.call (.t 98) [])]
def F112_r18:List AIns:=[jm 100 15,ju 101 100]
def F112_r19:List AIns:=[jf_ 8]
def F112_r20:List AIns:=[jA 102 35 1,jm 35 102]
def F112_l1:AC:=.seq (R F112_r5 [0,3,5,9,33,34,35,36] [5]) (.seq (.cond (.t 36) (.skip) (.exit 0)) (.seq (.block 1 (.seq (R F112_r6 [0,3,5,9,10,11,33,34,35] [5,11]) (.seq (.seq (R F112_r7 [0,3,5,9,10,11,33,34,35,57] [5,11]) (.cond (.t 57) (.seq (R F112_r8 [8] []) (.ret)) (.skip))) (.seq (.seq (R F112_r9 [0,3,5,9,11,33,34,35,62,63,64] [5,11]) (.block 2 (.loop F112_l2))) (.seq (R F112_r15 [0,3,5,9,11,14,33,34,35] [5,11]) (.seq (R F112_r16 [0,3,5,9,14,15,33,34,35] [5]) (.seq (R F112_r17 [0,3,5,9,15,33,34,35] [5]) (.seq (R F112_r18 [0,3,5,9,33,34,35,101] [5]) (.cond (.t 101) (.seq (R F112_r19 [8] []) (.ret)) (.skip)))))))))) (R F112_r20 [0,3,5,9,33,34,35] [5])))
def F112_r21:List AIns:=[ii 8 (.mv (.c (.lit (.bool true))))]
def F112_:AFun:=⟨4,.seq (R F112_r0 [0,3,5,6] [5,6]) (.seq (R F112_r1 [0,3,5,6,9] [5,6]) (.seq (.seq (R F112_r2 [0,3,5,6,9,31] [5,6]) (.cond (.t 31) (.seq (R F112_r3 [8] []) (.ret)) (.skip))) (.seq (.seq (R F112_r4 [0,3,5,9,33,34,35] [5]) (.block 0 (.loop F112_l1))) (.seq (R F112_r21 [8] []) (.ret))))),[.t 8]⟩
def F113_r0:List AIns:=[jf_ 4]
def F113_r1:List AIns:=[jm 5 0,jm 6 1,ii 7 (.call (.f N148_) [(.t 5),(.t 6)]),ii 8 (.bin .geq (.t 7) (.c (.lit (.int .i64 0)))),jm 4 8]
def F113_:AFun:=⟨2,.seq (R F113_r0 [0,1] []) (.seq (R F113_r1 [4] []) (.ret)),[.t 4]⟩
def F114_r0:List AIns:=[jb 1 0,jf_ 2]
def F114_r1:List AIns:=[ja 3 0 1,jl 4 3,je 5 4 0,jm 2 5]
def F114_:AFun:=⟨1,.seq (R F114_r0 [1] [1]) (.seq (R F114_r1 [2] []) (.ret)),[.t 2]⟩
def F115_r0:List AIns:=[jf_ 4]
def F115_r1:List AIns:=[jm 5 0,jm 6 1,ii 7 (.call (.f N149_) [(.t 5),(.t 6)]),ii 8 (.bin .geq (.t 7) (.c (.lit (.int .i64 0)))),jm 4 8]
def F115_:AFun:=⟨2,.seq (R F115_r0 [0,1] []) (.seq (R F115_r1 [4] []) (.ret)),[.t 4]⟩
def F116_r0:List AIns:=[jb 1 0,jf_ 2]
def F116_r1:List AIns:=[jk 3 5 1,ii 4 (.call (.f N65_) [(.t 3)]),ju 5 4,jm 2 5]
def F116_:AFun:=⟨1,.seq (R F116_r0 [1] [1]) (.seq (R F116_r1 [2] []) (.ret)),[.t 2]⟩
def F117_r0:List AIns:=[jf_ 4]
def F117_r1:List AIns:=[jm 5 0,jm 6 1,ii 7 (.call (.f N150_) [(.t 5),(.t 6)]),ii 8 (.bin .geq (.t 7) (.c (.lit (.int .i64 0)))),jm 4 8]
def F117_:AFun:=⟨2,.seq (R F117_r0 [0,1] []) (.seq (R F117_r1 [4] []) (.ret)),[.t 4]⟩
def F118_r0:List AIns:=[jb 1 0,jf_ 2]
def F118_r1:List AIns:=[ja 3 2 1,jk 4 5 3,ii 5 (.call (.f N65_) [(.t 4)]),ju 6 5,jm 2 6]
def F118_:AFun:=⟨1,.seq (R F118_r0 [1] [1]) (.seq (R F118_r1 [2] []) (.ret)),[.t 2]⟩
def F127_r0:List AIns:=[jb 3 1,jc 4 0,jf_ 5]
def F127_r1:List AIns:=[jm 9 0,ja 10 0 3,jl 11 10,je 12 11 5,ii 13 (.call (.f N136_) [(.t 12)]),jh 14 9,ja 15 2 14,ii 16 (.iaa 2 1 (.t 15) (.t 13)),jL 17 16,ja 18 1 3,jl 19 18,ii 20 (.lk (.int .i64) (.lit (.int .i64 0)) true (.t 17) (.t 19)),jm 8 20,jz 21 8 0,jz 22 8 1,jm 6 21,jm 7 22]
def F127_r2:List AIns:=[jm 23 6,jm 24 7,jm 4 23,jm 5 24]
def F127_:AFun:=⟨2,.seq (R F127_r0 [0,3] [3]) (.seq (R F127_r1 [6,7] []) (.seq (R F127_r2 [4,5] []) (.ret))),[.t 4,.t 5]⟩
def F128_r0:List AIns:=[jb 3 1,jc 4 0,jf_ 5]
def F128_r1:List AIns:=[jc 4 0,ii 5 (.mv (.c (.lit (.bool true))))]
def F128_:AFun:=⟨2,.seq (R F128_r0 [] []) (.seq (R F128_r1 [4,5] []) (.ret)),[.t 4,.t 5]⟩
def F129_r0:List AIns:=[jb 3 1,jc 4 0,jf_ 5]
def F129_r1:List AIns:=[ja 6 2 3,jl 7 6,jm 8 0,ja 9 3 3,jl 10 9,jm 11 0,jh 12 11,ja 13 0 12,ja 14 0 13,jL 15 14,ja 16 2 3,jl 17 16,ii 18 (.bin .sub (.t 17) (.c (.lit (.int .i64 1)))),jx 19 3 15 18,ja 20 2 19,jl 21 20,ja 22 1 3,jl 23 22,jx 24 2 21 23,ja 25 1 24,jl 26 25,ii 27 (.call (.f N153_) [(.t 26)]),ii 28 (.call (.f N152_) [(.t 8),(.t 10),(.t 27)]),jm 4 7,jm 5 28]
def F129_:AFun:=⟨2,.seq (R F129_r0 [0,3] [3]) (.seq (R F129_r1 [4,5] []) (.ret)),[.t 4,.t 5]⟩
def F130_r0:List AIns:=[jb 3 1,jc 4 0,jf_ 5]
def F130_r1:List AIns:=[jm 6 0,ja 7 1 3,jl 8 7,jB 9 1 8,ja 10 2 3,jl 11 10,ja 12 0 3,jl 13 12,je 14 13 3,ii 15 (.build [.lit (.int .i64 0),.lit (.bool false)] [(0,1,(.t 11)),(1,1,(.t 14))]),jB 16 2 15,ii 17 (.call (.f N85_) [(.t 6),(.t 9),(.t 16)]),⟨none,none,.dfr (.t 17) []⟩]
def F130_r2:List AIns:=[ja 18 2 3,jl 19 18,jm 20 0,ja 21 3 3,jl 22 21,ii 23 (.bsl 1 [(.c (.lit (.int .i64 0)))]),ii 24 (.call (.f N152_) [(.t 20),(.t 22),(.t 23)]),jm 4 19,jm 5 24]
def F130_:AFun:=⟨2,.seq (R F130_r0 [0,3] [3]) (.seq (R F130_r1 [0,3] [3]) (.seq (R F130_r2 [4,5] []) (.ret))),[.t 4,.t 5]⟩
def F131_r0:List AIns:=[jb 3 1,jc 4 0,jf_ 5]
def F131_r1:List AIns:=[ja 10 4 3,jl 11 10,jg 12 11,jc 13 0]
def F131_r2:List AIns:=[jq 14 13 12]
def F131_r3:List AIns:=[jm 15 13,jx 16 7 11 13,jk 17 7 16,ii 7 (.alloc true [.slice .full 1 [],.slice .full 1 [],.lit (.int .i64 0),.lit (.int .i64 0),.lit (.int .i64 0),.slice .full 5 [],.slice .full 7 []]),jm 6 15,jns 7 7 17]
def F131_r4:List AIns:=[jm 18 0,ja 19 0 7,jl 20 19,jm 21 0,jh 22 21,ja 23 0 22,ja 24 0 23,jL 25 24,ja 26 2 3,jl 27 26,ii 28 (.bin .sub (.t 27) (.c (.lit (.int .i64 1)))),jx 29 3 25 28,ja 30 2 29,jl 31 30,jm 32 6,jx 33 2 31 32,ja 34 1 33,jl 35 34,ii 36 (.call (.f N85_) [(.t 18),(.t 20),(.t 35)]),jm 8 36]
def F131_r5:List AIns:=[jm 37 0,ja 38 2 7,jk 39 5 38,jB 40 5 39,ii 41 (.bsl 1 [(.c (.lit (.int .i64 0)))]),ii 42 (.call (.f N152_) [(.t 37),(.t 40),(.t 41)]),jm 9 42]
def F131_r6:List AIns:=[jm 43 8,ii 44 (.call (.t 43) [])]
def F131_r7:List AIns:=[jm 45 9,ju 46 45]
def F131_r8:List AIns:=[jc 4 0,jf_ 5]
def F131_r9:List AIns:=[jA 47 13 1,jm 13 47]
def F131_l1:AC:=.seq (R F131_r2 [0,3,11,12,13,14] [3]) (.seq (.cond (.t 14) (.skip) (.exit 0)) (.seq (.block 1 (.seq (R F131_r3 [0,3,6,7,11,12,13] [3,7]) (.seq (R F131_r4 [0,3,7,8,11,12,13] [3,7]) (.seq (R F131_r5 [0,3,8,9,11,12,13] [3]) (.seq (R F131_r6 [0,3,9,11,12,13] [3]) (.seq (R F131_r7 [0,3,11,12,13,46] [3]) (.cond (.t 46) (.seq (R F131_r8 [4,5] []) (.ret)) (.skip)))))))) (R F131_r9 [0,3,11,12,13] [3])))
def F131_r10:List AIns:=[ja 48 2 3,jl 49 48,jm 4 49,ii 5 (.mv (.c (.lit (.bool true))))]
def F131_:AFun:=⟨2,.seq (R F131_r0 [0,3] [3]) (.seq (.seq (R F131_r1 [0,3,11,12,13] [3]) (.block 0 (.loop F131_l1))) (.seq (R F131_r10 [4,5] []) (.ret))),[.t 4,.t 5]⟩
def F132_r0:List AIns:=[jb 3 1,jc 4 0,jf_ 5]
def F132_r1:List AIns:=[jm 6 0,ja 7 3 3,jl 8 7,ja 9 2 3,jl 10 9,ja 11 2 3,jl 12 11,ii 13 (.bsl 1 [(.t 10),(.t 12)]),ii 14 (.call (.f N152_) [(.t 6),(.t 8),(.t 13)]),jc 4 0,jm 5 14]
def F132_:AFun:=⟨2,.seq (R F132_r0 [0,3] [3]) (.seq (R F132_r1 [4,5] []) (.ret)),[.t 4,.t 5]⟩
def F133_r0:List AIns:=[jb 3 1,jc 4 0,jf_ 5]
def F133_r1:List AIns:=[jm 6 0,ja 7 3 3,jl 8 7,ii 9 (.bsl 1 [(.c (.lit (.int .i64 0))),(.c (.lit (.int .i64 0))),(.c (.lit (.int .i64 0)))]),ii 10 (.call (.f N152_) [(.t 6),(.t 8),(.t 9)]),jc 4 0,jm 5 10]
def F133_:AFun:=⟨2,.seq (R F133_r0 [0,3] [3]) (.seq (R F133_r1 [4,5] []) (.ret)),[.t 4,.t 5]⟩
def F134_r0:List AIns:=[jb 3 1,jc 4 0,jf_ 5]
def F134_r1:List AIns:=[jm 6 0,ja 7 3 3,jl 8 7,ii 9 (.bsl 1 [(.c (.lit (.int .i64 0))),(.c (.lit (.int .i64 0))),(.c (.lit (.int .i64 0)))]),ii 10 (.call (.f N152_) [(.t 6),(.t 8),(.t 9)]),jc 4 0,jm 5 10]
def F134_:AFun:=⟨2,.seq (R F134_r0 [0,3] [3]) (.seq (R F134_r1 [4,5] []) (.ret)),[.t 4,.t 5]⟩
def F135_r0:List AIns:=[jb 3 1,jc 4 0,jf_ 5]
def F135_r1:List AIns:=[jm 6 0,ja 7 3 3,jl 8 7,jm 9 0,jh 10 9,ja 11 0 10,ja 12 1 11,jL 13 12,ja 14 1 3,jl 15 14,jx 16 8 13 15,ja 17 1 16,jl 18 17,ii 19 (.call (.f N153_) [(.t 18)]),ii 20 (.call (.f N152_) [(.t 6),(.t 8),(.t 19)]),jc 4 0,jm 5 20]
def F135_:AFun:=⟨2,.seq (R F135_r0 [0,3] [3]) (.seq (R F135_r1 [4,5] []) (.ret)),[.t 4,.t 5]⟩
def F136_r0:List AIns:=[jc 2 0]
def F136_r1:List AIns:=[jm 3 0]
def F136_r2:List AIns:=[jc 2 1]
def F136_r3:List AIns:=[jc 2 0]
def F136_:AFun:=⟨1,.seq (R F136_r0 [0] []) (.seq (.seq (R F136_r1 [3] []) (.cond (.t 3) (.seq (R F136_r2 [2] []) (.ret)) (.skip))) (.seq (R F136_r3 [2] []) (.ret))),[.t 2]⟩
def F137_r0:List AIns:=[jL 4 0,jg 5 4,ii 6 (.bin .sub (.t 5) (.c (.lit (.int .i64 1)))),jm 2 6]
def F137_r1:List AIns:=[jm 7 2,ii 8 (.bin .geq (.t 7) (.c (.lit (.int .i64 0))))]
def F137_r3:List AIns:=[jL 11 0,jm 12 2,jx 13 4 11 12,jk 14 4 13,ii 3 (.alloc true [.lit (.int .i64 0),.lit (.int .i64 0),.lit (.int .i64 0),.lit (.bool false)]),jns 4 3 14]
def F137_r4:List AIns:=[jL 15 1,ja 16 0 3,jl 17 16,jh 18 15,ja 19 2 18,ii 20 (.iaa 2 1 (.t 19) (.t 17)),jL 21 20,ja 22 1 3,jl 23 22,⟨none,none,.dl (.int .i64) (.t 21) (.t 23)⟩]
def F137_r5:List AIns:=[ja 24 3 3,jl 25 24]
def F137_r6:List AIns:=[jL 26 1,ja 27 0 3,jl 28 27,jh 29 26,ja 30 2 29,ii 31 (.iaa 2 1 (.t 30) (.t 28)),jL 32 31,ja 33 1 3,jl 34 33,ja 35 2 3,jl 36 35,⟨none,none,.mu (.int .i64) (.t 32) (.t 34) (.t 36)⟩]
def F137_r2:List AIns:=[jm 9 2,ii 10 (.bin .sub (.t 9) (.c (.lit (.int .i64 1)))),jm 2 10]
def F137_l1:AC:=.seq (.seq (R F137_r1 [0,1,2,8] []) (.cond (.t 8) (.skip) (.exit 0))) (.seq (.block 1 (.seq (R F137_r3 [0,1,2,3] [3]) (.seq (R F137_r4 [0,1,2,3] [3]) (.seq (R F137_r5 [0,1,2,3,25] [3]) (.cond (.t 25) (R F137_r6 [0,1,2] []) (.skip)))))) (R F137_r2 [0,1,2] []))
def F137_:AFun:=⟨2,.seq (R F137_r0 [0,1,2] []) (.block 0 (.loop F137_l1)),[]⟩
def F148_r0:List AIns:=[jc 4 0]
def F148_r1:List AIns:=[jm 6 0,jg 7 6,jc 8 0]
def F148_r2:List AIns:=[jq 9 8 7]
def F148_r3:List AIns:=[jm 10 8,jm 5 10]
def F148_r4:List AIns:=[jm 11 1,jm 12 0,jm 13 5,jx 14 2 12 13,jk 15 2 14,ii 16 (.call (.t 11) [(.t 15)])]
def F148_r5:List AIns:=[jm 17 5,jm 4 17]
def F148_r6:List AIns:=[jA 18 8 1,jm 8 18]
def F148_l1:AC:=.seq (R F148_r2 [0,1,7,8,9] []) (.seq (.cond (.t 9) (.skip) (.exit 0)) (.seq (.block 1 (.seq (R F148_r3 [0,1,5,7,8] []) (.seq (R F148_r4 [0,1,5,7,8,16] []) (.cond (.t 16) (.seq (R F148_r5 [4] []) (.ret)) (.skip))))) (R F148_r6 [0,1,7,8] [])))
def F148_r7:List AIns:=[ii 4 (.mv (.c (.lit (.int .i64 (-1)))))]
def F148_:AFun:=⟨2,.seq (R F148_r0 [0,1] []) (.seq (.seq (R F148_r1 [0,1,7,8] []) (.block 0 (.loop F148_l1))) (.seq (R F148_r7 [4] []) (.ret))),[.t 4]⟩
def F149_r0:List AIns:=[jc 4 0]
def F149_r1:List AIns:=[jm 6 0,jg 7 6,jc 8 0]
def F149_r2:List AIns:=[jq 9 8 7]
def F149_r3:List AIns:=[jm 10 8,jm 5 10]
def F149_r4:List AIns:=[jm 11 1,jm 12 0,jm 13 5,jx 14 5 12 13,jk 15 5 14,ii 16 (.call (.t 11) [(.t 15)])]
def F149_r5:List AIns:=[jm 17 5,jm 4 17]
def F149_r6:List AIns:=[jA 18 8 1,jm 8 18]
def F149_l1:AC:=.seq (R F149_r2 [0,1,7,8,9] []) (.seq (.cond (.t 9) (.skip) (.exit 0)) (.seq (.block 1 (.seq (R F149_r3 [0,1,5,7,8] []) (.seq (R F149_r4 [0,1,5,7,8,16] []) (.cond (.t 16) (.seq (R F149_r5 [4] []) (.ret)) (.skip))))) (R F149_r6 [0,1,7,8] [])))
def F149_r7:List AIns:=[ii 4 (.mv (.c (.lit (.int .i64 (-1)))))]
def F149_:AFun:=⟨2,.seq (R F149_r0 [0,1] []) (.seq (.seq (R F149_r1 [0,1,7,8] []) (.block 0 (.loop F149_l1))) (.seq (R F149_r7 [4] []) (.ret))),[.t 4]⟩
def F150_r0:List AIns:=[jc 4 0]
def F150_r1:List AIns:=[jm 6 0,jg 7 6,jc 8 0]
def F150_r2:List AIns:=[jq 9 8 7]
def F150_r3:List AIns:=[jm 10 8,jm 5 10]
def F150_r4:List AIns:=[jm 11 1,jm 12 0,jm 13 5,jx 14 7 12 13,jk 15 7 14,ii 16 (.call (.t 11) [(.t 15)])]
def F150_r5:List AIns:=[jm 17 5,jm 4 17]
def F150_r6:List AIns:=[jA 18 8 1,jm 8 18]
def F150_l1:AC:=.seq (R F150_r2 [0,1,7,8,9] []) (.seq (.cond (.t 9) (.skip) (.exit 0)) (.seq (.block 1 (.seq (R F150_r3 [0,1,5,7,8] []) (.seq (R F150_r4 [0,1,5,7,8,16] []) (.cond (.t 16) (.seq (R F150_r5 [4] []) (.ret)) (.skip))))) (R F150_r6 [0,1,7,8] [])))
def F150_r7:List AIns:=[ii 4 (.mv (.c (.lit (.int .i64 (-1)))))]
def F150_:AFun:=⟨2,.seq (R F150_r0 [0,1] []) (.seq (.seq (R F150_r1 [0,1,7,8] []) (.block 0 (.loop F150_l1))) (.seq (R F150_r7 [4] []) (.ret))),[.t 4]⟩
def F152_r0:List AIns:=[jf_ 6]
def F152_r1:List AIns:=[jm 11 1,jg 12 11,jc 13 0]
def F152_r2:List AIns:=[jq 14 13 12]
def F152_r3:List AIns:=[jm 15 13,jx 16 5 11 13,jk 17 5 16,ii 8 (.alloc true [.lit (.int .i64 0),.lit (.int .i64 0),.lit (.int .i64 0),.slice .full 5 [],.slice .full 7 []]),jm 7 15,jns 5 8 17]
def F152_r4:List AIns:=[jm 19 0,jk 20 5 8,ii 21 (.call (.f N86_) [(.t 19),(.t 20)]),jm 18 21,jz 22 18 0,jz 23 18 1,jm 9 22,jm 10 23]
def F152_r5:List AIns:=[jm 24 10,ju 25 24,jm 26 25,jfm 27 26 9,jfm 28 26 2,jfm 29 26 7,jfx 30 26 1 28 29,jfl 31 26 30,⟨some 32,(some (26,false)),.bin .neq (.t 27) (.t 31)⟩,jP 33 26 32]
def F152_r6:List AIns:=[jf_ 6]
def F152_r7:List AIns:=[jA 34 13 1,jm 13 34]
def F152_l1:AC:=.seq (R F152_r2 [0,2,11,12,13,14] []) (.seq (.cond (.t 14) (.skip) (.exit 0)) (.seq (.block 1 (.seq (R F152_r3 [0,2,7,8,11,12,13] [8]) (.seq (R F152_r4 [0,2,7,9,10,11,12,13] []) (.seq (R F152_r5 [0,2,11,12,13,33] []) (.cond (.t 33) (.seq (R F152_r6 [6] []) (.ret)) (.skip)))))) (R F152_r7 [0,2,11,12,13] [])))
def F152_r8:List AIns:=[ii 6 (.mv (.c (.lit (.bool true))))]
def F152_:AFun:=⟨3,.seq (R F152_r0 [0,1,2] []) (.seq (.seq (R F152_r1 [0,2,11,12,13] []) (.block 0 (.loop F152_l1))) (.seq (R F152_r8 [6] []) (.ret))),[.t 6]⟩
def F153_r0:List AIns:=[ii 2 (.mv (.c (.slice .full 1 [])))]
def F153_r1:List AIns:=[ii 3 (.mv (.c (.slice .full 1 [])))]
def F153_r2:List AIns:=[jm 6 0,jg 7 6,jc 8 0]
def F153_r3:List AIns:=[jq 9 8 7]
def F153_r4:List AIns:=[jx 10 2 6 8,jk 11 2 10,ii 5 (.alloc true [.lit (.int .i64 0),.lit (.bool false)]),jns 2 5 11]
def F153_r5:List AIns:=[jm 12 3,ja 13 0 5,jl 14 13,jB 15 1 14,ii 16 (.app 1 8 (.t 12) (.t 15)),jm 3 16]
def F153_r6:List AIns:=[jA 17 8 1,jm 8 17]
def F153_l1:AC:=.seq (R F153_r3 [3,6,7,8,9] []) (.seq (.cond (.t 9) (.skip) (.exit 0)) (.seq (.block 1 (.seq (R F153_r4 [3,5,6,7,8] [5]) (R F153_r5 [3,6,7,8] []))) (R F153_r6 [3,6,7,8] [])))
def F153_r7:List AIns:=[jm 18 3,jm 2 18]
def F153_:AFun:=⟨1,.seq (R F153_r0 [0] []) (.seq (R F153_r1 [0,3] []) (.seq (.seq (R F153_r2 [3,6,7,8] []) (.block 0 (.loop F153_l1))) (.seq (R F153_r7 [2] []) (.ret)))),[.t 2]⟩
def tab:List (Nat × AFun):=[(N5_,F5_),(N6_,F6_),(N8_,F8_),(N9_,F9_),(N11_,F11_),(N16_,F16_),(N17_,F17_),(N19_,F19_),(N20_,F20_),(N21_,F21_),(N22_,F22_),(N23_,F23_),(N24_,F24_),(N25_,F25_),(N26_,F26_),(N27_,F27_),(N28_,F28_),(N30_,F30_),(N38_,F38_),(N39_,F39_),(N40_,F40_),(N41_,F41_),(N49_,F49_),(N50_,F50_),(N56_,F56_),(N57_,F57_),(N58_,F58_),(N59_,F59_),(N60_,F60_),(N61_,F61_),(N62_,F62_),(N63_,F63_),(N64_,F64_),(N65_,F65_),(N66_,F66_),(N67_,F67_),(N68_,F68_),(N69_,F69_),(N70_,F70_),(N71_,F71_),(N81_,F81_),(N84_,F84_),(N85_,F85_),(N86_,F86_),(N101_,F101_),(N102_,F102_),(N103_,F103_),(N104_,F104_),(N106_,F106_),(N107_,F107_),(N108_,F108_),(N109_,F109_),(N110_,F110_),(N111_,F111_),(N112_,F112_),(N113_,F113_),(N114_,F114_),(N115_,F115_),(N116_,F116_),(N117_,F117_),(N118_,F118_),(N127_,F127_),(N128_,F128_),(N129_,F129_),(N130_,F130_),(N131_,F131_),(N132_,F132_),(N133_,F133_),(N134_,F134_),(N135_,F135_),(N136_,F136_),(N137_,F137_),(N148_,F148_),(N149_,F149_),(N150_,F150_),(N152_,F152_),(N153_,F153_)]
def fnOf (n:Nat):Option AFun:=(tab.find? fun x=>x.1 == n).map (·.2)
end Go.Sim.Kd
namespace Go.Sim.Kd
open Go Go.Sim
def hasInt (q:Option AV):Bool :=
 match q with
 | some (.lit (.int .i64 _))=>true
 | _=>false
def containsOv (args:List AV) (s:Sg):Option (List AV × Sg) :=
 match args with
 | [.lit (.string a),.lit (.string b)]=>if a.size < 4294967281 ∧ hasInt (s.Q 2 0)=true then some ([.lit (.bool (Lib.contains a.data.toList b.data.toList))],s) else none
 | _=>none
def dualsL:List Int:=[5,1,6,7,8,0,2,3,4,9,10,11,12,13,14]
def isI (q:Option AV) (n:Int):Bool :=
 match q with
 | some (.lit (.int .i64 m))=>decide (m=n)
 | _=>false
def dualsIn (s:Sg):Bool:=dualsL.zipIdx.all fun x=>isI (s.Q 0 x.2) x.1
def awakeOv (args:List AV) (s:Sg):Option (List AV × Sg):=if beqL (beqA dp) args []=true ∧ (hasInt (s.Q 2 0) && dualsIn s)=true then some ([.lit (.bool true)],s) else none
def ov (n:Nat):Option (List AV → Sg → Option (List AV × Sg)):=if n=N105_ then some containsOv else if n=N29_ then some (cloneOv 1 8) else if n=N7_ then some awakeOv else none
def p:Pg:=⟨fnOf,ov⟩
theorem f5_:p.fn N5_=some F5_:=rfl
theorem f6_:p.fn N6_=some F6_:=rfl
theorem f8_:p.fn N8_=some F8_:=rfl
theorem f9_:p.fn N9_=some F9_:=rfl
theorem f11_:p.fn N11_=some F11_:=rfl
theorem f16_:p.fn N16_=some F16_:=rfl
theorem f17_:p.fn N17_=some F17_:=rfl
theorem f19_:p.fn N19_=some F19_:=rfl
theorem f20_:p.fn N20_=some F20_:=rfl
theorem f21_:p.fn N21_=some F21_:=rfl
theorem f22_:p.fn N22_=some F22_:=rfl
theorem f23_:p.fn N23_=some F23_:=rfl
theorem f24_:p.fn N24_=some F24_:=rfl
theorem f25_:p.fn N25_=some F25_:=rfl
theorem f26_:p.fn N26_=some F26_:=rfl
theorem f27_:p.fn N27_=some F27_:=rfl
theorem f28_:p.fn N28_=some F28_:=rfl
theorem f30_:p.fn N30_=some F30_:=rfl
theorem f38_:p.fn N38_=some F38_:=rfl
theorem f39_:p.fn N39_=some F39_:=rfl
theorem f40_:p.fn N40_=some F40_:=rfl
theorem f41_:p.fn N41_=some F41_:=rfl
theorem f49_:p.fn N49_=some F49_:=rfl
theorem f50_:p.fn N50_=some F50_:=rfl
theorem f56_:p.fn N56_=some F56_:=rfl
theorem f57_:p.fn N57_=some F57_:=rfl
theorem f58_:p.fn N58_=some F58_:=rfl
theorem f59_:p.fn N59_=some F59_:=rfl
theorem f60_:p.fn N60_=some F60_:=rfl
theorem f61_:p.fn N61_=some F61_:=rfl
theorem f62_:p.fn N62_=some F62_:=rfl
theorem f63_:p.fn N63_=some F63_:=rfl
theorem f64_:p.fn N64_=some F64_:=rfl
theorem f65_:p.fn N65_=some F65_:=rfl
theorem f66_:p.fn N66_=some F66_:=rfl
theorem f67_:p.fn N67_=some F67_:=rfl
theorem f68_:p.fn N68_=some F68_:=rfl
theorem f69_:p.fn N69_=some F69_:=rfl
theorem f70_:p.fn N70_=some F70_:=rfl
theorem f71_:p.fn N71_=some F71_:=rfl
theorem f81_:p.fn N81_=some F81_:=rfl
theorem f84_:p.fn N84_=some F84_:=rfl
theorem f85_:p.fn N85_=some F85_:=rfl
theorem f86_:p.fn N86_=some F86_:=rfl
theorem f101_:p.fn N101_=some F101_:=rfl
theorem f102_:p.fn N102_=some F102_:=rfl
theorem f103_:p.fn N103_=some F103_:=rfl
theorem f104_:p.fn N104_=some F104_:=rfl
theorem f106_:p.fn N106_=some F106_:=rfl
theorem f107_:p.fn N107_=some F107_:=rfl
theorem f108_:p.fn N108_=some F108_:=rfl
theorem f109_:p.fn N109_=some F109_:=rfl
theorem f110_:p.fn N110_=some F110_:=rfl
theorem f111_:p.fn N111_=some F111_:=rfl
theorem f112_:p.fn N112_=some F112_:=rfl
theorem f113_:p.fn N113_=some F113_:=rfl
theorem f114_:p.fn N114_=some F114_:=rfl
theorem f115_:p.fn N115_=some F115_:=rfl
theorem f116_:p.fn N116_=some F116_:=rfl
theorem f117_:p.fn N117_=some F117_:=rfl
theorem f118_:p.fn N118_=some F118_:=rfl
theorem f127_:p.fn N127_=some F127_:=rfl
theorem f128_:p.fn N128_=some F128_:=rfl
theorem f129_:p.fn N129_=some F129_:=rfl
theorem f130_:p.fn N130_=some F130_:=rfl
theorem f131_:p.fn N131_=some F131_:=rfl
theorem f132_:p.fn N132_=some F132_:=rfl
theorem f133_:p.fn N133_=some F133_:=rfl
theorem f134_:p.fn N134_=some F134_:=rfl
theorem f135_:p.fn N135_=some F135_:=rfl
theorem f136_:p.fn N136_=some F136_:=rfl
theorem f137_:p.fn N137_=some F137_:=rfl
theorem f148_:p.fn N148_=some F148_:=rfl
theorem f149_:p.fn N149_=some F149_:=rfl
theorem f150_:p.fn N150_=some F150_:=rfl
theorem f152_:p.fn N152_=some F152_:=rfl
theorem f153_:p.fn N153_=some F153_:=rfl
end Go.Sim.Kd
