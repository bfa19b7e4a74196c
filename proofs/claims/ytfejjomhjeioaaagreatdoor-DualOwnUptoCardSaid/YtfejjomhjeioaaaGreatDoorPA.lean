/-
  A part of a proof: see the last text of this claim.
-/
import Derived.WalkKit
import Derived.Defers
import Derived.Great.BuildSlice
import Derived.MapKept
import Derived.WideKeyRuns
import Derived.Laws.MakeOwn
import Derived.Lib.ConvBytes
set_option linter.unusedVariables false
set_option linter.unusedSimpArgs false
namespace Go.Sim
open Go
theorem J {α:Sort _} {a:α}:a=a:=rfl
theorem Obe {α β:Type} {o:Option α} {f:α → Option β} {b:β}:o.bind f=some b ↔ ∃ a,o=some a ∧ f a=some b:=Option.bind_eq_some_iff
theorem Obs {α β:Type} (a:α) (f:α → Option β):(some a).bind f=f a:=rfl
theorem Oie {α:Type} (a b:α):(some a=some b)=(a=b):=Option.some.injEq a b
theorem Bae (a b:Bool):((a && b)=true)=(a=true ∧ b=true):=Bool.and_eq_true a b
theorem Pie {α β:Type} (a:α) (b:β) (c:α) (d:β):((a,b)=(c,d))=(a=c ∧ b=d):=Prod.mk.injEq a b c d
theorem Dte (p:Prop) [Decidable p]:(decide p=true)=p:=decide_eq_true_eq
theorem Nlb {n m:Nat} (h:Nat.ble n m=true):n ≤ m:=Nat.le_of_ble_eq_true h
theorem Lmg {α:Type} {l:List α} {i:Nat} {a:α} (e:l[i]?=some a):a ∈ l:=List.mem_of_getElem? e
theorem Odt {p:Prop} [Decidable p] (h:decide p=true):p:=of_decide_eq_true h
theorem Lnl {α:Type} {l:List α} (h:l.length=0):l=[]:=List.eq_nil_of_length_eq_zero h
theorem Bfa (b:Bool):(false && b)=false:=rfl
theorem Bta (b:Bool):(true && b)=b:=Bool.true_and b
theorem Lgm {α β:Type} {f:α → β} {l:List α} {i:Nat}:(l.map f)[i]?=Option.map f l[i]?:=List.getElem?_map
inductive Own
 | none
 | full
 | tip (t:Nat)
 | gt (g:Nat)
inductive AV
 | lit (v:Value)
 | agg (cs:List AV)
 | slice (o:Own) (sz:Nat) (xs:List AV)
 | ptr (id off:Nat)
 | cptr (cs:List AV) (off:Nat)
 | map (id:Nat)
 | fn (f:Nat) (first cap:List AV)
 | iface (t:Nat) (v:AV)
 | ms (g off len sz:Nat)
 | mp (g off:Nat)
def AV.cells:AV → List AV
 | .agg cs=>cs
 | v=>[v]
def AV.isCell:AV → Bool
 | .agg _=>false
 | _=>true
def flat (xs:List AV):List AV:=xs.flatMap AV.cells
mutual
def AV.er:AV → AV
 | .agg cs=>.agg (AV.ers cs)
 | .slice _ sz xs=>.slice .none sz xs
 | .fn f a b=>.fn f (AV.ers a) (AV.ers b)
 | .iface t v=>.iface t (AV.er v)
 | .lit v=>.lit v
 | .ptr i o=>.ptr i o
 | .cptr cs o=>.cptr cs o
 | .map i=>.map i
 | .ms g o l z=>.ms g o l z
 | .mp g o=>.mp g o
def AV.ers:List AV → List AV
 | []=>[]
 | a :: as=>AV.er a :: AV.ers as
end
def Own.erT:Own → Own
 | .tip _=>.none
 | o=>o
mutual
def AV.erT:AV → AV
 | .agg cs=>.agg (AV.erTs cs)
 | .slice o sz xs=>.slice o.erT sz xs
 | .fn f a b=>.fn f (AV.erTs a) (AV.erTs b)
 | .iface t v=>.iface t (AV.erT v)
 | .lit v=>.lit v
 | .ptr i o=>.ptr i o
 | .cptr cs o=>.cptr cs o
 | .map i=>.map i
 | .ms g o l z=>.ms g o l z
 | .mp g o=>.mp g o
def AV.erTs:List AV → List AV
 | []=>[]
 | a :: as=>AV.erT a :: AV.erTs as
end
def Own.nt:Own → Bool
 | .tip _=>false
 | _=>true
mutual
def AV.nt:AV → Bool
 | .agg cs=>AV.nts cs
 | .slice o sz xs=>o.nt
 | .fn f a b=>AV.nts a && AV.nts b
 | .iface t v=>AV.nt v
 | .lit v=>true
 | .ptr i o=>true
 | .cptr cs o=>true
 | .map i=>true
 | .ms g o l z=>true
 | .mp g o=>true
def AV.nts:List AV → Bool
 | []=>true
 | a :: as=>AV.nt a && AV.nts as
end
mutual
theorem AV.nt_er:∀ a:AV,a.er.nt=true
 | .agg cs=>by simp only [AV.er,AV.nt];exact AV.nts_ers cs
 | .slice _ sz xs=>rfl
 | .fn f a b=>by simp only [AV.er,AV.nt,AV.nts_ers a,AV.nts_ers b];rfl
 | .iface t v=>by simp only [AV.er,AV.nt];exact AV.nt_er v
 | .lit v=>rfl
 | .ptr i o=>rfl
 | .cptr cs o=>rfl
 | .map i=>rfl
 | .ms g o l z=>rfl
 | .mp g o=>rfl
theorem AV.nts_ers:∀ l:List AV,AV.nts (AV.ers l)=true
 | []=>rfl
 | a :: as=>by simp only [AV.ers,AV.nts,AV.nt_er a,AV.nts_ers as];rfl
end
mutual
theorem AV.nt_erT:∀ a:AV,a.erT.nt=true
 | .agg cs=>by simp only [AV.erT,AV.nt];exact AV.nts_erTs cs
 | .slice o sz xs=>by cases o <;> rfl
 | .fn f a b=>by simp only [AV.erT,AV.nt,AV.nts_erTs a,AV.nts_erTs b];rfl
 | .iface t v=>by simp only [AV.erT,AV.nt];exact AV.nt_erT v
 | .lit v=>rfl
 | .ptr i o=>rfl
 | .cptr cs o=>rfl
 | .map i=>rfl
 | .ms g o l z=>rfl
 | .mp g o=>rfl
theorem AV.nts_erTs:∀ l:List AV,AV.nts (AV.erTs l)=true
 | []=>rfl
 | a :: as=>by simp only [AV.erTs,AV.nts,AV.nt_erT a,AV.nts_erTs as];rfl
end
theorem AV.ers_eq (l:List AV):AV.ers l=l.map AV.er:=by induction l with
 | nil=>rfl
 | cons a l ih=>simp [AV.ers,ih]
theorem AV.erTs_eq (l:List AV):AV.erTs l=l.map AV.erT:=by induction l with
 | nil=>rfl
 | cons a l ih=>simp [AV.erTs,ih]
theorem AV.nts_iff (l:List AV):AV.nts l=true ↔ ∀ a ∈ l,a.nt=true:=by induction l with
 | nil=>simp [AV.nts]
 | cons a l ih=>simp [AV.nts,ih]
theorem AV.isCell_er (a:AV):a.er.isCell=a.isCell:=by cases a <;> rfl
theorem AV.isCell_erT (a:AV):a.erT.isCell=a.isCell:=by cases a <;> rfl
theorem AV.cells_er (a:AV):a.er.cells=AV.ers a.cells:=by cases a <;> rfl
def plainV:Value → Bool
 | .bool _=>true
 | .int _ _=>true
 | .float _ _=>true
 | .string _=>true
 | .pointer none=>true
 | .map none=>true
 | .nilFunc=>true
 | .nilIface=>true
 | .slice none 0 0=>true
 | _=>false
inductive Ow
 | free
 | obj (id:Nat)
 | loc (i:Nat)
 | tip (t e:Nat)
 | gt (g e:Nat)
 | mu (g:Nat)
structure Gh where
 K:Nat → Nat → AV → Prop
 ow:Nat → Ow
 T:Nat → Option (Addr × Nat × Nat × Nat)
 U:Nat → Option (Addr × Nat × Nat × Nat)
 M:Nat → Option (Nat × Nat)
 H:Nat → Bool:=fun _=>false
def ownRel (G:Gh) (o:Own) (sz len cap:Nat) (a:Option Addr):Prop :=
 match o with
 | .none=>True
 | .full=>cap=len
 | .tip t=>∃ ad,a=some ad ∧ G.T t=some (ad,len,cap,sz)
 | .gt g=>∃ ad,a=some ad ∧ G.U g=some (ad,len,cap,sz)
def lies (G:Gh) (xs:List AV) (cap:Nat):Option Addr → Prop
 | none=>cap=0
 | some ad=>(xs=[] ∨ ad.spot=none) ∧ ∀ j c,(flat xs)[j]?=some c → G.K ad.block (ad.off + j) c
def SRel (G:Gh) (o:Own) (sz:Nat) (xs:List AV) (v:Value):Prop :=
 ∃ a cap,v=.slice a xs.length cap ∧ xs.length ≤ cap ∧ (∀ x ∈ xs,x.cells.length=sz) ∧ lies G xs cap a ∧ ownRel G o sz xs.length cap a
mutual
def VR (G:Gh):AV → Value → Prop
 | .lit x,v=>v=x ∧ plainV x=true
 | .agg cs,v=>∃ vs:List Value,v=.agg vs.toArray ∧ VRs G cs vs ∧ cs.all AV.isCell=true
 | .slice o sz xs,v=>SRel G o sz xs v
 | .ptr id off,v=>∃ b,v=.pointer (some ⟨b,off,none⟩) ∧ G.ow b=.obj id
 | .cptr cs off,v=>∃ b o,v=.pointer (some ⟨b,o + off,none⟩) ∧ ∀ j c,cs[j]?=some c → G.K b (o + j) c
 | .map id,v=>∃ b,v=.map (some b) ∧ G.ow b=.obj id
 | .ms g off len sz,v=>∃ b room cap,v=.slice (some ⟨b,off,none⟩) len cap ∧ G.M g=some (b,room) ∧ len ≤ cap ∧ off + cap * sz ≤ room
 | .mp g off,v=>∃ b room,v=.pointer (some ⟨b,off,none⟩) ∧ G.M g=some (b,room)
 | .fn f fs cs,v=>∃ a b:List Value,v=.func (.func f) a.toArray b.toArray ∧ VRs G fs a ∧ VRs G cs b
 | .iface t x,v=>∃ y,v=.iface t y ∧ VR G x y
def VRs (G:Gh):List AV → List Value → Prop
 | [],vs=>vs=[]
 | a :: as,vs=>∃ v r,vs=v :: r ∧ VR G a v ∧ VRs G as r
end
theorem VRs_length {G:Gh}:∀ {as:List AV} {vs:List Value},VRs G as vs → vs.length=as.length
 | [],vs,h=>by simp only [VRs] at h;subst h;rfl
 | a :: as,vs,h=>by
   simp only [VRs] at h
   obtain ⟨v,r,rfl,_,hr⟩:=h
   simp [VRs_length hr]
theorem VRs_get {G:Gh}:∀ {as:List AV} {vs:List Value},VRs G as vs → ∀ (i:Nat) (a:AV),as[i]?=some a → ∃ v,vs[i]?=some v ∧ VR G a v
 | [],vs,h,i,a,ha=>by simp at ha
 | a' :: as,vs,h,i,a,ha=>by
   simp only [VRs] at h
   obtain ⟨v,r,rfl,hv,hr⟩:=h
   cases i with
   | zero=>simp at ha;subst ha;exact ⟨v,rfl,hv⟩
   | succ i=>simpa using VRs_get hr i a (by simpa using ha)
theorem VRs_of {G:Gh}:∀ {as:List AV} {vs:List Value},vs.length=as.length → (∀ (i:Nat) a v,as[i]?=some a → vs[i]?=some v → VR G a v) → VRs G as vs
 | [],vs,hl,h=>by simp only [VRs];exact List.length_eq_zero_iff.1 hl
 | a :: as,[],hl,h=>by simp at hl
 | a :: as,v :: r,hl,h=>by
   simp only [VRs]
   exact ⟨v,r,rfl,h 0 a v rfl rfl,VRs_of (by simpa using hl) fun i a v ha hv=>h (i + 1) a v (by simpa using ha) (by simpa using hv)⟩
theorem VRs_append {G:Gh}:∀ {as bs:List AV} {vs ws:List Value},VRs G as vs → VRs G bs ws → VRs G (as ++ bs) (vs ++ ws)
 | [],bs,vs,ws,h,h'=>by simp only [VRs] at h;subst h;simpa using h'
 | a :: as,bs,vs,ws,h,h'=>by
   simp only [VRs] at h
   obtain ⟨v,r,rfl,hv,hr⟩:=h
   simp only [List.cons_append,VRs]
   exact ⟨v,r ++ ws,rfl,hv,VRs_append hr h'⟩
theorem VRs_take {G:Gh} {as:List AV} {vs:List Value} (h:VRs G as vs) (n:Nat):VRs G (as.take n) (vs.take n) :=
 VRs_of (by simp [VRs_length h]) fun i a v ha hv=>by
  rw [List.getElem?_take] at ha hv
  split at ha
  ·rename_i hlt
   rw [if_pos hlt] at hv
   obtain ⟨v',hv',r⟩:=VRs_get h i a ha
   rw [hv] at hv';cases hv';exact r
  cases ha
theorem VRs_drop {G:Gh} {as:List AV} {vs:List Value} (h:VRs G as vs) (n:Nat):VRs G (as.drop n) (vs.drop n) :=
 VRs_of (by simp [VRs_length h]) fun i a v ha hv=>by
  rw [List.getElem?_drop] at ha hv
  obtain ⟨v',hv',r⟩:=VRs_get h _ a ha
  rw [hv] at hv';cases hv';exact r
structure Gle (G G':Gh):Prop where
 K:∀ b o c,G.K b o c → G'.K b o c
 ob:∀ b id,G.ow b=.obj id → G'.ow b=.obj id
 U:∀ t x,G.U t=some x → G'.U t=some x
 M:∀ t x,G.M t=some x → G'.M t=some x
theorem Gle.refl (G:Gh):Gle G G:=⟨fun _ _ _ h=>h,fun _ _ h=>h,fun _ _ h=>h,fun _ _ h=>h⟩
theorem Gle.trans {A B C:Gh} (h:Gle A B) (k:Gle B C):Gle A C :=
 ⟨fun b o c x=>k.K b o c (h.K b o c x),fun b i x=>k.ob b i (h.ob b i x),fun t x e=>k.U t x (h.U t x e),fun t x e=>k.M t x (h.M t x e)⟩
def Tle (G G':Gh):Prop:=∀ t x,G.T t=some x → G'.T t=some x
theorem lies_mono {G G':Gh} (h:Gle G G') {xs:List AV} {cap:Nat}:∀ {a:Option Addr},lies G xs cap a → lies G' xs cap a
 | none,hl=>hl
 | some ad,hl=>⟨hl.1,fun j c hc=>h.K _ _ _ (hl.2 j c hc)⟩
theorem ownRel_mono {G G':Gh} (h:Gle G G') {o:Own} {sz len cap:Nat} {a:Option Addr} (hT:Tle G G' ∨ o.nt=true) (hr:ownRel G o sz len cap a):ownRel G' o sz len cap a:=by
 cases o with
 | none=>trivial
 | full=>exact hr
 | tip t =>
   obtain ⟨ad,ha,ht⟩:=hr
   exact ⟨ad,ha,(hT.resolve_right (by simp [Own.nt])) _ _ ht⟩
 | gt g =>
   obtain ⟨ad,ha,ht⟩:=hr
   exact ⟨ad,ha,h.U _ _ ht⟩
mutual
theorem VR_mono' {G G':Gh} (h:Gle G G'):∀ (a:AV) (v:Value),(Tle G G' ∨ a.nt=true) → VR G a v → VR G' a v
 | .lit x,v,_,hv=>by simpa only [VR] using hv
 | .agg cs,v,hT,hv=>by
   simp only [VR] at hv ⊢
   obtain ⟨vs,rfl,hvs,hc⟩:=hv
   exact ⟨vs,rfl,VRs_mono' h cs vs (by simpa only [AV.nt] using hT) hvs,hc⟩
 | .slice o sz xs,v,hT,hv=>by
   simp only [VR] at hv ⊢
   obtain ⟨a,cap,rfl,h1,h2,h3,h4⟩:=hv
   exact ⟨a,cap,rfl,h1,h2,lies_mono h h3,ownRel_mono h (by simpa only [AV.nt] using hT) h4⟩
 | .ptr id off,v,_,hv=>by
   simp only [VR] at hv ⊢
   obtain ⟨b,rfl,hb⟩:=hv
   exact ⟨b,rfl,h.ob _ _ hb⟩
 | .cptr cs off,v,_,hv=>by
   simp only [VR] at hv ⊢
   obtain ⟨b,o,rfl,hk⟩:=hv
   exact ⟨b,o,rfl,fun j c hc=>h.K _ _ _ (hk j c hc)⟩
 | .map id,v,_,hv=>by
   simp only [VR] at hv ⊢
   obtain ⟨b,rfl,hb⟩:=hv
   exact ⟨b,rfl,h.ob _ _ hb⟩
 | .ms g off len sz,v,_,hv=>by
   simp only [VR] at hv ⊢
   obtain ⟨b,room,cap,rfl,hb,h1,h2⟩:=hv
   exact ⟨b,room,cap,rfl,h.M _ _ hb,h1,h2⟩
 | .mp g off,v,_,hv=>by
   simp only [VR] at hv ⊢
   obtain ⟨b,room,rfl,hb⟩:=hv
   exact ⟨b,room,rfl,h.M _ _ hb⟩
 | .fn f fs cs,v,hT,hv=>by
   simp only [VR] at hv ⊢
   obtain ⟨a,b,rfl,ha,hb⟩:=hv
   have hT':Tle G G' ∨ (AV.nts fs=true ∧ AV.nts cs=true):=by simpa only [AV.nt,Bae] using hT
   exact ⟨a,b,rfl,VRs_mono' h fs a (hT'.imp id And.left) ha,VRs_mono' h cs b (hT'.imp id And.right) hb⟩
 | .iface t x,v,hT,hv=>by
   simp only [VR] at hv ⊢
   obtain ⟨y,rfl,hy⟩:=hv
   exact ⟨y,rfl,VR_mono' h x y (by simpa only [AV.nt] using hT) hy⟩
theorem VRs_mono' {G G':Gh} (h:Gle G G'):∀ (as:List AV) (vs:List Value),(Tle G G' ∨ AV.nts as=true) → VRs G as vs → VRs G' as vs
 | [],vs,_,hv=>by simpa only [VRs] using hv
 | a :: as,vs,hT,hv=>by
   simp only [VRs] at hv ⊢
   obtain ⟨v,r,rfl,ha,hr⟩:=hv
   have hT':Tle G G' ∨ (a.nt=true ∧ AV.nts as=true):=by simpa only [AV.nts,Bae] using hT
   exact ⟨v,r,rfl,VR_mono' h a v (hT'.imp id And.left) ha,VRs_mono' h as r (hT'.imp id And.right) hr⟩
end
mutual
theorem VR_er {G:Gh}:∀ (a:AV) (v:Value),VR G a v → VR G a.er v
 | .lit x,v,hv=>hv
 | .agg cs,v,hv=>by
   simp only [VR,AV.er] at hv ⊢
   obtain ⟨vs,rfl,hvs,hc⟩:=hv
   refine ⟨vs,J,VRs_er cs vs hvs,?_⟩
   rw [AV.ers_eq,List.all_map]
   simpa [Function.comp_def,AV.isCell_er] using hc
 | .slice o sz xs,v,hv=>by
   simp only [VR,AV.er] at hv ⊢
   obtain ⟨a,cap,rfl,h1,h2,h3,h4⟩:=hv
   exact ⟨a,cap,rfl,h1,h2,h3,trivial⟩
 | .ptr id off,v,hv=>hv
 | .cptr cs off,v,hv=>hv
 | .map id,v,hv=>hv
 | .ms g off len sz,v,hv=>hv
 | .mp g off,v,hv=>hv
 | .fn f fs cs,v,hv=>by
   simp only [VR,AV.er] at hv ⊢
   obtain ⟨a,b,rfl,ha,hb⟩:=hv
   exact ⟨a,b,rfl,VRs_er fs a ha,VRs_er cs b hb⟩
 | .iface t x,v,hv=>by
   simp only [VR,AV.er] at hv ⊢
   obtain ⟨y,rfl,hy⟩:=hv
   exact ⟨y,rfl,VR_er x y hy⟩
theorem VRs_er {G:Gh}:∀ (as:List AV) (vs:List Value),VRs G as vs → VRs G (AV.ers as) vs
 | [],vs,hv=>hv
 | a :: as,vs,hv=>by
   simp only [VRs,AV.ers] at hv ⊢
   obtain ⟨v,r,rfl,ha,hr⟩:=hv
   exact ⟨v,r,rfl,VR_er a v ha,VRs_er as r hr⟩
end
mutual
theorem VR_erT {G:Gh}:∀ (a:AV) (v:Value),VR G a v → VR G a.erT v
 | .lit x,v,hv=>hv
 | .agg cs,v,hv=>by
   simp only [VR,AV.erT] at hv ⊢
   obtain ⟨vs,rfl,hvs,hc⟩:=hv
   refine ⟨vs,J,VRs_erT cs vs hvs,?_⟩
   rw [AV.erTs_eq,List.all_map]
   simpa [Function.comp_def,AV.isCell_erT] using hc
 | .slice o sz xs,v,hv=>by
   simp only [VR,AV.erT] at hv ⊢
   obtain ⟨a,cap,rfl,h1,h2,h3,h4⟩:=hv
   exact ⟨a,cap,rfl,h1,h2,h3,by cases o <;> first | trivial | exact h4⟩
 | .ptr id off,v,hv=>hv
 | .cptr cs off,v,hv=>hv
 | .map id,v,hv=>hv
 | .ms g off len sz,v,hv=>hv
 | .mp g off,v,hv=>hv
 | .fn f fs cs,v,hv=>by
   simp only [VR,AV.erT] at hv ⊢
   obtain ⟨a,b,rfl,ha,hb⟩:=hv
   exact ⟨a,b,rfl,VRs_erT fs a ha,VRs_erT cs b hb⟩
 | .iface t x,v,hv=>by
   simp only [VR,AV.erT] at hv ⊢
   obtain ⟨y,rfl,hy⟩:=hv
   exact ⟨y,rfl,VR_erT x y hy⟩
theorem VRs_erT {G:Gh}:∀ (as:List AV) (vs:List Value),VRs G as vs → VRs G (AV.erTs as) vs
 | [],vs,hv=>hv
 | a :: as,vs,hv=>by
   simp only [VRs,AV.erTs] at hv ⊢
   obtain ⟨v,r,rfl,ha,hr⟩:=hv
   exact ⟨v,r,rfl,VR_erT a v ha,VRs_erT as r hr⟩
end
def cellV:Value → Prop
 | .agg _=>False
 | .tuple _=>False
 | _=>True
theorem VR_cell {G:Gh} {a:AV} {v:Value} (h:VR G a v) (hc:a.isCell=true):cellV v:=by
 cases a with
 | agg cs=>simp [AV.isCell] at hc
 | lit x=>simp only [VR] at h;obtain ⟨rfl,hp⟩:=h;cases v <;> simp_all [plainV,cellV]
 | slice o sz xs=>simp only [VR] at h;obtain ⟨a,cap,rfl,_⟩:=h;trivial
 | ptr id off=>simp only [VR] at h;obtain ⟨b,rfl,_⟩:=h;trivial
 | cptr cs off=>simp only [VR] at h;obtain ⟨b,o,rfl,_⟩:=h;trivial
 | map id=>simp only [VR] at h;obtain ⟨b,rfl,_⟩:=h;trivial
 | ms g off len sz=>simp only [VR] at h;obtain ⟨b,room,cap,rfl,_⟩:=h;trivial
 | mp g off=>simp only [VR] at h;obtain ⟨b,room,rfl,_⟩:=h;trivial
 | fn f a b=>simp only [VR] at h;obtain ⟨x,y,rfl,_⟩:=h;trivial
 | iface t x=>simp only [VR] at h;obtain ⟨y,rfl,_⟩:=h;trivial
theorem cells_of_cellV {v:Value} (h:cellV v):v.cells=#[v]:=by cases v <;> first | rfl | exact h.elim
theorem VR_cells {G:Gh} {a:AV} {v:Value} (h:VR G a v):VRs G a.cells v.cells.toList ∧ a.cells.all AV.isCell=true:=by
 by_cases hc:a.isCell=true
 ·have hv:=VR_cell h hc
  rw [cells_of_cellV hv]
  have:a.cells=[a]:=by cases a <;> first | rfl | simp [AV.isCell] at hc
  rw [this]
  exact ⟨by simp only [VRs];exact ⟨v,[],rfl,h,rfl⟩,by simpa using hc⟩
 cases a with
 | agg cs =>
   simp only [VR] at h
   obtain ⟨vs,rfl,hvs,hall⟩:=h
   exact ⟨by simpa [AV.cells,Value.cells] using hvs,hall⟩
 | _=>exact absurd rfl hc
theorem VRs_cellV {G:Gh}:∀ {as:List AV} {vs:List Value},VRs G as vs → as.all AV.isCell=true → ∀ v ∈ vs,cellV v
 | [],vs,h,_,v,hv=>by simp only [VRs] at h;subst h;cases hv
 | a :: as,vs,h,hc,v,hv=>by
   simp only [VRs] at h
   obtain ⟨u,r,rfl,hu,hr⟩:=h
   simp only [List.all_cons,Bae] at hc
   cases hv with
   | head=>exact VR_cell hu hc.1
   | tail _ hm=>exact VRs_cellV hr hc.2 v hm
end Go.Sim
namespace Go.Sim
open Go
def BL (w:World) (b:Nat) (cs:List Value):Prop:=∃ el,w.heap[b]?=some (.cells cs.toArray el (0,0))
structure Only (w w':World) (b:Nat):Prop where
 os:w'.os=w.os
 tape:w'.tape=w.tape
 output:w'.output=w.output
 size:w'.heap.size=w.heap.size
 heap:∀ k,k ≠ b → w'.heap[k]?=w.heap[k]?
theorem Only.refl (w:World) (b:Nat):Only w w b:=⟨rfl,rfl,rfl,rfl,fun _ _=>rfl⟩
theorem Only.trans {a b c:World} {k:Nat} (h:Only a b k) (h':Only b c k):Only a c k :=
 ⟨h'.os.trans h.os,h'.tape.trans h.tape,h'.output.trans h.output,h'.size.trans h.size,fun i hi=>(h'.heap i hi).trans (h.heap i hi)⟩
theorem BL.cell {w:World} {b:Nat} {cs:List Value} (h:BL w b cs) (o:Nat):w.cell? ⟨b,o,none⟩=cs[o]?:=by
 obtain ⟨el,h⟩:=h
 simp [World.cell?,h]
theorem BL.frozen {w:World} {b:Nat} {cs:List Value} (h:BL w b cs) (o:Nat):w.frozen? ⟨b,o,none⟩=false:=by
 obtain ⟨el,h⟩:=h
 simp [World.frozen?,h]
theorem BL.lt {w:World} {b:Nat} {cs:List Value} (h:BL w b cs):b < w.heap.size:=by
 obtain ⟨el,h⟩:=h
 rcases Nat.lt_or_ge b w.heap.size with hl | hl
 ·exact hl
 simp [Array.getElem?_eq_none hl] at h
theorem BL.of_heap {w w':World} {b:Nat} {cs:List Value} (h:BL w b cs) (e:w'.heap[b]?=w.heap[b]?):BL w' b cs:=by
 obtain ⟨el,h⟩:=h
 exact ⟨el,e.trans h⟩
theorem cell_of_heap {w w':World} {a:Addr} (e:w'.heap[a.block]?=w.heap[a.block]?):w'.cell? a=w.cell? a:=by
 simp [World.cell?,e]
theorem add_plain (b o n:Nat):(⟨b,o,none⟩:Addr).add n=⟨b,o + n,none⟩:=by
 unfold Addr.add
 split
 ·rename_i h;subst h;rfl
 rfl
theorem setCell_only {w:World} {b o:Nat} {v:Value}:Only w (w.setCell ⟨b,o,none⟩ v) b :=
 ⟨rfl,rfl,rfl,by simp [World.setCell],fun k hk=>by
  simp only [World.setCell,Array.getElem?_modify]
  rw [if_neg (by simpa using fun e=>hk e.symm)]⟩
theorem setCell_BL {w:World} {b o:Nat} {v:Value} {cs:List Value} (h:BL w b cs):BL (w.setCell ⟨b,o,none⟩ v) b (cs.set o v):=by
 obtain ⟨el,h⟩:=h
 refine ⟨el,?_⟩
 simp only [World.setCell,Array.getElem?_modify,if_true,h]
 simp
theorem run_load_cell {P:Program} {w:World} {a:Addr} {v:Value} (h:w.cell? a=some v):(load a).run P w=.ok v w:=by
 simp [h]
theorem run_store_cell {P:Program} {w:World} {b o:Nat} {v:Value} {cs:List Value} (h:BL w b cs) (ho:o < cs.length) (hv:cellV v) :
 (store ⟨b,o,none⟩ v).run P w=.ok () (w.setCell ⟨b,o,none⟩ v):=by
 have hc:w.cell? ⟨b,o,none⟩=some cs[o]:=by rw [h.cell];exact List.getElem?_eq_getElem ho
 have hf:=h.frozen o
 cases v <;> first | exact hv.elim | simp [store,Sem.run,hc,hf]
theorem run_loadCellsFrom {P:Program} {w:World} {b o:Nat}:∀ (n i:Nat) (acc:Array Value) (vs:List Value),vs.length=n →
 (∀ (j:Nat) v,vs[j]?=some v → w.cell? ⟨b,o + i + j,none⟩=some v) → (loadCellsFrom ⟨b,o,none⟩ i n acc).run P w=.ok (acc ++ vs.toArray) w
 | 0,i,acc,vs,hl,h=>by
   have:vs=[]:=List.length_eq_zero_iff.1 hl
   subst this
   simp [loadCellsFrom]
 | n + 1,i,acc,[],hl,h=>by simp at hl
 | n + 1,i,acc,v :: vs,hl,h=>by
   have h0:w.cell? ⟨b,o + i,none⟩=some v:=by simpa using h 0 v rfl
   simp only [loadCellsFrom,Sem.run_bind,add_plain,run_load_cell h0,Result.andThen_ok]
   rw [run_loadCellsFrom n (i + 1) (acc.push v) vs (by simpa using hl) fun j u hu=>by
    have:=h (j + 1) u (by simpa using hu)
    rw [show o + (i + 1) + j=o + i + (j + 1) from by omega];exact this]
   simp
theorem run_loadCells {P:Program} {w:World} {b o:Nat} {vs:List Value} (n:Nat) (hn:vs.length=n)
 (h:∀ (j:Nat) v,vs[j]?=some v → w.cell? ⟨b,o + j,none⟩=some v):(loadCells ⟨b,o,none⟩ n).run P w=.ok vs.toArray w:=by
 unfold loadCells
 rw [run_loadCellsFrom n 0 #[] vs hn (by simpa using h)]
 simp
theorem run_storeCells {P:Program} {b o:Nat}:∀ (vs:List Value) (i:Nat) (w:World) (cs:List Value),BL w b cs → o + i + vs.length ≤ cs.length → (∀ v ∈ vs,cellV v) →
 ∃ w',(storeCells ⟨b,o,none⟩ vs i).run P w=.ok () w' ∧ Only w w' b ∧ BL w' b (cs.take (o + i) ++ vs ++ cs.drop (o + i + vs.length))
 | [],i,w,cs,h,hl,hv=>⟨w,by simp [storeCells],Only.refl w b,by simpa using h⟩
 | v :: vs,i,w,cs,h,hl,hv=>by
   simp only [List.length_cons] at hl
   have hs:=run_store_cell (P:=P) (o:=o + i) h (by omega) (hv v (List.mem_cons_self ..))
   have hb:BL (w.setCell ⟨b,o + i,none⟩ v) b (cs.set (o + i) v):=setCell_BL h
   obtain ⟨w',hr,ho,hB⟩:=run_storeCells (o:=o) vs (i + 1) _ _ hb (by simp;omega) fun u hu=>hv u (List.mem_cons_of_mem _ hu)
   refine ⟨w',?_,setCell_only.trans ho,?_⟩
   ·simp only [storeCells,Sem.run_bind,add_plain,hs,Result.andThen_ok]
    exact hr
   have e:(cs.set (o + i) v).take (o + (i + 1)) ++ vs ++ (cs.set (o + i) v).drop (o + (i + 1) + vs.length)=cs.take (o + i) ++ (v :: vs) ++ cs.drop (o + i + (v :: vs).length):=by
    have h1:(cs.set (o + i) v).take (o + (i + 1))=cs.take (o + i) ++ [v]:=by
     rw [← Nat.add_assoc,List.take_succ_eq_append_getElem (by simp;omega)]
     simp only [List.getElem_set_self,List.take_set]
     rw [List.set_eq_of_length_le (by simp;omega)]
    have h2:(cs.set (o + i) v).drop (o + (i + 1) + vs.length)=cs.drop (o + i + (v :: vs).length):=by
     rw [List.drop_set_of_lt (by omega)]
     simp only [List.length_cons]
     congr 1
     omega
    rw [h1,h2]
    simp
   rw [e] at hB
   exact hB
theorem run_storeCells0 {P:Program} {b o:Nat} {vs:List Value} {w:World} {cs:List Value} (h:BL w b cs) (hl:o + vs.length ≤ cs.length) (hv:∀ v ∈ vs,cellV v) :
 ∃ w',(storeCells ⟨b,o,none⟩ vs).run P w=.ok () w' ∧ Only w w' b ∧ BL w' b (cs.take o ++ vs ++ cs.drop (o + vs.length)):=by
 simpa using run_storeCells vs 0 w cs h (by simpa using hl) hv
structure Grew (w w':World):Prop where
 os:w'.os=w.os
 tape:w'.tape=w.tape
 output:w'.output=w.output
 size:w'.heap.size=w.heap.size + 1
 heap:∀ k,k < w.heap.size → w'.heap[k]?=w.heap[k]?
theorem grew_push (w:World) (o:Obj) (n:Nat):Grew w { w with heap:=w.heap.push o,drawn:=n } :=
 ⟨rfl,rfl,rfl,by simp,fun k hk=>by rw [Array.getElem?_push,if_neg (by omega)]⟩
theorem push_at (w:World) (o:Obj) (n:Nat):({ w with heap:=w.heap.push o,drawn:=n }:World).heap[w.heap.size]?=some o:=by
 simp
theorem run_newRow {P:Program} {w:World} {el:Nat} {cs:List Value} :
 ∃ w',(newRow el cs.toArray).run P w=.ok ⟨w.heap.size,0,none⟩ w' ∧ Grew w w' ∧ BL w' w.heap.size cs :=
 ⟨{ w with heap:=w.heap.push (.cells cs.toArray el) },by simp [newRow],grew_push w _ w.drawn,el,push_at w _ w.drawn⟩
end Go.Sim
namespace Go.Sim
open Go
inductive TV
 | loc (i off:Nat)
 | val (v:AV)
 | tup (vs:List AV)
 | und
inductive KK
 | int (k:IntKind)
 | str
 | int2 (k:IntKind)
def KK.same:KK → KK → Bool
 | .int k,.int k'=>decide (k=k')
 | .str,.str=>true
 | .int2 k,.int2 k'=>decide (k=k')
 | _,_=>false
theorem KK.same_eq {a b:KK} (h:KK.same a b=true):a=b:=by
 cases a <;> cases b <;> simp_all [KK.same]
inductive AObj
 | row (cs:List AV)
 | map (kk:KK) (m:Value → Option AV)
structure Sg where
 ob:Nat → Option AObj
 nx:Nat
 gl:Nat → Bool
 gn:Nat
 Q:Nat → Nat → Option AV
 mu:Nat → Option (List AV):=fun _=>none
 mn:Nat:=0
structure Fr where
 env:Nat → Option TV
 loc:Nat → Option (List AV)
 nt:Nat
 lv:Nat → Bool
 df:List (Nat × List AV)
 sg:Sg
def upd {α:Type} (e:Nat → Option α) (i:Nat) (v:Option α):Nat → Option α:=fun j=>if j=i then v else e j
theorem upd_same {α:Type} (e:Nat → Option α) (i:Nat) (v:Option α):upd e i v i=v:=by simp [upd]
theorem upd_ne {α:Type} (e:Nat → Option α) {i j:Nat} (v:Option α) (h:j ≠ i):upd e i v j=e j:=by simp [upd,h]
def Sg.set (s:Sg) (id:Nat) (o:AObj):Sg:={ s with ob:=upd s.ob id (some o) }
def Sg.new (s:Sg) (o:AObj):Sg:={ s with ob:=upd s.ob s.nx (some o),nx:=s.nx + 1 }
def keepE {α:Type}:List Nat → (Nat → Option α) → Nat → Option α
 | [],_=>fun _=>none
 | k :: ks,e=>upd (keepE ks e) k (e k)
inductive AO
 | t (n:Nat)
 | c (a:AV)
 | f (n:Nat)
def ev (e:Nat → Option TV):AO → Option TV
 | .t n=>e n
 | .c a=>some (.val a)
 | .f n=>some (.val (.fn n [] []))
def TV.v:TV → Option AV
 | .val v=>some v
 | _=>none
def evV (e:Nat → Option TV) (o:AO):Option AV:=(ev e o).bind TV.v
def evVs (e:Nat → Option TV):List AO → Option (List AV)
 | []=>some []
 | o :: r=>(evV e o).bind fun v=>(evVs e r).bind fun l=>some (v :: l)
def rd (n:Option Nat) (cs:List AV) (off:Nat):Option AV :=
 match n with
 | none=>cs[off]?
 | some n=>if off + n ≤ cs.length then some (.agg ((cs.drop off).take n)) else none
def asB:AV → Option Bool
 | .lit (.bool b)=>some b
 | _=>none
def asN:AV → Option Int
 | .lit (.int _ n)=>some n
 | _=>none
def intOp (op:BinOp) (k:IntKind) (a b:Int):Option AV :=
 match op with
 | .add=>some (.lit (.int k (k.wrap (a + b))))
 | .sub=>some (.lit (.int k (k.wrap (a - b))))
 | .mul=>some (.lit (.int k (k.wrap (a * b))))
 | .quo=>if b=0 then none else some (.lit (.int k (k.wrap (a.tdiv b))))
 | .rem=>if b=0 then none else some (.lit (.int k (a.tmod b)))
 | .eql=>some (.lit (.bool (decide (a=b))))
 | .neq=>some (.lit (.bool (!decide (a=b))))
 | .lss=>some (.lit (.bool (decide (a < b))))
 | .leq=>some (.lit (.bool (decide (a ≤ b))))
 | .gtr=>some (.lit (.bool (decide (b < a))))
 | .geq=>some (.lit (.bool (decide (b ≤ a))))
 | _=>none
def strOp (op:BinOp) (a b:ByteArray):Option AV :=
 match op with
 | .eql=>some (.lit (.bool (decide (a=b))))
 | .neq=>some (.lit (.bool (!decide (a=b))))
 | .add=>if a.size + b.size ≤ 2 ^ 62 then some (.lit (.string (a ++ b))) else none
 | _=>none
def abin (op:BinOp):AV → AV → Option AV
 | .lit (.int k a),.lit (.int k' b)=>if k=k' then intOp op k a b else none
 | .lit (.string a),.lit (.string b)=>strOp op a b
 | _,_=>none
def mmOf (mx:Bool):AV → AV → Option AV
 | .lit (.int k a),.lit (.int k' b)=>if k=k' then some (.lit (.int k (if mx then (if b > a then b else a) else (if b < a then b else a)))) else none
 | _,_=>none
inductive CK
 | b
 | i
 | s
def ceq:CK → AV → AV → Option Bool
 | .b,.lit (.bool a),.lit (.bool b)=>some (a == b)
 | .i,.lit (.int k a),.lit (.int k' b)=>if k=k' then some (decide (a=b)) else none
 | .s,.lit (.string a),.lit (.string b)=>some (decide (a=b))
 | _,_,_=>none
def ceqs:List CK → List AV → List AV → Option Bool
 | [],[],[]=>some true
 | k :: ks,a :: as,b :: bs=>(ceq k a b).bind fun r=>(ceqs ks as bs).bind fun q=>some (r && q)
 | _,_,_=>none
def aeqOf (ks:List CK):AV → AV → Option Bool
 | .agg as,.agg bs=>ceqs ks as bs
 | _,_=>none
def isNilP:TV → Option Bool
 | .loc _ _=>some false
 | .val (.ptr _ _)=>some false
 | .val (.cptr _ _)=>some false
 | .val (.mp _ _)=>some false
 | .val (.lit (.pointer none))=>some true
 | _=>none
def fillA:List AV → List (Nat × Nat × AV) → Option (List AV)
 | cs,[]=>some cs
 | cs,(off,n,v) :: r =>
   if v.cells.length=n ∧ off + n ≤ cs.length then fillA (cs.take off ++ v.cells ++ cs.drop (off + n)) r else none
def evPs (e:Nat → Option TV):List (Nat × Nat × AO) → Option (List (Nat × Nat × AV))
 | []=>some []
 | (a,b,o) :: r=>(evV e o).bind fun v=>(evPs e r).bind fun l=>some ((a,b,v) :: l)
def keyOf:KK → AV → Option Value
 | .int k,.lit (.int k' n)=>if k=k' then some (.int k n) else none
 | .str,.lit (.string s)=>some (.string s)
 | .int2 k,.agg [.lit (.int k1 a),.lit (.int k2 b)]=>if k=k1 ∧ k=k2 then some (.agg #[.int k a,.int k b]) else none
 | _,_=>none
open Classical in
noncomputable def mset (m:Value → Option AV) (k:Value) (v:Option AV):Value → Option AV:=fun j=>if j=k then v else m j
def stv (v:AV) (fr:Fr):AV × Fr :=
 match v with
 | .slice (.tip t) sz xs =>
   if fr.lv t then (.slice (.gt fr.sg.gn) sz xs,{ fr with lv:=fun j=>if j=t then false else fr.lv j,sg:={ fr.sg with gl:=fun j=>if j=fr.sg.gn then true else fr.sg.gl j,gn:=fr.sg.gn + 1 } })
   else (.slice .none sz xs,fr)
 | v=>(v.erT,fr)
def wr (cs:List AV) (off:Nat) (vs:List AV):List AV:=cs.take off ++ vs ++ cs.drop (off + vs.length)
def srcOf (sz:Nat) (s:Sg):AV → Option (Nat × List AV)
 | .slice _ sz' xs=>if sz=sz' then some (xs.length,flat xs) else none
 | .ms g off len sz'=>if sz=sz' then (s.mu g).bind fun cs=>if off + len * sz ≤ cs.length then some (len,(cs.drop off).take (len * sz)) else none else none
 | _=>none
def zeros (z:List AV) (n:Nat):List AV:=(List.replicate n z).flatten
def mksOf (sz by_:Nat) (z:List AV) (s:Sg) (n m:Int):Option (AV × Sg) :=
 if 0 ≤ n ∧ n ≤ m ∧ m.toNat * by_ ≤ 2 ^ 47 then some (.ms s.mn 0 n.toNat sz,{ s with mu:=upd s.mu s.mn (some (zeros z n.toNat)),mn:=s.mn + 1 }) else none
def cpyOf (sz:Nat) (s:Sg) (src:AV):AV → Option (AV × Sg)
 | .ms g off len sz'=>if sz=sz' then (srcOf sz s src).bind fun r=>(s.mu g).bind fun cs=>if off + min r.1 len * sz ≤ cs.length then
    some (.lit (.int .i64 (min r.1 len:Nat)),{ s with mu:=upd s.mu g (some (wr cs off (r.2.take (min r.1 len * sz)))) }) else none else none
 | .slice _ sz' []=>if sz=sz' then (srcOf sz s src).bind fun _=>some (.lit (.int .i64 0),s) else none
 | _=>none
def unfl (sz:Nat):Nat → List AV → List AV
 | 0,_=>[]
 | n + 1,cs=>(match sz,cs with
   | 1,c :: _=>c
   | _,_=>.agg (cs.take sz)) :: unfl sz n (cs.drop sz)
def frzOf (sz:Nat) (s:Sg):AV → Option (AV × Sg)
 | .ms g off len sz'=>if sz=sz' ∧ 0 < sz then (s.mu g).bind fun cs=>if off + len * sz ≤ cs.length then
    some (.slice .none sz (unfl sz len ((cs.drop off).take (len * sz))),{ s with mu:=upd s.mu g none }) else none else none
 | .slice _ sz' xs=>if sz=sz' then some (.slice .none sz xs,s) else none
 | _=>none
def nilS (sz:Nat):AV → AV
 | .lit (.slice none 0 0)=>.slice .full sz []
 | v=>v
def appmOf (sz by_:Nat) (s:Sg) (src:AV):AV → Option (AV × Sg)
 | .ms g off len sz'=>if sz=sz' ∧ off=0 then (srcOf sz s src).bind fun r=>(s.mu g).bind fun cs=>if cs.length=len * sz ∧ (len + r.1) * by_ ≤ 2 ^ 47 then
    (if r.1=0 then some (.ms g 0 len sz,s) else some (.ms s.mn 0 (len + r.1) sz,{ s with mu:=upd (upd s.mu g none) s.mn (some (cs ++ r.2)),mn:=s.mn + 1 })) else none else none
 | .slice .full sz' []=>if sz=sz' then (srcOf sz s src).bind fun r=>if r.1 * by_ ≤ 2 ^ 47 then
    (if r.1=0 then some (.slice .full sz [],s) else some (.ms s.mn 0 r.1 sz,{ s with mu:=upd s.mu s.mn (some r.2),mn:=s.mn + 1 })) else none else none
 | _=>none
def ixvOf (len sz:Nat) (n:Option Nat) (i:Int):AV → Option AV
 | .agg cs=>if 0 ≤ i ∧ i < len then rd n cs (i.toNat * sz) else none
 | _=>none
def snlOf:AV → Option Bool
 | .slice _ _ (_ :: _)=>some false
 | .ms _ _ _ _=>some false
 | _=>none
def ifnOf:AV → Option Bool
 | .iface _ _=>some false
 | .lit .nilIface=>some true
 | _=>none
inductive WOp
 | mks (sz by_:Nat) (z:List AV)
 | appm (sz by_:Nat)
 | cpy (sz:Nat)
 | frz (sz:Nat)
 | ixv (len sz:Nat) (n:Option Nat)
 | snl (ng:Bool)
 | mki (t:Nat)
 | ifn (ng:Bool)
 | stop
 | ldz (n:Option Nat)
 | bldz (z:List AV) (ps:List (Nat × Nat))
 | ldv (n:Option Nat)
 | s2b
 | bslm (sz len:Nat)
 | gad (g sz:Nat) (cs:List AV)
def frzC (s:Sg):AV → Option (AV × Sg)
 | .ms g off len sz=>frzOf sz s (.ms g off len sz)
 | v=>some (v,s)
def frzL:Sg → List AV → Option (List AV × Sg)
 | s,[]=>some ([],s)
 | s,c :: cs=>(frzC s c).bind fun r=>(frzL r.2 cs).bind fun q=>some (r.1 :: q.1,q.2)
def frzV (s:Sg):AV → Option (AV × Sg)
 | .agg cs=>(frzL s cs).bind fun r=>some (.agg r.1,r.2)
 | v=>frzC s v
def frzDL (f:Sg → AV → Option (AV × Sg)):Sg → List AV → Option (List AV × Sg)
 | s,[]=>some ([],s)
 | s,c :: cs=>(f s c).bind fun r=>(frzDL f r.2 cs).bind fun q=>some (r.1 :: q.1,q.2)
open Classical in
noncomputable def frzD:Nat → Sg → AV → Option (AV × Sg)
 | 0,s,v=>some (v,s)
 | n + 1,s,v=>match v with
   | .ms g off len sz=>(s.mu g).bind fun cs=>(frzDL (frzD n) s cs).bind fun r =>
      if r.2.mu g=some cs ∧ AV.nts r.1=true then frzOf sz { r.2 with mu:=upd r.2.mu g (some r.1) } (.ms g off len sz) else none
   | .agg cs=>(frzDL (frzD n) s cs).bind fun r=>some (.agg r.1,r.2)
   | v=>some (v,s)
def zipP {α:Type}:List (Nat × Nat) → List α → List (Nat × Nat × α)
 | (a,b) :: ps,x :: xs=>(a,b,x) :: zipP ps xs
 | _,_=>[]
def ldzOf (n:Option Nat) (s:Sg):AV → Option (AV × Sg)
 | .ptr id off=>(match s.ob id with
   | some (.row cs)=>rd n cs off
   | _=>none).bind fun v=>frzV s v
 | _=>none
def ldvOf (n:Option Nat) (s:Sg):AV → Option AV
 | .cptr cs off=>rd n cs off
 | .ptr id off=>(match s.ob id with
   | some (.row cs)=>rd n cs off
   | _=>none)
 | .mp g off=>(s.mu g).bind fun cs=>rd n cs off
 | _=>none
def bslmOf (sz len:Nat) (s:Sg) (l:List AV):Option (AV × Sg) :=
 if l.length=len ∧ l.all (fun v=>v.cells.length == sz)=true then some (.ms s.mn 0 len sz,{ s with mu:=upd s.mu s.mn (some (flat (AV.ers l))),mn:=s.mn + 1 }) else none
def bytesA (b:ByteArray):List AV:=b.data.toList.map fun c=>.lit (.int .u8 c.toNat)
def s2bOf:AV → Option AV
 | .lit (.string b)=>some (.slice .none 1 (bytesA b))
 | _=>none
open Classical in
noncomputable def gadOf (g sz:Nat) (cs:List AV) (s:Sg) (i:Int):Option AV :=
 if 0 ≤ i ∧ i.toNat * sz < cs.length ∧ ∀ j c,cs[j]?=some c → s.Q g j=some c then some (.cptr cs (i.toNat * sz)) else none
noncomputable def wopOf:WOp → Sg → List AV → Option (AV × Sg)
 | .mks sz by_ z,s,[n,m]=>(asN n).bind fun n=>(asN m).bind fun m=>mksOf sz by_ z s n m
 | .appm sz by_,s,[b,x]=>appmOf sz by_ s x (nilS sz b)
 | .cpy sz,s,[d,x]=>cpyOf sz s x d
 | .frz sz,s,[x]=>frzOf sz s x
 | .ixv len sz n,s,[x,i]=>(asN i).bind fun i=>(ixvOf len sz n i x).bind fun v=>some (v,s)
 | .snl ng,s,[x]=>(snlOf x).bind fun b=>some (.lit (.bool (if ng then !b else b)),s)
 | .mki t,s,[x]=>some (.iface t x,s)
 | .ifn ng,s,[x]=>(ifnOf x).bind fun b=>some (.lit (.bool (if ng then !b else b)),s)
 | .ldz n,s,[x]=>ldzOf n s x
 | .bldz z ps,s,l=>(fillA z (zipP ps l)).bind fun cs=>frzV s (.agg cs)
 | .ldv n,s,[x]=>(ldvOf n s x).bind fun v=>some (v,s)
 | .s2b,s,[x]=>(s2bOf x).bind fun v=>some (v,s)
 | .bslm sz len,s,l=>bslmOf sz len s l
 | .gad g sz cs,s,[i]=>(asN i).bind fun i=>(gadOf g sz cs s i).bind fun v=>some (v,s)
 | _,_,_=>none
inductive AOp
 | mv (x:AO)
 | pick (c a b:AO)
 | alloc (lc:Bool) (z:List AV)
 | box (lc:Bool) (x:AO)
 | build (z:List AV) (ps:List (Nat × Nat × AO))
 | bsl (sz:Nat) (ps:List AO)
 | ld (h:Bool) (n:Option Nat) (a:AO)
 | st (h:Bool) (n:Nat) (a x:AO)
 | nck (x:AO)
 | bin (op:BinOp) (x y:AO)
 | beq (ng:Bool) (x y:AO)
 | peq (ng:Bool) (x y:AO)
 | mmx (mx:Bool) (x y:AO)
 | aeq (ng:Bool) (ks:List CK) (x y:AO)
 | unot (x:AO)
 | uneg (x:AO)
 | cvt (k:IntKind) (x:AO)
 | mkf (f:Nat) (fs cs:List AO)
 | mkm (kk:KK)
 | fa (off:Nat) (x:AO)
 | fld (off:Nat) (n:Option Nat) (x:AO)
 | ia (sz:Nat) (x i:AO)
 | iaa (len sz:Nat) (x i:AO)
 | ixs (x i:AO)
 | lk (kk:KK) (z:AV) (ok:Bool) (m k:AO)
 | mu (kk:KK) (m k v:AO)
 | dl (kk:KK) (m k:AO)
 | ext (x:AO) (i:Nat)
 | call (f:AO) (as:List AO)
 | len (st:Bool) (x:AO)
 | app (sz by_:Nat) (s x:AO)
 | sl (sz:Nat) (x:AO) (lo hi mx:Option AO)
 | sls (x:AO) (lo hi:Option AO)
 | dfr (f:AO) (as:List AO)
 | wop (k:WOp) (xs:List AO)
 | ldo (tk:Bool) (rt:Nat) (n:Option Nat) (a:AO)
 | callq (ks:List Nat) (f:AO) (as:List AO)
 | sts (m:Bool) (n:Nat) (a x:AO)
 | tas (t:Nat) (z:AV) (ok:Bool) (x:AO)
 | inv (tb:List (Nat × Nat)) (x:AO) (as:List AO)
structure AIns where
 d:Option Nat
 g:Option (Nat × Bool)
 op:AOp
inductive AC
 | skip
 | ret
 | exit (id:Nat)
 | retz (n d:Nat)
 | seq (a b:AC)
 | cond (c:AO) (t e:AC)
 | block (id:Nat) (b:AC)
 | loop (b:AC)
 | reg (l:List AIns) (fs k kl:List Nat)
 | regd (l:List AIns) (fs k kl:List Nat) (D:List (List Nat))
inductive ARes
 | t (n:Nat)
 | cell (n:Option Nat) (c:Nat)
structure AFun where
 np:Nat
 body:AC
 res:List ARes
abbrev Caller:=Nat → List AV → Sg → Option (List AV × Sg)
def dropL (d:Nat) (e:Nat → Option TV):Nat → Option TV:=fun i =>
 match e i with
 | some (.loc j o)=>if j=d then none else some (.loc j o)
 | x=>x
def toTV:List AV → TV
 | [v]=>.val v
 | vs=>.tup vs
def boundOf (e:Nat → Option TV):Option AO → Nat → Option Nat
 | none,n=>some n
 | some o,_=>(evV e o).bind fun v=>(asN v).bind fun i=>if 0 ≤ i then some i.toNat else none
def mayApp (o:Own) (fr:Fr):Option Fr :=
 match o with
 | .none=>none
 | .full=>some fr
 | .tip t=>if fr.lv t then some { fr with lv:=fun j=>if j=t then false else fr.lv j } else none
 | .gt g=>if fr.sg.gl g then some { fr with sg:={ fr.sg with gl:=fun j=>if j=g then false else fr.sg.gl j } } else none
def ldAt (fr:Fr) (h:Bool) (n:Option Nat):TV → Option AV
 | .loc i off=>(fr.loc i).bind fun cs=>rd n cs off
 | .val (.cptr cs off)=>rd n cs off
 | .val (.ptr id off)=>if h then (match fr.sg.ob id with
   | some (.row cs)=>rd n cs off
   | _=>none) else none
 | .val (.mp g off)=>if h then (fr.sg.mu g).bind fun cs=>rd n cs off else none
 | _=>none
def stAt (fr:Fr) (h:Bool) (v:AV):TV → Option Fr
 | .loc i off=>(fr.loc i).bind fun cs=>if off + v.cells.length ≤ cs.length then some { fr with loc:=upd fr.loc i (some (wr cs off v.cells)) } else none
 | .val (.ptr id off)=>if h then (match fr.sg.ob id with
   | some (.row cs)=>if off + v.cells.length ≤ cs.length then some { (stv v fr).2 with sg:=(stv v fr).2.sg.set id (.row (wr cs off (stv v fr).1.cells)) } else none
   | _=>none) else none
 | .val (.mp g off)=>if h then (fr.sg.mu g).bind fun cs=>if off + v.cells.length ≤ cs.length then
    some { (stv v fr).2 with sg:={ (stv v fr).2.sg with mu:=upd (stv v fr).2.sg.mu g (some (wr cs off (stv v fr).1.cells)) } } else none else none
 | _=>none
def evR (fr:Fr):ARes → Option AV
 | .t n=>evV fr.env (.t n)
 | .cell n c=>(fr.env c).bind fun p=>ldAt fr true n p
def evRs (fr:Fr):List ARes → Option (List AV)
 | []=>some []
 | r :: rs=>(evR fr r).bind fun v=>(evRs fr rs).bind fun l=>some (v :: l)
def nckOf:TV → Option TV
 | .loc i off=>some (.loc i off)
 | .val (.ptr i o)=>some (.val (.ptr i o))
 | .val (.cptr cs o)=>some (.val (.cptr cs o))
 | .val (.mp g o)=>some (.val (.mp g o))
 | .val (.fn f a b)=>some (.val (.fn f a b))
 | _=>none
def negOf:AV → Option AV
 | .lit (.int k n)=>some (.lit (.int k (k.wrap (0 - n))))
 | _=>none
def faOf (off:Nat):TV → Option TV
 | .loc i o=>some (.loc i (o + off))
 | .val (.ptr i o)=>some (.val (.ptr i (o + off)))
 | .val (.cptr cs o)=>some (.val (.cptr cs (o + off)))
 | .val (.mp g o)=>some (.val (.mp g (o + off)))
 | _=>none
def fldOf (off:Nat) (n:Option Nat):AV → Option AV
 | .agg cs=>rd n cs off
 | _=>none
def iaOf (sz:Nat) (i:Int):AV → Option AV
 | .slice _ sz' xs=>if sz=sz' ∧ 0 ≤ i then (xs[i.toNat]?).bind fun v=>some (.cptr v.cells 0) else none
 | .ms g off len sz'=>if sz=sz' ∧ 0 ≤ i ∧ i.toNat < len then some (.mp g (off + i.toNat * sz)) else none
 | _=>none
def ixsOf (i:Int):AV → Option AV
 | .lit (.string s)=>if 0 ≤ i then (s.data.toList[i.toNat]?).bind fun b=>some (.lit (.int .u8 b.toNat)) else none
 | _=>none
def mapOf (s:Sg) (kk:KK):AV → Option (Nat × (Value → Option AV))
 | .map id=>(match s.ob id with
   | some (.map kk' f)=>if KK.same kk kk' then some (id,f) else none
   | _=>none)
 | _=>none
def lkOf (s:Sg) (kk:KK) (k:Value):AV → Option (Option AV)
 | .lit (.map none)=>some none
 | m=>(mapOf s kk m).bind fun r=>some (r.2 k)
def extOf (i:Nat):TV → Option AV
 | .tup vs=>vs[i]?
 | _=>none
def callOf (call:Caller) (l:List AV) (s:Sg):AV → Option (List AV × Sg)
 | .fn f a b=>call f (AV.ers (a ++ l ++ b)) s
 | _=>none
def lenOfA:Bool → AV → Option AV
 | false,.slice _ _ xs=>some (.lit (.int .i64 xs.length))
 | false,.ms _ _ len _=>some (.lit (.int .i64 len))
 | true,.lit (.string s)=>some (.lit (.int .i64 s.size))
 | false,.lit (.slice none 0 0)=>some (.lit (.int .i64 0))
 | _,_=>none
def appOf (sz by_:Nat) (fr:Fr) (o:Own) (xs:List AV):List AV → Option (Option TV × Fr)
 | []=>some (some (.val (.slice o sz xs)),fr)
 | y :: ys=>if (xs.length + (y :: ys).length) * by_ ≤ 2 ^ 47 then (mayApp o fr).bind fun fr'=>some (some (.val (.slice (.tip fr'.nt) sz (xs ++ y :: ys))),
    { fr' with nt:=fr'.nt + 1,lv:=fun j=>if j=fr'.nt then true else fr'.lv j }) else none
def sliceOf (sz:Nat):AV → Option (Own × List AV)
 | .slice o sz' xs=>if sz=sz' then some (o,xs) else none
 | _=>none
def slOf (sz:Nat) (fr:Fr) (lo hi mx:Option AO):AV → Option AV
 | .slice o sz' xs=>if sz ≠ sz' then none else (boundOf fr.env lo 0).bind fun l=>(boundOf fr.env hi xs.length).bind fun h=>(boundOf fr.env mx h).bind fun m =>
    if l ≤ h ∧ h ≤ m ∧ m ≤ xs.length then some (.slice (if mx.isSome ∧ m=h then .full else .none) sz ((xs.take h).drop l)) else none
 | .ms g off len sz'=>if sz ≠ sz' then none else (boundOf fr.env lo 0).bind fun l=>(boundOf fr.env hi len).bind fun h=>(boundOf fr.env mx h).bind fun m =>
    if l ≤ h ∧ h ≤ m ∧ m ≤ len then some (if l=0 ∨ l < m then .ms g (off + l * sz) (h - l) sz else .slice (if mx.isSome then .full else .none) sz []) else none
 | _=>none
def slsOf (fr:Fr) (lo hi:Option AO):AV → Option AV
 | .lit (.string s)=>(boundOf fr.env lo 0).bind fun l=>(boundOf fr.env hi s.size).bind fun h =>
    if l ≤ h ∧ h ≤ s.size then some (.lit (.string (s.extract l h))) else none
 | _=>none
def dfrOf (fr:Fr) (l:List AV):AV → Option Fr
 | .fn f a b=>some { fr with df:=(f,AV.ers (a ++ l ++ b)) :: fr.df }
 | _=>none
def tipF:AV → Bool
 | .slice (.tip _) _ _=>false
 | _=>true
def stsK (m:Bool) (n:Nat) (v:AV):AV → Bool
 | .mp _ _=>m && tipF v && (v.cells.length == n)
 | .ptr _ _=>!m && tipF v && (v.cells.length == n)
 | _=>false
def stsS (m:Bool) (n:Nat) (s:Sg) (v p:AV):Option Sg :=
 if stsK m n v p=true then (match p with
  | .mp g off=>(s.mu g).bind fun cs=>if off + v.cells.length ≤ cs.length then some { s with mu:=upd s.mu g (some (wr cs off v.erT.cells)) } else none
  | .ptr id off=>(match s.ob id with
    | some (.row cs)=>if off + v.cells.length ≤ cs.length then some (s.set id (.row (wr cs off v.erT.cells))) else none
    | _=>none)
  | _=>none) else none
def ldoAt (tk:Bool) (s:Sg) (n:Option Nat):TV → TV → Option AV
 | .val (.ptr i _),.val (.ptr id off)=>if tk then none else if i=id then (match s.ob id with
   | some (.row cs)=>rd n cs off
   | _=>none) else none
 | .val (.ms g _ _ _),.val (.mp g' off)=>if tk then if g=g' then (s.mu g).bind fun cs=>rd n cs off else none else none
 | _,_=>none
def keeps (e:Nat → Option TV) (s s':Sg):List Nat → Prop
 | []=>s'.Q=s.Q
 | k :: ks=>((∃ id off o,e k=some (.val (.ptr id off)) ∧ s.ob id=some o ∧ s'.ob id=some o) ∨ ∃ g o l z,e k=some (.val (.ms g o l z)) ∧ s'.mu g=s.mu g) ∧ keeps e s s' ks
open Classical in
noncomputable def qres (e:Nat → Option TV) (ks:List Nat) (fr:Fr) (r:List AV × Sg):Option (Option TV × Fr) :=
 if keeps e fr.sg r.2 ks then some (some (toTV r.1),{ fr with sg:=r.2 }) else none
def tasOf (t:Nat) (z:AV) (ok:Bool):AV → Option TV
 | .iface t' v=>if t'=t then some (if ok then .tup [v,.lit (.bool true)] else .val v) else if ok then some (.tup [z,.lit (.bool false)]) else none
 | .lit .nilIface=>if ok then some (.tup [z,.lit (.bool false)]) else none
 | _=>none
def invOf (call:Caller) (tb:List (Nat × Nat)) (l:List AV) (s:Sg):AV → Option (List AV × Sg)
 | .iface t v=>(tb.find? fun q=>q.1 == t).bind fun q=>call q.2 (AV.ers (v :: l)) s
 | _=>none
noncomputable def aop (call:Caller) (d:Option Nat) (op:AOp) (fr:Fr):Option (Option TV × Fr) :=
 match op with
 | .mv x=>(ev fr.env x).bind fun v=>some (some v,fr)
 | .pick c a b=>(evV fr.env c).bind fun v=>(asB v).bind fun t=>(if t then ev fr.env a else ev fr.env b).bind fun v=>some (some v,fr)
 | .alloc true z=>d.bind fun i=>some (some (.loc i 0),{ fr with env:=dropL i fr.env,loc:=upd fr.loc i (some z) })
 | .alloc false z=>some (some (.val (.ptr fr.sg.nx 0)),{ fr with sg:=fr.sg.new (.row z) })
 | .box true x=>d.bind fun i=>(evV fr.env x).bind fun v=>some (some (.loc i 0),{ fr with env:=dropL i fr.env,loc:=upd fr.loc i (some v.cells) })
 | .box false x=>(evV fr.env x).bind fun v=>some (some (.val (.ptr fr.sg.nx 0)),{ fr with sg:=fr.sg.new (.row (AV.erTs v.cells)) })
 | .build z ps=>(evPs fr.env ps).bind fun l=>(fillA z l).bind fun cs=>some (some (.val (.agg cs)),fr)
 | .bsl sz ps=>(evVs fr.env ps).bind fun l=>if l.all (fun v=>v.cells.length == sz) then some (some (.val (.slice .full sz (AV.ers l))),fr) else none
 | .ld h n a=>(ev fr.env a).bind fun p=>(ldAt fr h n p).bind fun v=>some (some (.val v),fr)
 | .st h n a x=>(ev fr.env a).bind fun p=>(evV fr.env x).bind fun v=>if v.cells.length=n then (stAt fr h v p).bind fun fr'=>some (none,fr') else none
 | .nck x=>(ev fr.env x).bind fun p=>(nckOf p).bind fun v=>some (some v,fr)
 | .bin op x y=>(evV fr.env x).bind fun a=>(evV fr.env y).bind fun b=>(abin op a b).bind fun v=>some (some (.val v),fr)
 | .beq ng x y=>(evV fr.env x).bind fun a=>(asB a).bind fun a=>(evV fr.env y).bind fun b=>(asB b).bind fun b=>some (some (.val (.lit (.bool (if ng then !(a == b) else (a == b))))),fr)
 | .peq ng x y=>(ev fr.env x).bind fun a=>(isNilP a).bind fun a=>(ev fr.env y).bind fun b=>(isNilP b).bind fun b=>if a || b then some (some (.val (.lit (.bool (if ng then !(a && b) else (a && b))))),fr) else none
 | .mmx mx x y=>(evV fr.env x).bind fun a=>(evV fr.env y).bind fun b=>(mmOf mx a b).bind fun v=>some (some (.val v),fr)
 | .aeq ng ks x y=>(evV fr.env x).bind fun a=>(evV fr.env y).bind fun b=>(aeqOf ks a b).bind fun r=>some (some (.val (.lit (.bool (if ng then !r else r)))),fr)
 | .unot x=>(evV fr.env x).bind fun a=>(asB a).bind fun a=>some (some (.val (.lit (.bool (!a)))),fr)
 | .uneg x=>(evV fr.env x).bind fun a=>(negOf a).bind fun v=>some (some (.val v),fr)
 | .cvt k x=>(evV fr.env x).bind fun a=>(asN a).bind fun n=>some (some (.val (.lit (.int k (k.wrap n)))),fr)
 | .mkf f fs cs=>(evVs fr.env fs).bind fun a=>(evVs fr.env cs).bind fun b=>some (some (.val (.fn f (AV.ers a) (AV.ers b))),fr)
 | .mkm kk=>some (some (.val (.map fr.sg.nx)),{ fr with sg:=fr.sg.new (.map kk fun _=>none) })
 | .fa off x=>(ev fr.env x).bind fun p=>(faOf off p).bind fun v=>some (some v,fr)
 | .fld off n x=>(evV fr.env x).bind fun a=>(fldOf off n a).bind fun v=>some (some (.val v),fr)
 | .ia sz x i=>(evV fr.env x).bind fun a=>(evV fr.env i).bind fun i=>(asN i).bind fun i=>(iaOf sz i a).bind fun v=>some (some (.val v),fr)
 | .iaa len sz x i=>(ev fr.env x).bind fun p=>(evV fr.env i).bind fun i=>(asN i).bind fun i=>if 0 ≤ i ∧ i < len then (faOf (i.toNat * sz) p).bind fun v=>some (some v,fr) else none
 | .ixs x i=>(evV fr.env x).bind fun a=>(evV fr.env i).bind fun i=>(asN i).bind fun i=>(ixsOf i a).bind fun v=>some (some (.val v),fr)
 | .lk kk z ok m k=>(evV fr.env m).bind fun m=>(evV fr.env k).bind fun k=>(keyOf kk k).bind fun k=>(lkOf fr.sg kk k m).bind fun r=>some (some (if ok then .tup [r.getD z,.lit (.bool r.isSome)] else .val (r.getD z)),fr)
 | .mu kk m k v=>(evV fr.env m).bind fun m=>(evV fr.env k).bind fun k=>(keyOf kk k).bind fun k=>(evV fr.env v).bind fun v=>(mapOf fr.sg kk m).bind fun r=>some (none,{ fr with sg:=fr.sg.set r.1 (.map kk (mset r.2 k (some v.er))) })
 | .dl kk m k=>(evV fr.env m).bind fun m=>(evV fr.env k).bind fun k=>(keyOf kk k).bind fun k=>(mapOf fr.sg kk m).bind fun r=>some (none,{ fr with sg:=fr.sg.set r.1 (.map kk (mset r.2 k none)) })
 | .ext x i=>(ev fr.env x).bind fun p=>(extOf i p).bind fun v=>some (some (.val v),fr)
 | .call f as=>(evV fr.env f).bind fun g=>(evVs fr.env as).bind fun l=>(callOf call l fr.sg g).bind fun r=>some (some (toTV r.1),{ fr with sg:=r.2 })
 | .len st x=>(evV fr.env x).bind fun a=>(lenOfA st a).bind fun v=>some (some (.val v),fr)
 | .app sz by_ s x=>(evV fr.env s).bind fun a=>(evV fr.env x).bind fun b=>(sliceOf sz a).bind fun a=>(sliceOf sz b).bind fun b=>appOf sz by_ fr a.1 a.2 b.2
 | .sl sz x lo hi mx=>(evV fr.env x).bind fun a=>(slOf sz fr lo hi mx a).bind fun v=>some (some (.val v),fr)
 | .sls x lo hi=>(evV fr.env x).bind fun a=>(slsOf fr lo hi a).bind fun v=>some (some (.val v),fr)
 | .dfr f as=>(evV fr.env f).bind fun g=>(evVs fr.env as).bind fun l=>(dfrOf fr l g).bind fun fr'=>some (none,fr')
 | .wop k xs=>(evVs fr.env xs).bind fun l=>(wopOf k fr.sg l).bind fun r=>some (some (.val r.1),{ fr with sg:=r.2 })
 | .ldo tk rt n a=>(fr.env rt).bind fun q=>(ev fr.env a).bind fun p=>(ldoAt tk fr.sg n q p).bind fun v=>some (some (.val v),fr)
 | .callq ks f as=>(evV fr.env f).bind fun g=>(evVs fr.env as).bind fun l=>(callOf call l fr.sg g).bind fun r=>qres fr.env ks fr r
 | .sts m n a x=>(evV fr.env a).bind fun p=>(evV fr.env x).bind fun v=>(stsS m n fr.sg v p).bind fun s=>some (none,{ fr with sg:=s })
 | .tas t z ok x=>(evV fr.env x).bind fun v=>(tasOf t z ok v).bind fun r=>some (some r,fr)
 | .inv tb x as=>(evV fr.env x).bind fun g=>(evVs fr.env as).bind fun l=>(invOf call tb l fr.sg g).bind fun r=>some (some (toTV r.1),{ fr with sg:=r.2 })
def putD (fr:Fr) (d:Option Nat) (v:Option TV):Fr :=
 match d with
 | some i=>{ fr with env:=upd fr.env i v }
 | none=>fr
noncomputable def run1 (call:Caller) (i:AIns) (fr:Fr):Option Fr:=(aop call i.d i.op fr).bind fun r=>some (putD r.2 i.d r.1)
def guardOf:TV → Option (Option Bool)
 | .und=>some none
 | .val (.lit (.bool b))=>some (some b)
 | _=>none
noncomputable def ins (call:Caller) (i:AIns) (fr:Fr):Option Fr :=
 match i.g with
 | none=>run1 call i fr
 | some (s,want)=>(fr.env s).bind fun tv=>(guardOf tv).bind fun y=>if y=some want then run1 call i fr else some (putD fr i.d (some .und))
noncomputable def exL (call:Caller):List AIns → Fr → Option Fr
 | [],fr=>some fr
 | i :: l,fr=>(ins call i fr).bind fun fr'=>exL call l fr'
def Fr.keep (k kl:List Nat) (fr:Fr):Fr:={ fr with env:=keepE k fr.env,loc:=keepE kl fr.loc }
def Fr.fresh:List Nat → Fr → Fr
 | [],fr=>fr
 | d :: ds,fr=>{ Fr.fresh ds fr with env:=dropL d (Fr.fresh ds fr).env,loc:=upd (Fr.fresh ds fr).loc d none }
inductive Ex
 | norm
 | exit (id:Nat)
 | ret
def loopN (body:Fr → Option (Ex × Fr)):Nat → Fr → Option (Ex × Fr)
 | 0,_=>none
 | n + 1,fr=>(body fr).bind fun r=>match r.1 with
   | .norm=>loopN body n r.2
   | _=>some r
def dum:AIns:=⟨none,none,.mkm .str⟩
def Ready (D:List (List Nat)):List Nat → List Nat → Prop
 | _,[]=>True
 | done,x :: r=>(∀ d,d ∈ D.getD x [] → d ∈ done) ∧ Ready D (x :: done) r
def anyOrder (call:Caller) (l:List AIns) (D:List (List Nat)) (f fr':Fr):Prop :=
 ∀ π:List Nat,π.Perm (List.range l.length) → Ready D [] π → exL call (π.map fun k=>l.getD k dum) f=some fr'
structure Lists (f:Value → Option AV) (L:List (Value × AV)):Prop where
 nd:(L.map (·.1)).Nodup
 ok:∀ k v,(k,v) ∈ L ↔ f k=some v
noncomputable def retzF (n d:Nat) (fr:Fr):Option Fr:=match fr.loc d with
 | some cs=>(frzDL (frzD n) fr.sg cs).bind fun r=>some { fr with loc:=upd fr.loc d (some r.1),sg:=r.2 }
 | none=>(match fr.env d with
   | some (.val v)=>(frzD n fr.sg v).bind fun r=>some { fr with env:=upd fr.env d (some (.val r.1)),sg:=r.2 }
   | _=>none)
open Classical in
noncomputable def aexec (call:Caller) (lp:Nat):AC → Fr → Option (Ex × Fr)
 | .skip,fr=>some (.norm,fr)
 | .ret,fr=>some (.ret,fr)
 | .retz n d,fr=>(retzF n d fr).bind fun fr'=>some (.ret,fr')
 | .exit id,fr=>some (.exit id,fr)
 | .seq a b,fr=>(aexec call lp a fr).bind fun r=>match r.1 with
   | .norm=>aexec call lp b r.2
   | _=>some r
 | .cond c t e,fr=>(evV fr.env c).bind fun v=>(asB v).bind fun b=>if b then aexec call lp t fr else aexec call lp e fr
 | .block id b,fr=>(aexec call lp b fr).bind fun r=>match r.1 with
   | .exit id'=>if id'=id then some (.norm,r.2) else some r
   | _=>some r
 | .loop b,fr=>loopN (aexec call lp b) lp fr
 | .reg l fs k kl,fr=>(exL call l (fr.fresh fs)).bind fun fr'=>some (.norm,fr'.keep k kl)
 | .regd l fs k kl D,fr=>(exL call l (fr.fresh fs)).bind fun fr'=>if anyOrder call l D (fr.fresh fs) fr' then some (.norm,fr'.keep k kl) else none
def runD (call:Caller):List (Nat × List AV) → Sg → Option Sg
 | [],s=>some s
 | (f,as) :: r,s=>(call f as s).bind fun x=>runD call r x.2
def Fr.start (args:List AV) (s:Sg):Fr:={ env:=fun i=>(args[i]?).map TV.val,loc:=fun _=>none,nt:=0,lv:=fun _=>false,df:=[],sg:=s }
noncomputable def runFnD (call:Caller) (lp:Nat) (fn:AFun) (args:List AV) (s:Sg):Option (List AV × Sg) :=
 if args.length=fn.np then
  (aexec call lp fn.body (Fr.start args s)).bind fun r=>(match r.1,r.2.df with
    | .exit _,_=>none
    | _,[]=>(evRs r.2 fn.res).bind fun l=>some (AV.ers l,r.2.sg)
    | _,_=>none)
 else none
noncomputable def runFn (call callD:Caller) (lp:Nat) (fn:AFun) (args:List AV) (s:Sg):Option (List AV × Sg) :=
 if args.length=fn.np then
  (aexec call lp fn.body (Fr.start args s)).bind fun r=>(match r.1 with
    | .exit _=>none
    | _=>(runD callD r.2.df r.2.sg).bind fun s'=>(evRs { r.2 with sg:=s' } fn.res).bind fun l=>some (AV.ers l,s'))
 else none
structure Pg where
 fn:Nat → Option AFun
 ov:Nat → Option (List AV → Sg → Option (List AV × Sg))
noncomputable def callN (p:Pg):Nat → Caller
 | 0,_,_,_=>none
 | n + 1,f,args,s=>match p.ov f with
   | some g=>g args s
   | none=>(p.fn f).bind fun fn=>runFn (callN p n) (fun f args s=>(p.fn f).bind fun fn=>runFnD (callN p n) n fn args s) n fn args s
noncomputable def callDN (p:Pg) (n:Nat):Caller:=fun f args s=>(p.fn f).bind fun fn=>runFnD (callN p n) n fn args s
theorem stv_tipF {v:AV} {fr:Fr} (h:tipF v=true):stv v fr=(v.erT,fr):=by
 unfold stv
 split
 ·cases h
 rfl
theorem sts_st {m:Bool} {n:Nat} {fr:Fr} {v p:AV} (h:stsK m n v p=true):v.cells.length=n ∧ stAt fr true v (.val p)=(stsS m n fr.sg v p).map fun s=>{ fr with sg:=s }:=by
 unfold stsS
 rw [if_pos h]
 unfold stsK at h
 split at h
 ·simp only [Bae,beq_iff_eq] at h
  refine ⟨h.2,?_⟩
  simp only [stAt,if_true,stv_tipF h.1.2]
  rename_i g off
  cases fr.sg.mu g with
  | none=>rfl
  | some cs =>
    simp only [Obs]
    split <;> rfl
 ·simp only [Bae,beq_iff_eq] at h
  refine ⟨h.2,?_⟩
  simp only [stAt,if_true,stv_tipF h.1.2]
  rename_i id off
  cases fr.sg.ob id with
  | none=>rfl
  | some o =>
    cases o with
    | map kk f=>rfl
    | row cs =>
      simp only
      split <;> rfl
 cases h
theorem sts_K {m:Bool} {n:Nat} {s s':Sg} {v p:AV} (h:stsS m n s v p=some s'):stsK m n v p=true:=by
 unfold stsS at h
 split at h
 ·assumption
 cases h
end Go.Sim
namespace Go.Sim
open Go
def fo {β:Type} (n:Nat) (k:Nat → β):β:=match n with
 | 0=>k 0
 | m + 1=>k (m + 1)
def digs:Nat → Nat → List Nat
 | 0,_=>[]
 | f + 1,n=>match n with
   | 0=>[]
   | m + 1=>fo ((m + 1) / 64) fun q=>fo ((m + 1) % 64) fun r=>r :: digs f q
structure Tb where
 av:List AV
 z:List (List AV)
 w:List WOp
 bo:List BinOp
 kk:List KK
 ck:List (List CK)
 ik:List IntKind
section
variable {β α:Type} (T:Tb)
def dN (p:Nat) (s:List Nat) (k:Nat → Nat → List Nat → β):β:=match s with
 | []=>k 0 p []
 | a :: r=>match Nat.blt a 52 with
   | true=>k a p r
   | false=>match Nat.blt a 62 with
     | true=>(match r with
       | b :: r=>fo (52 + (a - 52) * 64 + b) fun n=>k n p r
       | []=>k 0 p [])
     | false=>match r with
       | b :: c :: d :: r=>fo (b * 4096 + c * 64 + d) fun n=>k n p r
       | _=>k 0 p []
def dLn (d:Nat → List Nat → (α → Nat → List Nat → β) → β):Nat → Nat → List Nat → (List α → Nat → List Nat → β) → β
 | 0,p,s,k=>k [] p s
 | n + 1,p,s,k=>d p s fun a p s=>dLn d n p s fun l p s=>k (a :: l) p s
def dL (d:Nat → List Nat → (α → Nat → List Nat → β) → β) (p:Nat) (s:List Nat) (k:List α → Nat → List Nat → β):β:=dN p s fun n p s=>dLn d n p s k
def dKn:Nat → Nat → Nat → List Nat → (List Nat → Nat → List Nat → β) → β
 | 0,_,p,s,k=>k [] p s
 | n + 1,a,p,s,k=>dN p s fun d p s=>fo (a + d) fun b=>dKn n b p s fun l p s=>k (b :: l) p s
def dK (p:Nat) (s:List Nat) (k:List Nat → Nat → List Nat → β):β:=dN p s fun n p s=>dKn n 0 p s k
def dA (p:Nat) (s:List Nat) (k:AO → Nat → List Nat → β):β:=dN p s fun v p s=>match v with
 | 0=>dN p s fun i p s=>k (.c (T.av.getD i (.map 0))) p s
 | 1=>dN p s fun i p s=>k (.f i) p s
 | 2=>dN p s fun i p s=>k (.t i) p s
 | v + 3=>fo (p + 1 - v) fun n=>k (.t n) p s
def dB (p:Nat) (s:List Nat) (k:Bool → Nat → List Nat → β):β:=dN p s fun v p s=>match v with
 | 0=>k false p s
 | _=>k true p s
def dM (d:Nat → List Nat → (α → Nat → List Nat → β) → β) (p:Nat) (s:List Nat) (k:Option α → Nat → List Nat → β):β:=dN p s fun v p s=>match v with
 | 0=>k none p s
 | _=>d p s fun a p s=>k (some a) p s
def dQ (p:Nat) (s:List Nat) (k:Option Nat → Nat → List Nat → β):β:=dN p s fun v p s=>match v with
 | 0=>k none p s
 | v + 1=>k (some v) p s
def dP (d:Nat → List Nat → (α → Nat → List Nat → β) → β) (p:Nat) (s:List Nat) (k:Nat × Nat × α → Nat → List Nat → β):β:=dN p s fun a p s=>dN p s fun b p s=>d p s fun c p s=>k (a,b,c) p s
def dZ (p:Nat) (s:List Nat) (k:List AV → Nat → List Nat → β):β:=dN p s fun i p s=>k (T.z.getD i []) p s
def dKk (p:Nat) (s:List Nat) (k:KK → Nat → List Nat → β):β:=dN p s fun i p s=>k (T.kk.getD i .str) p s
def dOp (o:Nat) (p:Nat) (s:List Nat) (k:AOp → Nat → List Nat → β):β :=
 let a:=dA (β:=β) T
 match o with
 | 0=>a p s fun x p s=>k (.mv x) p s
 | 1=>a p s fun x p s=>a p s fun y p s=>a p s fun z p s=>k (.pick x y z) p s
 | 2=>dB p s fun b p s=>dZ T p s fun z p s=>k (.alloc b z) p s
 | 3=>dB p s fun b p s=>a p s fun x p s=>k (.box b x) p s
 | 4=>dZ T p s fun z p s=>dL (dP a) p s fun l p s=>k (.build z l) p s
 | 5=>dN p s fun n p s=>dL a p s fun l p s=>k (.bsl n l) p s
 | 6=>dQ p s fun n p s=>a p s fun x p s=>k (.ld false n x) p s
 | 7=>dQ p s fun n p s=>a p s fun x p s=>k (.ld true n x) p s
 | 8=>dB p s fun b p s=>dN p s fun n p s=>a p s fun x p s=>a p s fun y p s=>k (.st b n x y) p s
 | 9=>a p s fun x p s=>k (.nck x) p s
 | 10=>dN p s fun i p s=>a p s fun x p s=>a p s fun y p s=>k (.bin (T.bo.getD i .add) x y) p s
 | 11=>dB p s fun b p s=>a p s fun x p s=>a p s fun y p s=>k (.beq b x y) p s
 | 12=>dB p s fun b p s=>a p s fun x p s=>a p s fun y p s=>k (.peq b x y) p s
 | 13=>dB p s fun b p s=>a p s fun x p s=>a p s fun y p s=>k (.mmx b x y) p s
 | 14=>dB p s fun b p s=>dN p s fun i p s=>a p s fun x p s=>a p s fun y p s=>k (.aeq b (T.ck.getD i []) x y) p s
 | 15=>a p s fun x p s=>k (.unot x) p s
 | 16=>a p s fun x p s=>k (.uneg x) p s
 | 17=>dN p s fun i p s=>a p s fun x p s=>k (.cvt (T.ik.getD i .i64) x) p s
 | 18=>dN p s fun f p s=>dL a p s fun l p s=>dL a p s fun m p s=>k (.mkf f l m) p s
 | 19=>dKk T p s fun x p s=>k (.mkm x) p s
 | 20=>dN p s fun n p s=>a p s fun x p s=>k (.fa n x) p s
 | 21=>dN p s fun n p s=>dQ p s fun m p s=>a p s fun x p s=>k (.fld n m x) p s
 | 22=>dN p s fun n p s=>a p s fun x p s=>a p s fun y p s=>k (.ia n x y) p s
 | 23=>dN p s fun n p s=>dN p s fun m p s=>a p s fun x p s=>a p s fun y p s=>k (.iaa n m x y) p s
 | 24=>a p s fun x p s=>a p s fun y p s=>k (.ixs x y) p s
 | 25=>dKk T p s fun q p s=>dN p s fun i p s=>dB p s fun b p s=>a p s fun x p s=>a p s fun y p s=>k (.lk q (T.av.getD i (.map 0)) b x y) p s
 | 26=>dKk T p s fun q p s=>a p s fun x p s=>a p s fun y p s=>a p s fun z p s=>k (.mu q x y z) p s
 | 27=>dKk T p s fun q p s=>a p s fun x p s=>a p s fun y p s=>k (.dl q x y) p s
 | 28=>a p s fun x p s=>dN p s fun n p s=>k (.ext x n) p s
 | 29=>a p s fun x p s=>dL a p s fun l p s=>k (.call x l) p s
 | 30=>dB p s fun b p s=>a p s fun x p s=>k (.len b x) p s
 | 31=>dN p s fun n p s=>dN p s fun m p s=>a p s fun x p s=>a p s fun y p s=>k (.app n m x y) p s
 | 32=>dN p s fun n p s=>a p s fun x p s=>dM a p s fun y p s=>dM a p s fun z p s=>dM a p s fun w p s=>k (.sl n x y z w) p s
 | 33=>a p s fun x p s=>dM a p s fun y p s=>dM a p s fun z p s=>k (.sls x y z) p s
 | 34=>a p s fun x p s=>dL a p s fun l p s=>k (.dfr x l) p s
 | 35=>dN p s fun i p s=>dL a p s fun l p s=>k (.wop (T.w.getD i .stop) l) p s
 | 36=>dB p s fun b p s=>dN p s fun r p s=>dQ p s fun n p s=>a p s fun x p s=>k (.ldo b r n x) p s
 | 37=>dL dN p s fun ks p s=>a p s fun x p s=>dL a p s fun l p s=>k (.callq ks x l) p s
 | 38=>dB p s fun b p s=>dN p s fun n p s=>a p s fun x p s=>a p s fun y p s=>k (.sts b n x y) p s
 | 39=>dN p s fun t p s=>dN p s fun i p s=>dB p s fun b p s=>a p s fun x p s=>k (.tas t (T.av.getD i (.map 0)) b x) p s
 | _=>dL (fun p s k=>dN p s fun x p s=>dN p s fun y p s=>k (x,y) p s) p s fun tb p s=>a p s fun x p s=>dL a p s fun l p s=>k (.inv tb x l) p s
def noDst:Nat → Bool
 | 8=>true
 | 38=>true
 | 26=>true
 | 27=>true
 | 34=>true
 | _=>false
def dT (p:Nat) (s:List Nat) (k:Nat → Nat → List Nat → β):β:=dA T p s fun x p s=>match x with
 | .t n=>k n p s
 | _=>k 0 p s
def dI2 (g:Option (Nat × Bool)) (p:Nat) (s:List Nat) (k:AIns → Nat → List Nat → β):β:=match s with
 | []=>k ⟨none,g,.mkm .str⟩ p []
 | o :: s=>match noDst o with
   | true=>dOp T o p s fun x p s=>k ⟨none,g,x⟩ p s
   | false=>match Nat.blt o 59 with
     | true=>fo (p + 1) fun q=>dOp T o p s fun x p s=>k ⟨some q,g,x⟩ q s
     | false=>match o with
       | 61=>dN p s fun o p s=>dOp T o p s fun x p s=>k ⟨none,g,x⟩ p s
       | 60=>dN p s fun v p s=>fo (p + 2 + v) fun q=>dN (q - 1) s fun o p s=>dOp T o p s fun x p s=>k ⟨some q,g,x⟩ q s
       | _=>dN p s fun d p s=>dN p s fun o p s=>dOp T o p s fun x p s=>k ⟨some d,g,x⟩ p s
def dI (p:Nat) (s:List Nat) (k:AIns → Nat → List Nat → β):β:=match s with
 | 63 :: s=>dT T p s fun n p s=>dI2 T (some (n,true)) p s k
 | 62 :: s=>dT T p s fun n p s=>dI2 T (some (n,false)) p s k
 | s=>dI2 T none p s k
def dC:Nat → Nat → List Nat → (AC → Nat → List Nat → β) → β
 | 0,p,s,k=>k .skip p s
 | f + 1,p,s,k=>dN p s fun v p s=>match v with
   | 0=>k .skip p s
   | 1=>k .ret p s
   | 2=>dN p s fun i p s=>k (.exit i) p s
   | 3=>dN p s fun i p s=>dN p s fun j p s=>k (.retz i j) p s
   | 4=>dC f p s fun a p s=>dC f p s fun b p s=>k (.seq a b) p s
   | 5=>dA T p s fun x p s=>dC f p s fun a p s=>dC f p s fun b p s=>k (.cond x a b) p s
   | 6=>dN p s fun i p s=>dC f p s fun a p s=>k (.block i a) p s
   | 7=>dC f p s fun a p s=>k (.loop a) p s
   | 8=>dL (dI T) p s fun l p s=>dK p s fun fs p s=>dK p s fun x p s=>dK p s fun y p s=>k (.reg l fs x y) p s
   | _=>dL (dI T) p s fun l p s=>dK p s fun fs p s=>dK p s fun x p s=>dK p s fun y p s=>dL (dL dN) p s fun D p s=>k (.regd l fs x y D) p s
def dR (p:Nat) (s:List Nat) (k:ARes → Nat → List Nat → β):β:=dQ p s fun v p s=>match v with
 | none=>dN p s fun i p s=>k (.t i) p s
 | some n=>dQ p s fun m p s=>dN p s fun i p s=>k (.cell m i) p s
end
def dF (T:Tb) (n:Nat):AFun:=dN 0 (digs 100000 n) fun np p s=>dC T 1000 p s fun b p s=>dL dR p s fun r _ _=>⟨np,b,r⟩
def gF (l:List AFun) (n:Nat):AFun:=l.getD n ⟨0,.skip,[]⟩
abbrev MT {α:Type} (a:α):={ x:α // a=x }
end Go.Sim
namespace Go.Sim
open Go
def keyV:KK → Value → Prop
 | .int k,v=>∃ n,v=.int k n
 | .str,v=>∃ s,v=.string s
 | .int2 k,v=>∃ a b,v=.agg #[.int k a,.int k b]
structure MR (G:Gh) (kk:KK) (m:Value → Option AV) (es:List MapEntry) (clock:Nat):Prop where
 fwd:∀ e ∈ es,∃ a,m e.key=some a ∧ VR G a e.val ∧ a.nt=true
 bwd:∀ k a,m k=some a → ∃ e ∈ es,e.key=k
 nd:(es.map (·.key)).Nodup
 ky:∀ e ∈ es,keyV kk e.key
 bn:∀ e ∈ es,e.born < clock
 bd:(es.map (·.born)).Nodup
def OR (G:Gh) (w:World) (b:Nat):AObj → Prop
 | .row cs=>∃ vs,BL w b vs ∧ VRs G cs vs ∧ AV.nts cs=true ∧ cs.all AV.isCell=true
 | .map kk m=>∃ (es:Array MapEntry) (clock:Nat),w.heap[b]?=some (.map es clock) ∧ MR G kk m es.toList clock
def kok (o:Nat):Ow → Prop
 | .free=>True
 | .tip _ e=>o < e
 | .gt _ e=>o < e
 | _=>False
def Right (G:Gh) (w:World) (x:Option (Addr × Nat × Nat × Nat)) (mk:Nat → Ow):Prop :=
 ∃ b off len cap sz cs,x=some (⟨b,off,none⟩,len,cap,sz) ∧ G.ow b=mk (off + len * sz) ∧ BL w b cs ∧ off + cap * sz ≤ cs.length
def Mut (G:Gh) (w:World) (g:Nat) (cs:List AV):Prop :=
 ∃ b room vs rest,G.M g=some (b,room) ∧ G.ow b=.mu g ∧ BL w b (vs ++ rest) ∧ VRs G cs vs ∧ AV.nts cs=true ∧ cs.all AV.isCell=true ∧ (vs ++ rest).length=room
structure WI (G:Gh) (s:Sg) (w:World):Prop where
 claim:∀ b o c,G.K b o c → (∃ v,w.cell? ⟨b,o,none⟩=some v ∧ VR G c v) ∧ c.nt=true ∧ c.isCell=true
 kow:∀ b o c,G.K b o c → kok o (G.ow b)
 obj:∀ id o,s.ob id=some o → ∃ b,G.ow b=.obj id ∧ OR G w b o
 obu:∀ id b b',G.ow b=.obj id → G.ow b'=.obj id → b=b'
 obn:∀ id b,G.ow b=.obj id → id < s.nx
 gts:∀ g,s.gl g=true → Right G w (G.U g) (.gt g)
 gn:∀ g x,G.U g=some x → g < s.gn
 owlt:∀ b,G.ow b ≠ .free → b < w.heap.size
 glb:∀ b o c,s.Q b o=some c → G.K b o c
 mus:∀ g cs,s.mu g=some cs → Mut G w g cs
 mun:∀ g x,G.M g=some x → g < s.mn
 hid:∀ b,G.H b=true → ∃ id,G.ow b=.obj id ∧ s.ob id=none
structure Pres (w0:World) (G0 G:Gh) (w:World):Prop where
 os:w.os=w0.os
 tape:w.tape=w0.tape
 output:w.output=w0.output
 size:w0.heap.size ≤ w.heap.size
 free:∀ b,b < w0.heap.size → G0.ow b=.free → w.heap[b]?=w0.heap[b]? ∧ G.ow b=.free ∧ ∀ o,G.K b o=G0.K b o
 le:Gle G0 G
 hid:∀ b,b < w0.heap.size → G0.H b=true → w.heap[b]?=w0.heap[b]? ∧ G.H b=true
theorem Pres.refl (w:World) (G:Gh):Pres w G G w:=⟨rfl,rfl,rfl,Nat.le_refl _,fun _ _ h=>⟨rfl,h,fun _=>rfl⟩,Gle.refl G,fun _ _ h=>⟨rfl,h⟩⟩
def TR (G:Gh):TV → Value → Prop
 | .loc i off,v=>∃ b,v=.pointer (some ⟨b,off,none⟩) ∧ G.ow b=.loc i
 | .val a,v=>VR G a v
 | .tup vs,v=>∃ l:List Value,v=.tuple l.toArray ∧ VRs G vs l
 | .und,v=>v=undef
def DR (G:Gh):List (Nat × List AV) → List Deferred → Prop
 | [],ds=>ds=[]
 | (f,as) :: r,ds=>∃ d ds' cap,ds=d :: ds' ∧ d.target=.fn (.func f) cap ∧ VRs G as (d.args ++ cap).toList ∧ AV.nts as=true ∧ DR G r ds'
structure RR (w0:World) (G0 G:Gh) (fr:Fr) (a:Act) (w:World):Prop where
 env:∀ i tv,fr.env i=some tv → i < a.tmps.size ∧ TR G tv (a.tmps.getD i undef)
 loc:∀ i cs,fr.loc i=some cs → ∃ b vs,G.ow b=.loc i ∧ BL w b vs ∧ VRs G cs vs ∧ cs.all AV.isCell=true
 locu:∀ i b b',G.ow b=.loc i → G.ow b'=.loc i → b=b'
 tips:∀ t,fr.lv t=true → Right G w (G.T t) (.tip t)
 nt:∀ t x,G.T t=some x → t < fr.nt
 wi:WI G fr.sg w
 df:DR G fr.df a.defers
 pres:Pres w0 G0 G w
theorem TR_mono {G G':Gh} (h:Gle G G') (hT:Tle G G') {tv:TV} {v:Value} (hl:∀ i b,tv=.loc i b → ∀ k,G.ow k=.loc i → G'.ow k=.loc i) (hr:TR G tv v):TR G' tv v:=by
 cases tv with
 | loc i off=>obtain ⟨b,rfl,hb⟩:=hr;exact ⟨b,rfl,hl i off rfl b hb⟩
 | val a=>exact VR_mono' h a v (.inl hT) hr
 | tup vs=>obtain ⟨l,rfl,hv⟩:=hr;exact ⟨l,rfl,VRs_mono' h vs l (.inl hT) hv⟩
 | und=>exact hr
theorem DR_mono {G G':Gh} (h:Gle G G'):∀ (l:List (Nat × List AV)) (ds:List Deferred),DR G l ds → DR G' l ds
 | [],ds,hd=>hd
 | (f,as) :: r,ds,hd=>by
  obtain ⟨d,ds',cap,rfl,ht,hv,hn,hr⟩:=hd
  exact ⟨d,ds',cap,rfl,ht,VRs_mono' h as _ (.inr hn) hv,hn,DR_mono h r ds' hr⟩
theorem MR_mono {G G':Gh} (h:Gle G G') {kk:KK} {m:Value → Option AV} {es:List MapEntry} {clock:Nat} (hm:MR G kk m es clock):MR G' kk m es clock :=
 ⟨fun e he=>let ⟨a,h1,h2,h3⟩:=hm.fwd e he;⟨a,h1,VR_mono' h a _ (.inr h3) h2,h3⟩,hm.bwd,hm.nd,hm.ky,hm.bn,hm.bd⟩
theorem OR_mono {G G':Gh} (h:Gle G G') {w w':World} {b:Nat} (e:w'.heap[b]?=w.heap[b]?) {o:AObj} (ho:OR G w b o):OR G' w' b o:=by
 cases o with
 | row cs=>obtain ⟨vs,hb,hv,hn,hc⟩:=ho;exact ⟨vs,hb.of_heap e,VRs_mono' h cs vs (.inr hn) hv,hn,hc⟩
 | map kk m=>obtain ⟨es,cl,hb,hm⟩:=ho;exact ⟨es,cl,e.trans hb,MR_mono h hm⟩
theorem getD_eq {a:Array Value} {i:Nat} (h:i < a.size):a.getD i undef=a[i]:=by simp [Array.getD,h]
theorem RR.put {w0:World} {G0 G:Gh} {fr:Fr} {a:Act} {w:World} (h:RR w0 G0 G fr a w) {d:Option Nat} {tv:Option TV} {v:Value}
 (hd:∀ i,d=some i → i < a.tmps.size) (hv:∀ x,tv=some x → TR G x v):RR w0 G0 G (putD fr d tv) (a.put d v) w:=by
 cases d with
 | none=>exact h
 | some i =>
   refine ⟨?_,h.loc,h.locu,h.tips,h.nt,h.wi,h.df,h.pres⟩
   intro j x hx
   simp only [putD,upd] at hx
   simp only [Act.put,Array.size_setIfInBounds]
   split at hx
   ·rename_i hj
    subst hj
    have hi:=hd _ rfl
    refine ⟨hi,?_⟩
    rw [getD_eq (by simpa using hi)]
    simpa using hv x hx
   rename_i hj
   obtain ⟨h1,h2⟩:=h.env j x hx
   refine ⟨h1,?_⟩
   rw [getD_eq (by simpa using h1),Array.getElem_setIfInBounds (by simpa using h1),if_neg (fun e=>hj e.symm)]
   rwa [getD_eq h1] at h2
theorem RR.keep {w0:World} {G0 G:Gh} {fr:Fr} {a:Act} {w:World} (h:RR w0 G0 G fr a w) (k kl:List Nat):RR w0 G0 G (fr.keep k kl) a w:=by
 have key:∀ {α:Type} (k:List Nat) (e:Nat → Option α) (i:Nat) (x:α),keepE k e i=some x → e i=some x:=by
  intro α k e i x
  induction k with
  | nil=>intro hx;cases hx
  | cons k ks ih =>
    simp only [keepE,upd]
    split
    ·rename_i hj;subst hj;exact id
    exact ih
 exact ⟨fun i tv hx=>h.env i tv (key k _ i tv hx),fun i cs hx=>h.loc i cs (key kl _ i cs hx),h.locu,h.tips,h.nt,h.wi,h.df,h.pres⟩
theorem RR.fresh {w0:World} {G0 G:Gh} {fr:Fr} {a:Act} {w:World} (h:RR w0 G0 G fr a w):∀ (ds:List Nat),RR w0 G0 G (fr.fresh ds) a w
 | []=>h
 | d :: ds=>by
   have ih:=RR.fresh h ds
   refine ⟨?_,?_,ih.locu,ih.tips,ih.nt,ih.wi,ih.df,ih.pres⟩
   ·intro i tv hx
    refine ih.env i tv ?_
    simp only [Fr.fresh,dropL] at hx
    split at hx
    ·split at hx
     ·cases hx
     rename_i j o e hj;rw [e];exact hx
    exact hx
   intro i cs hx
   refine ih.loc i cs ?_
   simp only [Fr.fresh,Sim.upd] at hx
   split at hx
   ·cases hx
   exact hx
def litEq:Value → Value → Bool
 | .bool a,.bool b=>a == b
 | .int j a,.int k b=>decide (j=k) && decide (a=b)
 | .string a,.string b=>decide (a=b)
 | .pointer none,.pointer none=>true
 | .map none,.map none=>true
 | .nilFunc,.nilFunc=>true
 | .nilIface,.nilIface=>true
 | .slice none 0 0,.slice none 0 0=>true
 | _,_=>false
theorem litEq_sound {v u:Value} (h:litEq v u=true):u=v ∧ plainV v=true:=by
 unfold litEq at h
 split at h <;> simp_all [plainV]
mutual
def cok:AV → Value → Bool
 | .lit x,v=>litEq x v
 | .agg cs,v=>(match v with
   | .agg vs=>coks cs vs.toList && cs.all AV.isCell
   | _=>false)
 | .slice o sz xs,v=>(match o,xs,v with
   | .full,[],.slice none 0 0=>true
   | _,_,_=>false)
 | _,_=>false
def coks:List AV → List Value → Bool
 | [],vs=>vs.isEmpty
 | a :: as,vs=>(match vs with
   | v :: r=>cok a v && coks as r
   | []=>false)
end
mutual
theorem cok_sound (G:Gh):∀ (a:AV) (v:Value),cok a v=true → VR G a v ∧ a.nt=true
 | .lit x,v,h=>by
   obtain ⟨rfl,hp⟩:=litEq_sound (by simpa only [cok] using h)
   exact ⟨by unfold VR;exact ⟨rfl,hp⟩,rfl⟩
 | .agg cs,v,h=>by
   simp only [cok] at h
   split at h
   ·rename_i vs
    simp only [Bae] at h
    obtain ⟨h1,h2⟩:=coks_sound G cs vs.toList h.1
    exact ⟨by simp only [VR];exact ⟨vs.toList,by simp,h1,h.2⟩,by simpa only [AV.nt] using h2⟩
   cases h
 | .slice o sz xs,v,h=>by
   simp only [cok] at h
   split at h
   ·refine ⟨?_,J⟩
    simp only [VR]
    unfold SRel
    refine ⟨none,0,rfl,Nat.le_refl _,by simp,?_,?_⟩
    ·exact rfl
    exact rfl
   cases h
 | .ptr i o,v,h=>by simp [cok] at h
 | .cptr i o,v,h=>by simp [cok] at h
 | .map i,v,h=>by simp [cok] at h
 | .ms g o l z,v,h=>by simp [cok] at h
 | .mp g o,v,h=>by simp [cok] at h
 | .fn f a b,v,h=>by simp [cok] at h
 | .iface t x,v,h=>by simp [cok] at h
theorem coks_sound (G:Gh):∀ (as:List AV) (vs:List Value),coks as vs=true → VRs G as vs ∧ AV.nts as=true
 | [],vs,h=>by
   simp only [coks,List.isEmpty_iff] at h
   subst h
   exact ⟨rfl,rfl⟩
 | a :: as,vs,h=>by
   simp only [coks] at h
   split at h
   ·rename_i v r
    simp only [Bae] at h
    obtain ⟨h1,h2⟩:=cok_sound G a v h.1
    obtain ⟨h3,h4⟩:=coks_sound G as r h.2
    exact ⟨by simp only [VRs];exact ⟨v,r,rfl,h1,h3⟩,by simp only [AV.nts,h2,h4];rfl⟩
   cases h
end
def mO:AO → Operand → Bool
 | .t n,.tmp m=>n == m
 | .c a,.const v=>cok a v
 | .f n,.func m=>n == m
 | _,_=>false
def mOs:List AO → List Operand → Bool
 | [],[]=>true
 | a :: as,o :: os=>mO a o && mOs as os
 | _,_=>false
theorem RR.ev {w0:World} {G0 G:Gh} {fr:Fr} {a:Act} {w:World} (h:RR w0 G0 G fr a w) {x:AO} {o:Operand} {tv:TV} (hm:mO x o=true) (he:Sim.ev fr.env x=some tv) :
 TR G tv (a.eval o):=by
 cases x with
 | t n =>
   cases o <;> simp only [mO,beq_iff_eq,reduceCtorEq,Bool.false_eq_true] at hm
   subst hm
   exact (h.env n tv he).2
 | c v =>
   cases o <;> simp only [mO,reduceCtorEq,Bool.false_eq_true] at hm
   simp only [Sim.ev,Oie] at he
   subst he
   exact (cok_sound G _ _ hm).1
 | f n =>
   cases o <;> simp only [mO,beq_iff_eq,reduceCtorEq,Bool.false_eq_true] at hm
   subst hm
   simp only [Sim.ev,Oie] at he
   subst he
   show VR G (.fn n [] []) _
   simp only [VR]
   exact ⟨[],[],rfl,rfl,rfl⟩
theorem evV_some {e:Nat → Option TV} {x:AO} {v:AV} (h:evV e x=some v):ev e x=some (.val v):=by
 unfold evV at h
 cases hx:ev e x with
 | none=>simp [hx] at h
 | some tv=>cases tv <;> simp_all [TV.v]
theorem RR.evV {w0:World} {G0 G:Gh} {fr:Fr} {a:Act} {w:World} (h:RR w0 G0 G fr a w) {x:AO} {o:Operand} {v:AV} (hm:mO x o=true) (he:Sim.evV fr.env x=some v) :
 VR G v (a.eval o):=h.ev hm (evV_some he)
theorem RR.evVs {w0:World} {G0 G:Gh} {fr:Fr} {a:Act} {w:World} (h:RR w0 G0 G fr a w):∀ {x:List AO} {o:List Operand} {v:List AV},mOs x o=true → Sim.evVs fr.env x=some v →
 VRs G v (o.map a.eval)
 | [],[],v,_,he=>by
   simp only [Sim.evVs,Oie] at he
   subst he
   rfl
 | [],_ :: _,v,hm,he=>by simp [mOs] at hm
 | _ :: _,[],v,hm,he=>by simp [mOs] at hm
 | x :: xs,o :: os,v,hm,he=>by
   simp only [mOs,Bae] at hm
   simp only [Sim.evVs,Obe,Oie] at he
   obtain ⟨u,hu,l,hl,rfl⟩:=he
   simp only [List.map_cons,VRs]
   exact ⟨_,_,rfl,h.evV hm.1 hu,RR.evVs h hm.2 hl⟩
end Go.Sim
namespace Go.Sim
open Go
theorem Right.mono {G G':Gh} {w w':World} {x x':Option (Addr × Nat × Nat × Nat)} {mk:Nat → Ow} (h:Right G w x mk) (hx:∀ y,x=some y → x'=some y)
 (ho:∀ b e,G.ow b=mk e → G'.ow b=mk e ∧ w'.heap[b]?=w.heap[b]?):Right G' w' x' mk:=by
 obtain ⟨b,off,len,cap,sz,cs,h1,h2,h3,h4⟩:=h
 obtain ⟨h5,h6⟩:=ho b _ h2
 exact ⟨b,off,len,cap,sz,cs,hx _ h1,h5,h3.of_heap h6,h4⟩
theorem Mut.mono {G G':Gh} {w w':World} {g:Nat} {cs:List AV} (le:Gle G G') (hm:∀ b,G.ow b=.mu g → G'.ow b=.mu g ∧ w'.heap[b]?=w.heap[b]?) (h:Mut G w g cs):Mut G' w' g cs:=by
 obtain ⟨b,room,vs,rest,h1,h2,h3,h4,h5,h6,h7⟩:=h
 obtain ⟨k1,k2⟩:=hm b h2
 exact ⟨b,room,vs,rest,le.M _ _ h1,k1,h3.of_heap k2,VRs_mono' le cs vs (.inr h5) h4,h5,h6,h7⟩
theorem WI.upd0 {G:Gh} {s:Sg} {w:World} (h:WI G s w) {G':Gh} {s':Sg} {w':World} (le:Gle G G')
 (cell:∀ b o c,G.K b o c → w'.cell? ⟨b,o,none⟩=w.cell? ⟨b,o,none⟩)
 (newc:∀ b o c,G'.K b o c → G.K b o c ∨ ((∃ v,w'.cell? ⟨b,o,none⟩=some v ∧ VR G' c v) ∧ c.nt=true ∧ c.isCell=true))
 (kow:∀ b o c,G'.K b o c → kok o (G'.ow b))
 (obj:∀ id o,s'.ob id=some o → ∃ b,G'.ow b=.obj id ∧ OR G' w' b o)
 (obu:∀ id b b',G'.ow b=.obj id → G'.ow b'=.obj id → b=b')
 (obn:∀ id b,G'.ow b=.obj id → id < s'.nx)
 (gts:∀ g,s'.gl g=true → Right G' w' (G'.U g) (.gt g))
 (gn:∀ g x,G'.U g=some x → g < s'.gn)
 (owlt:∀ b,G'.ow b ≠ .free → b < w'.heap.size) (mus:∀ g cs,s'.mu g=some cs → Mut G' w' g cs) (mun:∀ g x,G'.M g=some x → g < s'.mn) (hQ:s'.Q=s.Q:=by rfl) (hH:G'.H=G.H:=by rfl) (hob:∀ id b,G.ow b=.obj id → s.ob id=none → s'.ob id=none:=by exact fun _ _ _ x=>x):WI G' s' w':=by
 refine ⟨?_,kow,obj,obu,obn,gts,gn,owlt,fun b o c hq=>le.1 b o c (h.glb b o c (by rw [← hQ];exact hq)),mus,mun,fun b hb=>let ⟨id,h1,h2⟩:=h.hid b (by rw [← hH];exact hb);⟨id,le.ob b id h1,hob id b h1 h2⟩⟩
 intro b o c hc
 rcases newc b o c hc with h1 | h1
 ·obtain ⟨⟨v,hv,hr⟩,hn,hi⟩:=h.claim b o c h1
  exact ⟨⟨v,(cell b o c h1).trans hv,VR_mono' le c v (.inr hn) hr⟩,hn,hi⟩
 exact h1
theorem WI.upd {G:Gh} {s:Sg} {w:World} (h:WI G s w) {G':Gh} {s':Sg} {w':World} (le:Gle G G')
 (cell:∀ b o c,G.K b o c → w'.cell? ⟨b,o,none⟩=w.cell? ⟨b,o,none⟩)
 (newc:∀ b o c,G'.K b o c → G.K b o c ∨ ((∃ v,w'.cell? ⟨b,o,none⟩=some v ∧ VR G' c v) ∧ c.nt=true ∧ c.isCell=true))
 (kow:∀ b o c,G'.K b o c → kok o (G'.ow b))
 (obj:∀ id o,s'.ob id=some o → ∃ b,G'.ow b=.obj id ∧ OR G' w' b o)
 (obu:∀ id b b',G'.ow b=.obj id → G'.ow b'=.obj id → b=b')
 (obn:∀ id b,G'.ow b=.obj id → id < s'.nx)
 (gts:∀ g,s'.gl g=true → Right G' w' (G'.U g) (.gt g))
 (gn:∀ g x,G'.U g=some x → g < s'.gn)
 (owlt:∀ b,G'.ow b ≠ .free → b < w'.heap.size) (hmu:∀ b g,G.ow b=.mu g → G'.ow b=.mu g ∧ w'.heap[b]?=w.heap[b]?) (hQ:s'.Q=s.Q:=by rfl) (hs:s'.mu=s.mu:=by rfl) (hmn:s'.mn=s.mn:=by rfl) (hM:G'.M=G.M:=by rfl) (hH:G'.H=G.H:=by rfl) (hob:∀ id b,G.ow b=.obj id → s.ob id=none → s'.ob id=none:=by exact fun _ _ _ x=>x):WI G' s' w':=by
 refine ⟨?_,kow,obj,obu,obn,gts,gn,owlt,fun b o c hq=>le.1 b o c (h.glb b o c (by rw [← hQ];exact hq)),fun g cs hg=>(h.mus g cs (by rw [← hs];exact hg)).mono le fun b hb=>hmu b g hb,fun g x hx=>by rw [hmn];exact h.mun g x (by rw [← hM];exact hx),fun b hb=>let ⟨id,h1,h2⟩:=h.hid b (by rw [← hH];exact hb);⟨id,le.ob b id h1,hob id b h1 h2⟩⟩
 intro b o c hc
 rcases newc b o c hc with h1 | h1
 ·obtain ⟨⟨v,hv,hr⟩,hn,hi⟩:=h.claim b o c h1
  exact ⟨⟨v,(cell b o c h1).trans hv,VR_mono' le c v (.inr hn) hr⟩,hn,hi⟩
 exact h1
theorem WI.kfree {G:Gh} {s:Sg} {w:World} (h:WI G s w) {b o:Nat} {c:AV} (hc:G.K b o c):b < w.heap.size:=by
 obtain ⟨⟨v,hv,_⟩,_⟩:=h.claim b o c hc
 rcases Nat.lt_or_ge b w.heap.size with hl | hl
 ·exact hl
 simp [World.cell?,Array.getElem?_eq_none hl] at hv
theorem WI.nofree {G:Gh} {s:Sg} {w:World} (h:WI G s w) {b:Nat} (hb:w.heap.size ≤ b):G.ow b=.free ∧ ∀ o c,¬ G.K b o c:=by
 constructor
 ·cases hf:G.ow b with
  | free=>rfl
  | _=>exact absurd (h.owlt b (by rw [hf];simp)) (by omega)
 intro o c hc
 exact absurd (h.kfree hc) (by omega)
theorem Grew.cell {w w':World} (h:Grew w w') {b:Nat} (hb:b < w.heap.size) (o:Nat):w'.cell? ⟨b,o,none⟩=w.cell? ⟨b,o,none⟩:=cell_of_heap (h.heap b hb)
section
variable {w0:World} {G0 G:Gh} {fr:Fr} {a:Act} {w w':World}
def Gh.own (G:Gh) (b:Nat) (x:Ow):Gh:={ G with ow:=fun k=>if k=b then x else G.ow k }
theorem Pres.mono (h:Pres w0 G0 G w) {G':Gh} (os:w'.os=w.os) (tape:w'.tape=w.tape) (output:w'.output=w.output) (size:w.heap.size ≤ w'.heap.size) (le:Gle G G')
 (fr:∀ b,b < w.heap.size → G.ow b=.free → w'.heap[b]?=w.heap[b]? ∧ G'.ow b=.free ∧ ∀ o,G'.K b o=G.K b o)
 (fh:∀ b,b < w.heap.size → G.H b=true → w'.heap[b]?=w.heap[b]? ∧ G'.H b=true):Pres w0 G0 G' w':=by
 refine ⟨os.trans h.os,tape.trans h.tape,output.trans h.output,Nat.le_trans h.size size,?_,h.le.trans le,fun b hb hf=>let ⟨h1,h2⟩:=h.hid b hb hf;let ⟨k1,k2⟩:=fh b (Nat.lt_of_lt_of_le hb h.size) h2;⟨k1.trans h1,k2⟩⟩
 intro b hb hf
 obtain ⟨h1,h2,h3⟩:=h.free b hb hf
 obtain ⟨k1,k2,k3⟩:=fr b (Nat.lt_of_lt_of_le hb h.size) h2
 exact ⟨k1.trans h1,k2,fun o=>(k3 o).trans (h3 o)⟩
theorem RR.draws (h:RR w0 G0 G fr a w) (hh:w'.heap=w.heap) (os:w'.os=w.os) (tape:w'.tape=w.tape) (output:w'.output=w.output):RR w0 G0 G fr a w':=by
 have hc:∀ x,w'.cell? x=w.cell? x:=fun x=>cell_of_heap (by rw [hh])
 have hR:∀ {x mk},Right G w x mk → Right G w' x mk:=fun r=>r.mono (fun _ e=>e) fun b e hb=>⟨hb,by rw [hh]⟩
 refine ⟨h.env,?_,h.locu,fun t ht=>hR (h.tips t ht),h.nt,?_,h.df,?_⟩
 ·intro i cs hx
  obtain ⟨b,vs,h1,h2,h3⟩:=h.loc i cs hx
  exact ⟨b,vs,h1,h2.of_heap (by rw [hh]),h3⟩
 ·refine h.wi.upd (Gle.refl G) (fun b o c _=>hc _) (fun b o c hk=>.inl hk) h.wi.kow ?_ h.wi.obu h.wi.obn (fun g hg=>hR (h.wi.gts g hg)) h.wi.gn (by rw [hh];exact h.wi.owlt) (fun b g hb=>⟨hb,by rw [hh]⟩)
  intro id o ho
  obtain ⟨b,h1,h2⟩:=h.wi.obj id o ho
  exact ⟨b,h1,OR_mono (Gle.refl G) (by rw [hh]) h2⟩
 exact h.pres.mono os tape output (by rw [hh];exact Nat.le_refl _) (Gle.refl G) (fun b _ hb=>⟨by rw [hh],hb,fun _=>rfl⟩) fun b _ hb=>⟨by rw [hh],hb⟩
theorem RR.grow (h:RR w0 G0 G fr a w) (hg:Grew w w'):RR w0 G0 G fr a w':=by
 have hR:∀ {x mk},(∀ b e,G.ow b=mk e → b < w.heap.size) → Right G w x mk → Right G w' x mk:=fun hl r=>r.mono (fun _ e=>e) fun b e hb=>⟨hb,hg.heap b (hl b e hb)⟩
 have hlt:∀ b,G.ow b ≠ .free → b < w.heap.size:=h.wi.owlt
 refine ⟨h.env,?_,h.locu,fun t ht=>hR (fun b e hb=>hlt b (by rw [hb];simp)) (h.tips t ht),h.nt,?_,h.df,?_⟩
 ·intro i cs hx
  obtain ⟨b,vs,h1,h2,h3⟩:=h.loc i cs hx
  exact ⟨b,vs,h1,h2.of_heap (hg.heap b h2.lt),h3⟩
 ·refine h.wi.upd (Gle.refl G) (fun b o c hk=>hg.cell (h.wi.kfree hk) o) (fun b o c hk=>.inl hk) h.wi.kow ?_ h.wi.obu h.wi.obn (fun g hg'=>hR (fun b e hb=>hlt b (by rw [hb];simp)) (h.wi.gts g hg')) h.wi.gn ?_ (fun b g hb=>⟨hb,hg.heap b (hlt b (by rw [hb];simp))⟩)
  ·intro id o ho
   obtain ⟨b,h1,h2⟩:=h.wi.obj id o ho
   exact ⟨b,h1,OR_mono (Gle.refl G) (hg.heap b (hlt b (by rw [h1];simp))) h2⟩
  intro b hb
  have:=hlt b hb
  rw [hg.size];omega
 exact h.pres.mono hg.os hg.tape hg.output (by rw [hg.size];omega) (Gle.refl G) (fun b hb hf=>⟨hg.heap b hb,hf,fun _=>rfl⟩) fun b hb hf=>⟨hg.heap b hb,hf⟩
theorem RR.mkobj (h:RR w0 G0 G fr a w) {b:Nat} (hb:w0.heap.size ≤ b) (hlt:b < w.heap.size) (hf:G.ow b=.free) (hk:∀ o c,¬ G.K b o c) {o:AObj}
 (ho:∀ G',Gle G G' → OR G' w b o):RR w0 G0 (G.own b (.obj fr.sg.nx)) { fr with sg:=fr.sg.new o } a w:=by
 have hnew:∀ k,G.ow k ≠ .obj fr.sg.nx:=fun k e=>absurd (h.wi.obn _ k e) (by omega)
 have le:Gle G (G.own b (.obj fr.sg.nx)):=⟨fun _ _ _ x=>x,fun k id hk'=>by
  simp only [Gh.own]
  split
  ·rename_i e;subst e;rw [hf] at hk';cases hk'
  exact hk',fun _ _ x=>x,fun _ _ x=>x⟩
 have hT:Tle G (G.own b (.obj fr.sg.nx)):=fun _ _ x=>x
 have hl:∀ i k,G.ow k=.loc i → (G.own b (.obj fr.sg.nx)).ow k=.loc i:=by
  intro i k hk'
  simp only [Gh.own]
  split
  ·rename_i e;subst e;rw [hf] at hk';cases hk'
  exact hk'
 have hl':∀ x,(∀ id,x ≠ .obj id) → x ≠ .free → ∀ k,(G.own b (.obj fr.sg.nx)).ow k=x → G.ow k=x:=by
  intro x hx _ k hk'
  simp only [Gh.own] at hk'
  split at hk'
  ·exact absurd hk'.symm (hx _)
  exact hk'
 have hR:∀ {x mk},(∀ e,mk e ≠ .free) → Right G w x mk → Right (G.own b (.obj fr.sg.nx)) w x mk:=fun hm r=>r.mono (fun _ e=>e) fun k e hk'=>⟨by
  simp only [Gh.own]
  split
  ·rename_i e';subst e';rw [hf] at hk';exact absurd hk'.symm (hm e)
  exact hk',rfl⟩
 refine ⟨?_,?_,?_,fun t ht=>hR (fun e=>by simp) (h.tips t ht),h.nt,?_,DR_mono le _ _ h.df,?_⟩
 ·intro i tv hx
  obtain ⟨h1,h2⟩:=h.env i tv hx
  exact ⟨h1,TR_mono le hT (fun i _ _ k hk'=>hl i k hk') h2⟩
 ·intro i cs hx
  obtain ⟨b',vs,h1,h2,h3,h4⟩:=h.loc i cs hx
  exact ⟨b',vs,hl i b' h1,h2,VRs_mono' le cs vs (.inl hT) h3,h4⟩
 ·intro i k k' h1 h2
  exact h.locu i k k' (hl' _ (by simp) (by simp) k h1) (hl' _ (by simp) (by simp) k' h2)
 ·refine h.wi.upd le (fun b o c _=>rfl) (fun b o c hk'=>.inl hk') ?_ ?_ ?_ ?_ (fun g hg=>hR (fun e=>by simp) (h.wi.gts g hg)) h.wi.gn ?_ (fun k g hk'=>⟨by
   simp only [Gh.own]
   split
   ·rename_i e';subst e';rw [hf] at hk';cases hk'
   exact hk',rfl⟩) (hob:=fun id k hk' hn=>by
   have:=h.wi.obn id k hk'
   show (Sim.upd fr.sg.ob fr.sg.nx (some o)) id=none
   rw [Sim.upd_ne _ _ (by omega)];exact hn)
  ·intro k o' c hc
   simp only [Gh.own] at hc ⊢
   split
   ·rename_i e;subst e;exact absurd hc (hk _ _)
   exact h.wi.kow k o' c hc
  ·intro id o' ho'
   simp only [Sg.new,Sim.upd] at ho'
   split at ho'
   ·rename_i e;subst e
    simp only [Oie] at ho'
    subst ho'
    exact ⟨b,by simp [Gh.own],ho _ le⟩
   obtain ⟨k,h1,h2⟩:=h.wi.obj id o' ho'
   exact ⟨k,le.ob k id h1,OR_mono le rfl h2⟩
  ·intro id k k' h1 h2
   simp only [Gh.own] at h1 h2
   split at h1 <;> split at h2
   ·omega
   ·rename_i e _;cases h1;exact absurd h2 (hnew k')
   ·cases h2;exact absurd h1 (hnew k)
   exact h.wi.obu id k k' h1 h2
  ·intro id k h1
   simp only [Gh.own] at h1
   simp only [Sg.new]
   split at h1
   ·cases h1;omega
   have:=h.wi.obn id k h1;omega
  intro k h1
  simp only [Gh.own] at h1
  split at h1
  ·rename_i e;subst e;exact hlt
  exact h.wi.owlt k h1
 have h0:=h.pres
 refine ⟨h0.os,h0.tape,h0.output,h0.size,?_,h0.le.trans le,h0.hid⟩
 intro k hk' hf'
 obtain ⟨h1,h2,h3⟩:=h0.free k hk' hf'
 exact ⟨h1,by simp only [Gh.own];rw [if_neg (by omega)];exact h2,h3⟩
theorem RR.mkloc (h:RR w0 G0 G fr a w) {b i:Nat} (hb:w0.heap.size ≤ b) (hf:G.ow b=.free) (hk:∀ o c,¬ G.K b o c) {vs:List Value} {cs:List AV}
 (hB:BL w b vs) (hv:VRs G cs vs) (hc:cs.all AV.isCell=true) :
 ∃ G',RR w0 G0 G' { fr with env:=dropL i fr.env,loc:=Sim.upd fr.loc i (some cs) } a w ∧ G'.ow b=.loc i:=by
 let G':Gh:={ G with ow:=fun k=>if k=b then .loc i else (match G.ow k with | .loc j=>if j=i then .free else .loc j | x=>x) }
 have hne:∀ k,G.ow k ≠ .free → k ≠ b:=fun k hk' e=>hk' (e ▸ hf)
 have how:∀ k x,G.ow k=x → x ≠ .free → x ≠ .loc i → G'.ow k=x:=by
  intro k x hx h1 h2
  show (if k=b then Ow.loc i else _)=x
  rw [if_neg (hne k (by rw [hx];exact h1)),hx]
  cases x with
  | loc j=>simp only;rw [if_neg (fun e=>h2 (by rw [e]))]
  | _=>rfl
 have how':∀ k x,G'.ow k=x → x ≠ .free → x ≠ .loc i → G.ow k=x:=by
  intro k x hx h1 h2
  have hx':(if k=b then Ow.loc i else (match G.ow k with | .loc j=>if j=i then .free else .loc j | x=>x))=x:=hx
  split at hx'
  ·exact absurd hx'.symm h2
  revert hx'
  cases G.ow k with
  | loc j =>
    simp only
    split
    ·intro e;exact absurd e.symm h1
    exact id
  | _=>exact id
 have le:Gle G G':=⟨fun _ _ _ x=>x,fun k id hk'=>how k _ hk' (by simp) (by simp),fun _ _ x=>x,fun _ _ x=>x⟩
 have hT:Tle G G':=fun _ _ x=>x
 have hR:∀ {x mk},(∀ e,mk e ≠ .free ∧ mk e ≠ .loc i) → Right G w x mk → Right G' w x mk:=fun hm r=>r.mono (fun _ e=>e) fun k e hk'=>⟨how k _ hk' (hm e).1 (hm e).2,rfl⟩
 refine ⟨G',⟨?_,?_,?_,fun t ht=>hR (fun e=>by simp) (h.tips t ht),h.nt,?_,DR_mono le _ _ h.df,?_⟩,by show (if b=b then Ow.loc i else _)=_;rw [if_pos rfl]⟩
 ·intro j tv hx
  simp only [dropL] at hx
  have hx':fr.env j=some tv ∧ ∀ k o,tv=.loc k o → k ≠ i:=by
   split at hx
   ·split at hx
    ·cases hx
    rename_i he hne';cases hx;exact ⟨he,fun k o e=>by cases e;exact hne'⟩
   rename_i hno
   exact ⟨hx,fun k o e=>by subst e;exact absurd hx (hno k o)⟩
  obtain ⟨h1,h2⟩:=h.env j tv hx'.1
  exact ⟨h1,TR_mono le hT (fun k o e m hm=>how m _ hm (by simp) (by simpa using hx'.2 k o e)) h2⟩
 ·intro j cs' hx
  simp only [Sim.upd] at hx
  split at hx
  ·rename_i e;subst e;cases hx
   exact ⟨b,vs,by show (if b=b then Ow.loc _ else _)=_;rw [if_pos rfl],hB,VRs_mono' le cs vs (.inl hT) hv,hc⟩
  rename_i hne'
  obtain ⟨b',vs',h1,h2,h3,h4⟩:=h.loc j cs' hx
  exact ⟨b',vs',how b' _ h1 (by simp) (by simpa using hne'),h2,VRs_mono' le cs' vs' (.inl hT) h3,h4⟩
 ·intro j k k' h1 h2
  by_cases hj:j=i
  ·subst hj
   have:∀ k,G'.ow k=.loc j → k=b:=by
    intro k hk'
    have hk'':(if k=b then Ow.loc j else (match G.ow k with | .loc m=>if m=j then .free else .loc m | x=>x))=.loc j:=hk'
    split at hk''
    ·assumption
    revert hk''
    cases G.ow k with
    | loc m =>
      simp only
      split
      ·intro e;cases e
      rename_i hm;intro e;cases e;exact absurd rfl hm
    | _=>intro e;cases e
   rw [this k h1,this k' h2]
  exact h.locu j k k' (how' k _ h1 (by simp) (by simpa using hj)) (how' k' _ h2 (by simp) (by simpa using hj))
 ·refine h.wi.upd le (fun b o c _=>J) (fun b o c hk'=>.inl hk') ?_ ?_ ?_ ?_ (fun g hg=>hR (fun e=>by simp) (h.wi.gts g hg)) h.wi.gn ?_ (fun k g hk'=>⟨how k _ hk' (by simp) (by simp),J⟩)
  ·intro k o c hc'
   have h1:=h.wi.kow k o c hc'
   have hkb:k ≠ b:=fun e=>by subst e;exact hk _ _ hc'
   cases hx:G.ow k with
   | free =>
     have:G'.ow k=.free:=by show (if k=b then Ow.loc i else _)=_;rw [if_neg hkb,hx]
     rw [this];trivial
   | tip t e=>rw [how k _ hx (by simp) (by simp)];rw [hx] at h1;exact h1
   | gt g e=>rw [how k _ hx (by simp) (by simp)];rw [hx] at h1;exact h1
   | obj id=>rw [hx] at h1;exact h1.elim
   | loc j=>rw [hx] at h1;exact h1.elim
   | mu g=>rw [hx] at h1;exact h1.elim
  ·intro id o' ho'
   obtain ⟨k,h1,h2⟩:=h.wi.obj id o' ho'
   exact ⟨k,le.ob k id h1,OR_mono le rfl h2⟩
  ·intro id k k' h1 h2
   exact h.wi.obu id k k' (how' k _ h1 (by simp) (by simp)) (how' k' _ h2 (by simp) (by simp))
  ·intro id k h1
   exact h.wi.obn id k (how' k _ h1 (by simp) (by simp))
  intro k h1
  by_cases e:k=b
  ·subst e;exact hB.lt
  refine h.wi.owlt k fun hx=>h1 ?_
  show (if k=b then Ow.loc i else _)=_
  rw [if_neg e,hx]
 have h0:=h.pres
 refine ⟨h0.os,h0.tape,h0.output,h0.size,?_,h0.le.trans le,h0.hid⟩
 intro k hk' hf'
 obtain ⟨h1,h2,h3⟩:=h0.free k hk' hf'
 refine ⟨h1,?_,h3⟩
 show (if k=b then Ow.loc i else _)=_
 rw [if_neg (by omega),h2]
end
end Go.Sim
namespace Go.Sim
open Go
section
variable {w0:World} {G0 G:Gh} {fr:Fr} {a:Act} {w w':World}
def claimAt (G:Gh) (b e:Nat) (cs:List AV):Nat → Nat → AV → Prop:=fun k o=>if k=b ∧ e ≤ o ∧ o < e + cs.length then fun c=>cs[o - e]?=some c else G.K k o
theorem claimAt_new (G:Gh) (b e:Nat) (cs:List AV) (j:Nat) (c:AV) (h:cs[j]?=some c):claimAt G b e cs b (e + j) c:=by
 have hj:j < cs.length:=by
  rcases Nat.lt_or_ge j cs.length with h' | h'
  ·exact h'
  rw [List.getElem?_eq_none h'] at h;cases h
 unfold claimAt
 rw [if_pos ⟨rfl,by omega,by omega⟩]
 show cs[e + j - e]?=some c
 rw [show e + j - e=j from by omega]
 exact h
theorem claimAt_old (G:Gh) {b e:Nat} (cs:List AV) (hk:∀ o c,G.K b o c → o < e) {k o:Nat} {c:AV} (h:G.K k o c):claimAt G b e cs k o c:=by
 unfold claimAt
 rw [if_neg (fun ⟨h1,h2,_⟩=>by subst h1;have:=hk o c h;omega)]
 exact h
theorem claimAt_inv (G:Gh) {b e:Nat} (cs:List AV) {k o:Nat} {c:AV} (h:claimAt G b e cs k o c):G.K k o c ∨ (k=b ∧ ∃ j,o=e + j ∧ cs[j]?=some c):=by
 unfold claimAt at h
 split at h
 ·rename_i hh
  exact .inr ⟨hh.1,o - e,by omega,h⟩
 exact .inl h
theorem RR.retip (h:RR w0 G0 G fr a w) {b e:Nat} (hA:∀ o c,G.K b o c → o < e)
 (hD1:∀ id,G.ow b ≠ .obj id) (hD2:∀ i,G.ow b ≠ .loc i)
 (hB1:∀ t,fr.lv t=true → ∀ x,G.ow b ≠ .tip t x) (hB2:∀ g,fr.sg.gl g=true → ∀ x,G.ow b ≠ .gt g x)
 (hC:b < w0.heap.size → G0.ow b ≠ .free) (hD3:∀ g,G.ow b ≠ .mu g)
 {vs:List Value} (ho:Only w w' b) (hB:BL w' b vs) (hcell:∀ o,o < e → w'.cell? ⟨b,o,none⟩=w.cell? ⟨b,o,none⟩)
 {cs:List AV} {ws:List Value} (hv:VRs G cs ws) (hn:AV.nts cs=true) (hc:cs.all AV.isCell=true) (hw:∀ (j:Nat) v,ws[j]?=some v → vs[e + j]?=some v)
 {off len cap sz:Nat} (he:off + len * sz=e + cs.length) (hcap:off + cap * sz ≤ vs.length) :
 ∃ G',RR w0 G0 G' { fr with nt:=fr.nt + 1,lv:=fun j=>if j=fr.nt then true else fr.lv j } a w' ∧ Gle G G' ∧ Tle G G' ∧ G'.T fr.nt=some (⟨b,off,none⟩,len,cap,sz) ∧
  (∀ j c,cs[j]?=some c → G'.K b (e + j) c):=by
 let G':Gh:={ G with K:=claimAt G b e cs,ow:=fun k=>if k=b then .tip fr.nt (e + cs.length) else G.ow k,T:=Sim.upd G.T fr.nt (some (⟨b,off,none⟩,len,cap,sz)) }
 have how:∀ k,k ≠ b → G'.ow k=G.ow k:=fun k hk=>if_neg hk
 have howb:G'.ow b=.tip fr.nt (e + cs.length):=if_pos rfl
 have le:Gle G G':=⟨fun k o c x=>claimAt_old G cs hA x,fun k id hk=>by rw [how k (fun e'=>hD1 id (e' ▸ hk))];exact hk,fun _ _ x=>x,fun _ _ x=>x⟩
 have hT:Tle G G':=fun t x hx=>by
  show Sim.upd G.T fr.nt _ t=_
  rw [Sim.upd_ne _ _ (by have:=h.nt t x hx;omega)]
  exact hx
 have hbs:b < w.heap.size:=by rw [← ho.size];exact hB.lt
 have hcl:∀ k o c,G.K k o c → w'.cell? ⟨k,o,none⟩=w.cell? ⟨k,o,none⟩:=by
  intro k o c hk
  by_cases e':k=b
  ·subst e';exact hcell o (hA o c hk)
  exact cell_of_heap (ho.heap k e')
 have hR:∀ {x mk},(∀ e',G.ow b ≠ mk e') → Right G w x mk → (∀ y,x=some y → x=some y) → Right G' w' x mk:=fun hm r _=>r.mono (fun _ e=>e) fun k e' hk=>by
  have hne:k ≠ b:=fun x=>hm e' (x ▸ hk)
  exact ⟨by rw [how k hne];exact hk,ho.heap k hne⟩
 refine ⟨G',⟨?_,?_,?_,?_,?_,?_,DR_mono le _ _ h.df,?_⟩,le,hT,Sim.upd_same _ _ _,fun j c hj=>claimAt_new G b e cs j c hj⟩
 ·intro i tv hx
  obtain ⟨h1,h2⟩:=h.env i tv hx
  exact ⟨h1,TR_mono le hT (fun i _ _ k hk=>by rw [how k (fun e'=>hD2 i (e' ▸ hk))];exact hk) h2⟩
 ·intro i cs' hx
  obtain ⟨b',vs',h1,h2,h3,h4⟩:=h.loc i cs' hx
  have hne:b' ≠ b:=fun e'=>hD2 i (e' ▸ h1)
  exact ⟨b',vs',by rw [how b' hne];exact h1,h2.of_heap (ho.heap b' hne),VRs_mono' le cs' vs' (.inl hT) h3,h4⟩
 ·intro i k k' h1 h2
  have hk:∀ k,G'.ow k=.loc i → G.ow k=.loc i:=fun k hx=>by
   by_cases e':k=b
   ·subst e';rw [howb] at hx;cases hx
   rw [how k e'] at hx;exact hx
  exact h.locu i k k' (hk k h1) (hk k' h2)
 ·intro t ht
  simp only at ht
  by_cases e':t=fr.nt
  ·subst e'
   exact ⟨b,off,len,cap,sz,vs,Sim.upd_same _ _ _,by rw [howb,he],hB,hcap⟩
  rw [if_neg e'] at ht
  have:=hR (hB1 t ht) (h.tips t ht) (fun _ x=>x)
  have hTt:G'.T t=G.T t:=Sim.upd_ne _ _ e'
  rw [hTt]
  exact this
 ·intro t x hx
  show t < fr.nt + 1
  by_cases e':t=fr.nt
  ·omega
  have hx':G.T t=some x:=by rw [← hx];exact (Sim.upd_ne _ _ e').symm
  have:=h.nt t x hx'
  omega
 ·refine h.wi.upd le hcl ?_ ?_ ?_ ?_ ?_ (fun g hg=>hR (hB2 g hg) (h.wi.gts g hg) (fun _ x=>x)) h.wi.gn ?_ (fun k g hk=>have hne:k ≠ b:=fun e'=>hD3 g (e' ▸ hk);⟨by rw [how k hne];exact hk,ho.heap k hne⟩)
  ·intro k o c hk
   rcases claimAt_inv G cs hk with h1 | ⟨rfl,j,rfl,hj⟩
   ·exact .inl h1
   obtain ⟨v,hv1,hv2⟩:=VRs_get hv j c hj
   refine .inr ⟨⟨v,?_,?_⟩,(AV.nts_iff cs).1 hn c (Lmg hj),List.all_eq_true.1 hc c (Lmg hj)⟩
   ·rw [hB.cell];exact hw j v hv1
   exact VR_mono' le c v (.inl hT) hv2
  ·intro k o c hk
   rcases claimAt_inv G cs hk with h1 | ⟨rfl,j,rfl,hj⟩
   ·by_cases e':k=b
    ·subst e';rw [howb];have:=hA o c h1;show o < e + cs.length;omega
    rw [how k e'];exact h.wi.kow k o c h1
   have hjl:j < cs.length:=by
    rcases Nat.lt_or_ge j cs.length with h' | h'
    ·exact h'
    rw [List.getElem?_eq_none h'] at hj;cases hj
   rw [howb];show e + j < e + cs.length;omega
  ·intro id o' ho'
   obtain ⟨k,h1,h2⟩:=h.wi.obj id o' ho'
   have hne:k ≠ b:=fun e'=>hD1 id (e' ▸ h1)
   exact ⟨k,le.ob k id h1,OR_mono le (ho.heap k hne) h2⟩
  ·intro id k k' h1 h2
   have hk:∀ k,G'.ow k=.obj id → G.ow k=.obj id:=fun k hx=>by
    by_cases e':k=b
    ·subst e';rw [howb] at hx;cases hx
    rw [how k e'] at hx;exact hx
   exact h.wi.obu id k k' (hk k h1) (hk k' h2)
  ·intro id k h1
   by_cases e':k=b
   ·subst e';rw [howb] at h1;cases h1
   rw [how k e'] at h1;exact h.wi.obn id k h1
  intro k h1
  rw [ho.size]
  by_cases e':k=b
  ·subst e';exact hbs
  rw [how k e'] at h1;exact h.wi.owlt k h1
 have h0:=h.pres
 refine ⟨ho.os.trans h0.os,ho.tape.trans h0.tape,ho.output.trans h0.output,by rw [ho.size];exact h0.size,?_,h0.le.trans le,fun k hk hf=>let ⟨h1,h2⟩:=h0.hid k hk hf;⟨(ho.heap k (fun e=>let ⟨id,h3,_⟩:=h.wi.hid k h2;hD1 id (e ▸ h3))).trans h1,h2⟩⟩
 intro k hk hf
 obtain ⟨h1,h2,h3⟩:=h0.free k hk hf
 have hne:k ≠ b:=fun e'=>by subst e';exact hC hk hf
 refine ⟨(ho.heap k hne).trans h1,by rw [how k hne];exact h2,fun o=>?_⟩
 rw [← h3 o]
 show claimAt G b e cs k o=_
 unfold claimAt
 rw [if_neg (fun x=>hne x.1)]
theorem RR.mkclaim (h:RR w0 G0 G fr a w) {b:Nat} (hb:w0.heap.size ≤ b) (hf:G.ow b=.free) (hk:∀ o c,¬ G.K b o c) {vs:List Value} {cs:List AV}
 (hB:BL w b vs) (hv:VRs G cs vs) (hn:AV.nts cs=true) (hc:cs.all AV.isCell=true) :
 ∃ G',RR w0 G0 G' fr a w ∧ Gle G G' ∧ Tle G G' ∧ ∀ j c,cs[j]?=some c → G'.K b j c:=by
 let G':Gh:={ G with K:=claimAt G b 0 cs }
 have hA:∀ o c,G.K b o c → o < 0:=fun o c x=>absurd x (hk o c)
 have le:Gle G G':=⟨fun k o c x=>claimAt_old G cs hA x,fun k id x=>x,fun _ _ x=>x,fun _ _ x=>x⟩
 have hT:Tle G G':=fun t x hx=>hx
 have hR:∀ {x mk},Right G w x mk → Right G' w x mk:=fun r=>r.mono (fun _ e=>e) fun k e' hk=>⟨hk,rfl⟩
 refine ⟨G',⟨?_,?_,h.locu,fun t ht=>hR (h.tips t ht),h.nt,?_,DR_mono le _ _ h.df,?_⟩,le,hT,fun j c hj=>by simpa using claimAt_new G b 0 cs j c hj⟩
 ·intro i tv hx
  obtain ⟨h1,h2⟩:=h.env i tv hx
  exact ⟨h1,TR_mono le hT (fun i _ _ k hk=>hk) h2⟩
 ·intro i cs' hx
  obtain ⟨b',vs',h1,h2,h3,h4⟩:=h.loc i cs' hx
  exact ⟨b',vs',h1,h2,VRs_mono' le cs' vs' (.inl hT) h3,h4⟩
 ·refine h.wi.upd le (fun _ _ _ _=>J) ?_ ?_ ?_ h.wi.obu h.wi.obn (fun g hg=>hR (h.wi.gts g hg)) h.wi.gn h.wi.owlt (fun k g hk=>⟨hk,J⟩)
  ·intro k o c hk'
   rcases claimAt_inv G cs hk' with h1 | ⟨rfl,j,rfl,hj⟩
   ·exact .inl h1
   obtain ⟨v,hv1,hv2⟩:=VRs_get hv j c hj
   refine .inr ⟨⟨v,?_,VR_mono' le c v (.inl hT) hv2⟩,(AV.nts_iff cs).1 hn c (Lmg hj),List.all_eq_true.1 hc c (Lmg hj)⟩
   rw [hB.cell];simpa using hv1
  ·intro k o c hk'
   rcases claimAt_inv G cs hk' with h1 | ⟨rfl,j,rfl,hj⟩
   ·exact h.wi.kow k o c h1
   show kok _ (G.ow k);rw [hf];trivial
  intro id o' ho'
  obtain ⟨k,h1,h2⟩:=h.wi.obj id o' ho'
  exact ⟨k,h1,OR_mono le rfl h2⟩
 have h0:=h.pres
 refine ⟨h0.os,h0.tape,h0.output,h0.size,?_,h0.le.trans le,h0.hid⟩
 intro k hk' hf'
 obtain ⟨h1,h2,h3⟩:=h0.free k hk' hf'
 refine ⟨h1,h2,fun o=>?_⟩
 rw [← h3 o]
 show claimAt G b 0 cs k o=_
 unfold claimAt
 rw [if_neg (fun x=>by omega)]
theorem RR.mkclaim' (h:RR w0 G0 G fr a w) {b:Nat} (hb:w0.heap.size ≤ b) (hf:G.ow b=.free) (hk:∀ o c,¬ G.K b o c) {vs:List Value} {cs:List AV}
 (hcl:∀ (j:Nat) v,vs[j]?=some v → w.cell? ⟨b,j,none⟩=some v) (hv:VRs G cs vs) (hn:AV.nts cs=true) (hc:cs.all AV.isCell=true) :
 ∃ G',RR w0 G0 G' fr a w ∧ Gle G G' ∧ Tle G G' ∧ ∀ j c,cs[j]?=some c → G'.K b j c:=by
 let G':Gh:={ G with K:=claimAt G b 0 cs }
 have hA:∀ o c,G.K b o c → o < 0:=fun o c x=>absurd x (hk o c)
 have le:Gle G G':=⟨fun k o c x=>claimAt_old G cs hA x,fun k id x=>x,fun _ _ x=>x,fun _ _ x=>x⟩
 have hT:Tle G G':=fun t x hx=>hx
 have hR:∀ {x mk},Right G w x mk → Right G' w x mk:=fun r=>r.mono (fun _ e=>e) fun k e' hk=>⟨hk,rfl⟩
 refine ⟨G',⟨?_,?_,h.locu,fun t ht=>hR (h.tips t ht),h.nt,?_,DR_mono le _ _ h.df,?_⟩,le,hT,fun j c hj=>by simpa using claimAt_new G b 0 cs j c hj⟩
 ·intro i tv hx
  obtain ⟨h1,h2⟩:=h.env i tv hx
  exact ⟨h1,TR_mono le hT (fun i _ _ k hk=>hk) h2⟩
 ·intro i cs' hx
  obtain ⟨b',vs',h1,h2,h3,h4⟩:=h.loc i cs' hx
  exact ⟨b',vs',h1,h2,VRs_mono' le cs' vs' (.inl hT) h3,h4⟩
 ·refine h.wi.upd le (fun _ _ _ _=>J) ?_ ?_ ?_ h.wi.obu h.wi.obn (fun g hg=>hR (h.wi.gts g hg)) h.wi.gn h.wi.owlt (fun k g hk=>⟨hk,J⟩)
  ·intro k o c hk'
   rcases claimAt_inv G cs hk' with h1 | ⟨rfl,j,rfl,hj⟩
   ·exact .inl h1
   obtain ⟨v,hv1,hv2⟩:=VRs_get hv j c hj
   refine .inr ⟨⟨v,?_,VR_mono' le c v (.inl hT) hv2⟩,(AV.nts_iff cs).1 hn c (Lmg hj),List.all_eq_true.1 hc c (Lmg hj)⟩
   simpa using hcl j v hv1
  ·intro k o c hk'
   rcases claimAt_inv G cs hk' with h1 | ⟨rfl,j,rfl,hj⟩
   ·exact h.wi.kow k o c h1
   show kok _ (G.ow k);rw [hf];trivial
  intro id o' ho'
  obtain ⟨k,h1,h2⟩:=h.wi.obj id o' ho'
  exact ⟨k,h1,OR_mono le rfl h2⟩
 have h0:=h.pres
 refine ⟨h0.os,h0.tape,h0.output,h0.size,?_,h0.le.trans le,h0.hid⟩
 intro k hk' hf'
 obtain ⟨h1,h2,h3⟩:=h0.free k hk' hf'
 refine ⟨h1,h2,fun o=>?_⟩
 rw [← h3 o]
 show claimAt G b 0 cs k o=_
 unfold claimAt
 rw [if_neg (fun x=>by omega)]
theorem RR.less (h:RR w0 G0 G fr a w) {fr':Fr} (env:fr'.env=fr.env) (loc:fr'.loc=fr.loc) (nt:fr'.nt=fr.nt) (df:fr'.df=fr.df) (ob:fr'.sg.ob=fr.sg.ob) (nx:fr'.sg.nx=fr.sg.nx)
 (gn:fr'.sg.gn=fr.sg.gn) (lv:∀ t,fr'.lv t=true → fr.lv t=true) (gl:∀ g,fr'.sg.gl g=true → fr.sg.gl g=true) (hQ:fr'.sg.Q=fr.sg.Q:=by rfl) (hmu:fr'.sg.mu=fr.sg.mu:=by rfl) (hmn:fr'.sg.mn=fr.sg.mn:=by rfl):RR w0 G0 G fr' a w:=by
 refine ⟨by rw [env];exact h.env,by rw [loc];exact h.loc,h.locu,fun t ht=>h.tips t (lv t ht),by rw [nt];exact h.nt,?_,by rw [df];exact h.df,h.pres⟩
 have k:=h.wi
 exact ⟨k.claim,k.kow,by rw [ob];exact k.obj,k.obu,by rw [nx];exact k.obn,fun g hg=>k.gts g (gl g hg),by rw [gn];exact k.gn,k.owlt,by rw [hQ];exact k.glb,by rw [hmu];exact k.mus,by rw [hmn];exact k.mun,by rw [ob];exact k.hid⟩
theorem RR.stloc (h:RR w0 G0 G fr a w) {b i:Nat} (hb:G.ow b=.loc i) (ho:Only w w' b) {vs:List Value} {cs:List AV} (hB:BL w' b vs) (hv:VRs G cs vs) (hc:cs.all AV.isCell=true) :
 RR w0 G0 G { fr with loc:=Sim.upd fr.loc i (some cs) } a w':=by
 have hne:∀ k,G.ow k ≠ .loc i → k ≠ b:=fun k hk e=>hk (e ▸ hb)
 have hR:∀ {x mk},(∀ e,mk e ≠ .loc i) → Right G w x mk → Right G w' x mk:=fun hm r=>r.mono (fun _ e=>e) fun k e' hk=>⟨hk,ho.heap k (hne k (by rw [hk];exact hm e'))⟩
 have hkb:∀ k o c,G.K k o c → k ≠ b:=fun k o c hk e=>by
  subst e;have:=h.wi.kow k o c hk;rw [hb] at this;exact this
 refine ⟨h.env,?_,h.locu,fun t ht=>hR (fun e=>by simp) (h.tips t ht),h.nt,?_,h.df,?_⟩
 ·intro j cs' hx
  simp only [Sim.upd] at hx
  split at hx
  ·rename_i e;subst e;cases hx;exact ⟨b,vs,hb,hB,hv,hc⟩
  rename_i hne'
  obtain ⟨b',vs',h1,h2,h3⟩:=h.loc j cs' hx
  exact ⟨b',vs',h1,h2.of_heap (ho.heap b' (hne b' (by rw [h1];simpa using hne'))),h3⟩
 ·refine h.wi.upd (Gle.refl G) (fun k o c hk=>cell_of_heap (ho.heap k (hkb k o c hk))) (fun _ _ _ x=>.inl x) h.wi.kow ?_ h.wi.obu h.wi.obn (fun g hg=>hR (fun e=>by simp) (h.wi.gts g hg)) h.wi.gn (by rw [ho.size];exact h.wi.owlt) (fun k g hk=>⟨hk,ho.heap k (hne k (by rw [hk];simp))⟩)
  intro id o' ho'
  obtain ⟨k,h1,h2⟩:=h.wi.obj id o' ho'
  exact ⟨k,h1,OR_mono (Gle.refl G) (ho.heap k (hne k (by rw [h1];simp))) h2⟩
 refine h.pres.mono ho.os ho.tape ho.output (by rw [ho.size];exact Nat.le_refl _) (Gle.refl G) (fun k _ hf=>⟨ho.heap k (hne k (by rw [hf];simp)),hf,fun _=>rfl⟩) fun k _ hf=>⟨ho.heap k (hne k (by obtain ⟨id,h1,_⟩:=h.wi.hid k hf;rw [h1];simp)),hf⟩
theorem RR.stobj (h:RR w0 G0 G fr a w) {b id:Nat} (hb:G.ow b=.obj id) (hs:fr.sg.ob id ≠ none) (ho:Only w w' b) {o:AObj} (hO:OR G w' b o) :
 RR w0 G0 G { fr with sg:=fr.sg.set id o } a w':=by
 have hne:∀ k,G.ow k ≠ .obj id → k ≠ b:=fun k hk e=>hk (e ▸ hb)
 have hR:∀ {x mk},(∀ e,mk e ≠ .obj id) → Right G w x mk → Right G w' x mk:=fun hm r=>r.mono (fun _ e=>e) fun k e' hk=>⟨hk,ho.heap k (hne k (by rw [hk];exact hm e'))⟩
 have hkb:∀ k o c,G.K k o c → k ≠ b:=fun k o c hk e=>by
  subst e;have:=h.wi.kow k o c hk;rw [hb] at this;exact this
 refine ⟨h.env,?_,h.locu,fun t ht=>hR (fun e=>by simp) (h.tips t ht),h.nt,?_,h.df,?_⟩
 ·intro j cs' hx
  obtain ⟨b',vs',h1,h2,h3⟩:=h.loc j cs' hx
  exact ⟨b',vs',h1,h2.of_heap (ho.heap b' (hne b' (by rw [h1];simp))),h3⟩
 ·refine h.wi.upd (Gle.refl G) (fun k o c hk=>cell_of_heap (ho.heap k (hkb k o c hk))) (fun _ _ _ x=>.inl x) h.wi.kow ?_ h.wi.obu h.wi.obn (fun g hg=>hR (fun e=>by simp) (h.wi.gts g hg)) h.wi.gn (by rw [ho.size];exact h.wi.owlt) (fun k g hk=>⟨hk,ho.heap k (hne k (by rw [hk];simp))⟩) (hob:=fun id' k hk hn=>by
   show (Sim.upd fr.sg.ob id (some o)) id'=none
   rw [Sim.upd_ne _ _ (fun e:id'=id=>hs (by rw [← e];exact hn))];exact hn)
  intro id' o' ho'
  simp only [Sg.set,Sim.upd] at ho'
  split at ho'
  ·rename_i e;subst e;cases ho';exact ⟨b,hb,hO⟩
  rename_i hne'
  obtain ⟨k,h1,h2⟩:=h.wi.obj id' o' ho'
  exact ⟨k,h1,OR_mono (Gle.refl G) (ho.heap k (hne k (by rw [h1];simpa using hne'))) h2⟩
 refine h.pres.mono ho.os ho.tape ho.output (by rw [ho.size];exact Nat.le_refl _) (Gle.refl G) (fun k _ hf=>⟨ho.heap k (hne k (by rw [hf];simp)),hf,fun _=>rfl⟩) fun k _ hf=>⟨ho.heap k (hne k (fun e=>by obtain ⟨id',h1,h2⟩:=h.wi.hid k hf;rw [h1] at e;cases e;exact hs h2)),hf⟩
theorem RR.stmu (h:RR w0 G0 G fr a w) {b g:Nat} (hb:G.ow b=.mu g) (ho:Only w w' b) {cs:List AV} (hO:Mut G w' g cs) :
 RR w0 G0 G { fr with sg:={ fr.sg with mu:=Sim.upd fr.sg.mu g (some cs) } } a w':=by
 have hne:∀ k,G.ow k ≠ .mu g → k ≠ b:=fun k hk e=>hk (e ▸ hb)
 have hR:∀ {x mk},(∀ e,mk e ≠ .mu g) → Right G w x mk → Right G w' x mk:=fun hm r=>r.mono (fun _ e=>e) fun k e' hk=>⟨hk,ho.heap k (hne k (by rw [hk];exact hm e'))⟩
 have hkb:∀ k o c,G.K k o c → k ≠ b:=fun k o c hk e=>by
  subst e;have:=h.wi.kow k o c hk;rw [hb] at this;exact this
 refine ⟨h.env,?_,h.locu,fun t ht=>hR (fun e=>by simp) (h.tips t ht),h.nt,?_,h.df,?_⟩
 ·intro j cs' hx
  obtain ⟨b',vs',h1,h2,h3⟩:=h.loc j cs' hx
  exact ⟨b',vs',h1,h2.of_heap (ho.heap b' (hne b' (by rw [h1];simp))),h3⟩
 ·refine h.wi.upd0 (Gle.refl G) (fun k o c hk=>cell_of_heap (ho.heap k (hkb k o c hk))) (fun _ _ _ x=>.inl x) h.wi.kow ?_ h.wi.obu h.wi.obn (fun g' hg=>hR (fun e=>by simp) (h.wi.gts g' hg)) h.wi.gn (by rw [ho.size];exact h.wi.owlt) ?_ h.wi.mun
  ·intro id' o' ho'
   obtain ⟨k,h1,h2⟩:=h.wi.obj id' o' ho'
   exact ⟨k,h1,OR_mono (Gle.refl G) (ho.heap k (hne k (by rw [h1];simp))) h2⟩
  intro g' cs' hg
  simp only [Sim.upd] at hg
  split at hg
  ·rename_i e;subst e;cases hg;exact hO
  rename_i e
  exact (h.wi.mus g' cs' hg).mono (Gle.refl G) fun k hk=>⟨hk,ho.heap k (hne k (by rw [hk];simpa using e))⟩
 refine h.pres.mono ho.os ho.tape ho.output (by rw [ho.size];exact Nat.le_refl _) (Gle.refl G) (fun k _ hf=>⟨ho.heap k (hne k (by rw [hf];simp)),hf,fun _=>rfl⟩) fun k _ hf=>⟨ho.heap k (hne k (by obtain ⟨id,h1,_⟩:=h.wi.hid k hf;rw [h1];simp)),hf⟩
theorem RR.togt (h:RR w0 G0 G fr a w) {t:Nat} (ht:fr.lv t=true) :
 ∃ G',RR w0 G0 G' { fr with lv:=fun j=>if j=t then false else fr.lv j,sg:={ fr.sg with gl:=fun j=>if j=fr.sg.gn then true else fr.sg.gl j,gn:=fr.sg.gn + 1 } } a w ∧ Gle G G' ∧ Tle G G' ∧
  G'.U fr.sg.gn=G.T t:=by
 obtain ⟨b,off,len,cap,sz,cs,h1,h2,h3,h4⟩:=h.tips t ht
 let G':Gh:={ G with ow:=fun k=>if k=b then .gt fr.sg.gn (off + len * sz) else G.ow k,U:=Sim.upd G.U fr.sg.gn (G.T t) }
 have how:∀ k,k ≠ b → G'.ow k=G.ow k:=fun k hk=>if_neg hk
 have howb:G'.ow b=.gt fr.sg.gn (off + len * sz):=if_pos rfl
 have hU:∀ g,g ≠ fr.sg.gn → G'.U g=G.U g:=fun g hg=>Sim.upd_ne _ _ hg
 have le:Gle G G':=⟨fun _ _ _ x=>x,fun k id hk=>by rw [how k (fun e=>by subst e;rw [h2] at hk;cases hk)];exact hk,fun g x hx=>by
  rw [hU g (by have:=h.wi.gn g x hx;omega)];exact hx,fun _ _ x=>x⟩
 have hT:Tle G G':=fun _ _ x=>x
 have hR:∀ {x mk},(∀ e,mk e ≠ .tip t (off + len * sz)) → Right G w x mk → Right G' w x mk:=fun hm r=>r.mono (fun _ e=>e) fun k e' hk=>by
  have hne:k ≠ b:=fun x=>by subst x;rw [h2] at hk;exact hm e' hk.symm
  exact ⟨by rw [how k hne];exact hk,rfl⟩
 have back:∀ k x,(∀ g e,x ≠ .gt g e) → G'.ow k=x → G.ow k=x ∧ k ≠ b:=by
  intro k x hx hk
  by_cases e:k=b
  ·subst e;rw [howb] at hk;exact absurd hk.symm (hx _ _)
  rw [how k e] at hk;exact ⟨hk,e⟩
 refine ⟨G',⟨?_,?_,?_,?_,h.nt,?_,DR_mono le _ _ h.df,?_⟩,le,hT,Sim.upd_same _ _ _⟩
 ·intro i tv hx
  obtain ⟨k1,k2⟩:=h.env i tv hx
  exact ⟨k1,TR_mono le hT (fun i _ _ k hk=>by rw [how k (fun e=>by subst e;rw [h2] at hk;cases hk)];exact hk) k2⟩
 ·intro i cs' hx
  obtain ⟨b',vs',k1,k2,k3,k4⟩:=h.loc i cs' hx
  exact ⟨b',vs',by rw [how b' (fun e=>by subst e;rw [h2] at k1;cases k1)];exact k1,k2,VRs_mono' le cs' vs' (.inl hT) k3,k4⟩
 ·intro i k k' e1 e2
  exact h.locu i k k' (back k _ (by simp) e1).1 (back k' _ (by simp) e2).1
 ·intro t' ht'
  simp only at ht'
  split at ht'
  ·cases ht'
  rename_i hne
  exact hR (fun e=>by simpa using fun x=>absurd x hne) (h.tips t' ht')
 ·refine h.wi.upd le (fun _ _ _ _=>rfl) (fun _ _ _ x=>.inl x) ?_ ?_ ?_ ?_ ?_ ?_ ?_ (fun k g hk=>⟨by rw [how k (fun e=>by subst e;rw [h2] at hk;cases hk)];exact hk,rfl⟩)
  ·intro k o c hk
   have:=h.wi.kow k o c hk
   by_cases e:k=b
   ·subst e;rw [howb];rw [h2] at this;exact this
   rw [how k e];exact this
  ·intro id o' ho'
   obtain ⟨k,k1,k2⟩:=h.wi.obj id o' ho'
   exact ⟨k,le.ob k id k1,OR_mono le rfl k2⟩
  ·intro id k k' e1 e2
   exact h.wi.obu id k k' (back k _ (by simp) e1).1 (back k' _ (by simp) e2).1
  ·intro id k e1
   exact h.wi.obn id k (back k _ (by simp) e1).1
  ·intro g hg
   simp only at hg
   by_cases e:g=fr.sg.gn
   ·subst e
    exact ⟨b,off,len,cap,sz,cs,by show Sim.upd _ _ _ _=_;rw [Sim.upd_same];exact h1,howb,h3,h4⟩
   rw [if_neg e] at hg
   rw [hU g e]
   exact hR (fun e=>by simp) (h.wi.gts g hg)
  ·intro g x hx
   show g < fr.sg.gn + 1
   by_cases e:g=fr.sg.gn
   ·omega
   rw [hU g e] at hx;have:=h.wi.gn g x hx;omega
  intro k e1
  by_cases e:k=b
  ·subst e;exact h3.lt
  rw [how k e] at e1;exact h.wi.owlt k e1
 have h0:=h.pres
 refine ⟨h0.os,h0.tape,h0.output,h0.size,?_,h0.le.trans le,h0.hid⟩
 intro k hk hf
 obtain ⟨e1,e2,e3⟩:=h0.free k hk hf
 exact ⟨e1,by rw [how k (fun e=>by subst e;rw [h2] at e2;cases e2)];exact e2,e3⟩
end
end Go.Sim
namespace Go.Sim
open Go
def Good1 (P:Program) (w0:World) (G0:Gh) (a:Act) (fr':Fr) (tv:Option TV):Result Next → Prop
 | .ok (.value v) w'=>∃ G',RR w0 G0 G' fr' a w' ∧ ∀ x,tv=some x → TR G' x v
 | .ok .skip w'=>tv=none ∧ ∃ G',RR w0 G0 G' fr' a w'
 | .ok (.defer d) w'=>tv=none ∧ ∃ G',RR w0 G0 G' fr' { a with defers:=d :: a.defers } w'
 | .ok (.enter f args) w'=>Calls P f args w' fun e w''=>∃ v,e=.returned v ∧ ∃ G',RR w0 G0 G' fr' a w'' ∧ ∀ x,tv=some x → TR G' x v
 | _=>False
section
variable {P:Program} {w0:World} {G0 G:Gh} {fr:Fr} {a:Act} {w:World}
theorem good_val (h:RR w0 G0 G fr a w) {r:Result Next} {v:Value} {tv:TV} (hr:r=.ok (.value v) w) (hv:TR G tv v):Good1 P w0 G0 a fr (some tv) r:=by
 rw [hr]
 exact ⟨G,h,fun x hx=>by cases hx;exact hv⟩
def szOf (P:Program) (t:TypeId):Option Nat:=(P.info? t).map (·.size)
theorem run_szOf {t:TypeId} {n:Nat} (h:szOf P t=some n) (w:World):(sizeOf t).run P w=.ok n w:=by
 unfold szOf at h
 cases hi:P.info? t with
 | none=>simp [hi] at h
 | some i=>simp [hi] at h;subst h;simp [sizeOf,typeInfo,hi]
def aggOf (P:Program) (t:TypeId):Option Bool :=
 match P.underlying t with
 | some (.struct _)=>some true
 | some (.array _ _)=>some true
 | some _=>some false
 | none=>none
theorem run_aggOf {t:TypeId} {b:Bool} (h:aggOf P t=some b) (w:World):(isAgg t).run P w=.ok b w:=by
 unfold aggOf at h
 cases hu:P.underlying t with
 | none=>simp [hu] at h
 | some d=>cases d <;> simp [hu] at h <;> subst h <;> simp [isAgg,run_underlying hu]
def mN (P:Program) (t:TypeId) (n:Option Nat):Bool :=
 match n with
 | none=>aggOf P t == some false
 | some n=>aggOf P t == some true && szOf P t == some n
def fieldOf (P:Program) (t:TypeId) (i:Nat):Option Field :=
 match P.underlying t with
 | some (.struct fs)=>fs[i]?
 | _=>none
def elemSz (P:Program) (t:TypeId):Option Nat :=
 match P.underlying t with
 | some (.slice e)=>szOf P e
 | _=>none
def arrOf (P:Program) (t:TypeId):Option (Nat × Nat) :=
 match P.underlying t with
 | some (.array n e)=>(szOf P e).map fun s=>(n,s)
 | _=>none
def zeroOf (P:Program) (t:TypeId):Option Value:=(P.info? t).bind (·.zero)
theorem run_zeroOf {t:TypeId} {v:Value} (h:zeroOf P t=some v) (w:World):(zeroValue t).run P w=.ok v w:=by
 unfold zeroOf at h
 cases hi:P.info? t with
 | none=>simp [hi] at h
 | some i=>simp [hi] at h;simp [zeroValue,typeInfo,hi,h]
theorem rd_claim {cs:List AV} {b o off:Nat} (h:WI G fr.sg w) (hk:∀ (j:Nat) c,cs[j]?=some c → G.K b (o + j) c) :
 ∀ (j:Nat) c,cs[off + j]?=some c → ∃ v,w.cell? ⟨b,o + off + j,none⟩=some v ∧ VR G c v ∧ c.isCell=true:=by
 intro j c hc
 obtain ⟨⟨v,h1,h2⟩,_,h3⟩:=h.claim _ _ _ (hk _ c hc)
 exact ⟨v,by rw [Nat.add_assoc];exact h1,h2,h3⟩
theorem vals_of {f:Nat → Option Value}:∀ (cs:List AV),(∀ (j:Nat) c,cs[j]?=some c → ∃ v,f j=some v ∧ VR G c v) → ∃ vs,VRs G cs vs ∧ ∀ (j:Nat) v,vs[j]?=some v → f j=some v
 | [],_=>⟨[],rfl,fun j v hv=>by simp at hv⟩
 | c :: cs,h=>by
   obtain ⟨v,h1,h2⟩:=h 0 c rfl
   obtain ⟨vs,h3,h4⟩:=vals_of (f:=fun j=>f (j + 1)) cs fun j c hc=>h (j + 1) c (by simpa using hc)
   refine ⟨v :: vs,by simp only [VRs];exact ⟨v,vs,rfl,h2,h3⟩,fun j u hu=>?_⟩
   cases j with
   | zero=>simp at hu;subst hu;exact h1
   | succ j=>exact h4 j u (by simpa using hu)
theorem load_of {t:TypeId} {n:Option Nat} (hn:mN P t n=true) {b off:Nat} {cs:List AV} {v:AV} (hr:rd n cs off=some v)
 (hc:∀ (j:Nat) c,cs[off + j]?=some c → ∃ u,w.cell? ⟨b,off + j,none⟩=some u ∧ VR G c u ∧ c.isCell=true) {k:Nat} (hk:∀ j,w.cell? ⟨b,off + j,none⟩=w.cell? ⟨b,k + j,none⟩) :
 ∃ u,(loadVar t ⟨b,k,none⟩).run P w=.ok u w ∧ VR G v u:=by
 cases n with
 | none =>
   simp only [mN,beq_iff_eq] at hn
   simp only [rd] at hr
   obtain ⟨u,h1,h2,_⟩:=hc 0 v (by simpa using hr)
   refine ⟨u,?_,h2⟩
   have h1':w.cell? ⟨b,k,none⟩=some u:=by have:=hk 0;simp only [Nat.add_zero] at this h1;rw [← this];exact h1
   simp only [loadVar,Sem.run_bind,run_aggOf hn,Result.andThen_ok,Bool.false_eq_true,if_false]
   exact run_load_cell h1'
 | some n =>
   simp only [mN,Bae,beq_iff_eq] at hn
   simp only [rd] at hr
   split at hr
   ·rename_i hle
    simp only [Oie] at hr
    subst hr
    have hget:∀ (j:Nat) c,((cs.drop off).take n)[j]?=some c → ∃ u,w.cell? ⟨b,k + j,none⟩=some u ∧ VR G c u ∧ c.isCell=true:=by
     intro j c hj
     rw [List.getElem?_take] at hj
     split at hj
     ·rw [List.getElem?_drop] at hj
      obtain ⟨u,h1,h2⟩:=hc j c hj
      exact ⟨u,by rw [← hk];exact h1,h2⟩
     cases hj
    obtain ⟨vs,h1,h2⟩:=vals_of (f:=fun j=>w.cell? ⟨b,k + j,none⟩) _ fun j c hj=>let ⟨u,x,y,_⟩:=hget j c hj;⟨u,x,y⟩
    refine ⟨.agg vs.toArray,?_,?_⟩
    ·simp only [loadVar,Sem.run_bind,run_aggOf hn.1,Result.andThen_ok,if_true,run_szOf hn.2]
     rw [run_loadCells n (by rw [VRs_length h1];simp;omega) h2]
     rfl
    simp only [VR]
    refine ⟨vs,J,h1,?_⟩
    rw [List.all_eq_true]
    intro c hm
    obtain ⟨j,hj⟩:=List.getElem?_of_mem hm
    exact (hget j c hj).choose_spec.2.2
   cases hr
theorem cells_all {cs:List AV} (hc:cs.all AV.isCell=true) {j:Nat} {c:AV} (h:cs[j]?=some c):c.isCell=true:=List.all_eq_true.1 hc c (Lmg h)
theorem sim_ld (h:RR w0 G0 G fr a w) {t:TypeId} {x:AO} {y:Operand} {hf:Bool} {n:Option Nat} (hx:mO x y=true) (hn:mN P t n=true) {p:TV} {v:AV}
 (hp:ev fr.env x=some p) (hv:ldAt fr hf n p=some v):∃ u,(Instr.loadAt t (a.eval y)).run P w=.ok u w ∧ VR G v u:=by
 have hr:=h.ev hx hp
 cases p with
 | loc i off =>
   obtain ⟨b,he,hb⟩:=hr
   simp only [ldAt,Obe] at hv
   obtain ⟨cs,hcs,hrd⟩:=hv
   obtain ⟨b',vs,h1,h2,h3,h4⟩:=h.loc i cs hcs
   obtain rfl:=h.locu i b' b h1 hb
   rw [he]
   simp only [Instr.loadAt,Instr.sureAddr,Sem.run_bind,Sem.run_pure,Result.andThen_ok]
   refine load_of hn hrd ?_ (fun j=>J)
   intro j c hc
   obtain ⟨u,h5,h6⟩:=VRs_get h3 _ c hc
   exact ⟨u,by rw [h2.cell];exact h5,h6,cells_all h4 hc⟩
 | val av =>
   cases av with
   | ptr id off =>
     simp only [TR,VR] at hr
     obtain ⟨b,he,hb⟩:=hr
     simp only [ldAt] at hv
     split at hv
     ·split at hv
      ·rename_i cs hcs
       obtain ⟨b',h1,vs,h2,h3,h3',h4⟩:=h.wi.obj id _ hcs
       obtain rfl:=h.wi.obu id b' b h1 hb
       rw [he]
       simp only [Instr.loadAt,Instr.sureAddr,Sem.run_bind,Sem.run_pure,Result.andThen_ok]
       refine load_of hn hv ?_ (fun j=>J)
       intro j c hc
       obtain ⟨u,h5,h6⟩:=VRs_get h3 _ c hc
       exact ⟨u,by rw [h2.cell];exact h5,h6,cells_all h4 hc⟩
      cases hv
     cases hv
   | cptr cs off =>
     simp only [TR,VR] at hr
     obtain ⟨b,o,he,hk⟩:=hr
     simp only [ldAt] at hv
     rw [he]
     simp only [Instr.loadAt,Instr.sureAddr,Sem.run_bind,Sem.run_pure,Result.andThen_ok]
     have hcl:=rd_claim (off:=off) h.wi hk
     cases n with
     | none =>
       simp only [mN,beq_iff_eq] at hn
       simp only [rd] at hv
       obtain ⟨u,h1,h2,_⟩:=hcl 0 v (by simpa using hv)
       refine ⟨u,?_,h2⟩
       simp only [loadVar,Sem.run_bind,run_aggOf hn,Result.andThen_ok,Bool.false_eq_true,if_false]
       exact run_load_cell h1
     | some m =>
       simp only [mN,Bae,beq_iff_eq] at hn
       simp only [rd] at hv
       split at hv
       ·simp only [Oie] at hv
        subst hv
        have hget:∀ (j:Nat) c,((cs.drop off).take m)[j]?=some c → ∃ u,w.cell? ⟨b,o + off + j,none⟩=some u ∧ VR G c u ∧ c.isCell=true:=by
         intro j c hj
         rw [List.getElem?_take] at hj
         split at hj
         ·rw [List.getElem?_drop] at hj
          exact hcl j c hj
         cases hj
        obtain ⟨vs,h1,h2⟩:=vals_of (f:=fun j=>w.cell? ⟨b,o + off + j,none⟩) _ fun j c hj=>let ⟨u,x,y,_⟩:=hget j c hj;⟨u,x,y⟩
        refine ⟨.agg vs.toArray,?_,?_⟩
        ·simp only [loadVar,Sem.run_bind,run_aggOf hn.1,Result.andThen_ok,if_true,run_szOf hn.2]
         rw [run_loadCells m (by rw [VRs_length h1];simp;omega) h2]
         rfl
        simp only [VR]
        refine ⟨vs,J,h1,?_⟩
        rw [List.all_eq_true]
        intro c hm
        obtain ⟨j,hj⟩:=List.getElem?_of_mem hm
        exact (hget j c hj).choose_spec.2.2
       cases hv
   | mp g off =>
     simp only [TR,VR] at hr
     obtain ⟨b,room,he,hM⟩:=hr
     simp only [ldAt] at hv
     split at hv
     ·simp only [Obe] at hv
      obtain ⟨cs,hcs,hrd⟩:=hv
      obtain ⟨b',room',vs,rest,h1,h2,h3,h4,h5,h6,h7⟩:=h.wi.mus g cs hcs
      obtain ⟨rfl,rfl⟩:b=b' ∧ room=room':=by rw [hM] at h1;simpa using h1
      rw [he]
      simp only [Instr.loadAt,Instr.sureAddr,Sem.run_bind,Sem.run_pure,Result.andThen_ok]
      refine load_of hn hrd ?_ (fun j=>J)
      intro j c hc
      obtain ⟨u,k1,k2⟩:=VRs_get h4 _ c hc
      refine ⟨u,?_,k2,cells_all h6 hc⟩
      rw [h3.cell,List.getElem?_append_left ?_]
      ·exact k1
      rcases Nat.lt_or_ge (off + j) vs.length with h' | h'
      ·exact h'
      rw [List.getElem?_eq_none h'] at k1;cases k1
     cases hv
   | _=>simp [ldAt] at hv
 | tup vs=>simp [ldAt] at hv
 | und=>simp [ldAt] at hv
theorem TR_fa {off:Nat} {p q:TV} {v:Value} (hr:TR G p v) (hq:faOf off p=some q):∃ b k,v=.pointer (some ⟨b,k,none⟩) ∧ TR G q (.pointer (some ⟨b,k + off,none⟩)):=by
 cases p with
 | loc i o =>
   obtain ⟨b,rfl,hb⟩:=hr
   simp only [faOf,Oie] at hq
   subst hq
   exact ⟨b,o,rfl,b,rfl,hb⟩
 | val av =>
   cases av with
   | ptr id o =>
     simp only [TR,VR] at hr
     obtain ⟨b,rfl,hb⟩:=hr
     simp only [faOf,Oie] at hq
     subst hq
     exact ⟨b,o,rfl,by simp only [TR,VR];exact ⟨b,rfl,hb⟩⟩
   | cptr cs o =>
     simp only [TR,VR] at hr
     obtain ⟨b,m,rfl,hb⟩:=hr
     simp only [faOf,Oie] at hq
     subst hq
     exact ⟨b,m + o,rfl,by simp only [TR,VR];exact ⟨b,m,by rw [Nat.add_assoc],hb⟩⟩
   | mp g o =>
     simp only [TR,VR] at hr
     obtain ⟨b,room,rfl,hb⟩:=hr
     simp only [faOf,Oie] at hq
     subst hq
     exact ⟨b,o,rfl,by simp only [TR,VR];exact ⟨b,room,rfl,hb⟩⟩
   | _=>simp [faOf] at hq
 | tup vs=>simp [faOf] at hq
 | und=>simp [faOf] at hq
theorem sim_fa (h:RR w0 G0 G fr a w) {t:TypeId} {x:AO} {y:Operand} {off i:Nat} {f:Field} {s:Nat} (hx:mO x y=true) (hf:fieldOf P t i=some f) (ho:f.offset=off)
 (hs:szOf P f.type=some s) (hpos:s ≠ 0) {p q:TV} (hp:ev fr.env x=some p) (hq:faOf off p=some q) :
 ∃ u,(Instr.fieldAt t (a.eval y) i).run P w=.ok u w ∧ TR G q u:=by
 obtain ⟨b,k,he,hr⟩:=TR_fa (h.ev hx hp) hq
 refine ⟨_,?_,hr⟩
 unfold fieldOf at hf
 split at hf
 ·rename_i fs hu
  rw [he]
  simp [Instr.fieldAt,run_underlying hu,hf,Instr.sureAddr,fieldPlace,run_szOf hs,hpos,add_plain,ho]
 cases hf
theorem flat_elem {sz:Nat}:∀ {xs:List AV},(∀ x ∈ xs,x.cells.length=sz) → ∀ (i:Nat) (v:AV),xs[i]?=some v → ∀ (j:Nat) c,v.cells[j]?=some c → (flat xs)[i * sz + j]?=some c
 | [],_,i,v,hv,_,_,_=>by simp at hv
 | x :: xs,hl,i,v,hv,j,c,hj=>by
   have hx:=hl x (List.mem_cons_self ..)
   cases i with
   | zero =>
     simp at hv
     subst hv
     have hjl:j < x.cells.length:=by
      rcases Nat.lt_or_ge j x.cells.length with h' | h'
      ·exact h'
      rw [List.getElem?_eq_none h'] at hj;cases hj
     simp only [flat,List.flatMap_cons,Nat.zero_mul,Nat.zero_add]
     rw [List.getElem?_append_left hjl]
     exact hj
   | succ i =>
     simp only [flat,List.flatMap_cons]
     rw [List.getElem?_append_right (by rw [hx,Nat.succ_mul];omega)]
     have:=flat_elem (xs:=xs) (fun y hy=>hl y (List.mem_cons_of_mem _ hy)) i v (by simpa using hv) j c hj
     rw [hx,show (i + 1) * sz + j - sz=i * sz + j from by rw [Nat.succ_mul];omega]
     exact this
theorem sim_ia (h:RR w0 G0 G fr a w) {t:TypeId} {x i:AO} {y k:Operand} {sz:Nat} (hx:mO x y=true) (hi:mO i k=true) (hs:elemSz P t=some sz) {av iv:AV} {n:Int}
 (hp:evV fr.env x=some av) (hj:evV fr.env i=some iv) (hn:asN iv=some n) {q:AV} (hq:iaOf sz n av=some q) :
 ∃ u,(Instr.indexAt t (a.eval y) (a.eval k)).run P w=.ok u w ∧ VR G q u:=by
 have h1:=h.evV hx hp
 have h2:=h.evV hi hj
 unfold elemSz at hs
 split at hs
 ·rename_i e hu
  cases iv with
  | lit l =>
    cases l <;> simp only [asN,reduceCtorEq,Oie] at hn
    rename_i kk n'
    obtain rfl:n'=n:=hn
    simp only [VR] at h2
    cases av with
    | slice o sz' xs =>
      simp only [iaOf] at hq
      split at hq
      ·rename_i hc
       obtain ⟨rfl,hpos⟩:=hc
       simp only [Obe,Oie] at hq
       obtain ⟨v,hv,rfl⟩:=hq
       simp only [VR] at h1
       obtain ⟨ad,cap,he,hle,hlen,hl,_⟩:=h1
       have hlt:n'.toNat < xs.length:=by
        rcases Nat.lt_or_ge n'.toNat xs.length with h' | h'
        ·exact h'
        rw [List.getElem?_eq_none h'] at hv;cases hv
       cases ad with
       | none =>
         simp only [lies] at hl
         omega
       | some ad =>
         obtain ⟨bl,off,sp⟩:=ad
         obtain ⟨hsp,hk⟩:=hl
         obtain rfl:sp=none:=hsp.resolve_left (fun e=>by rw [e] at hlt;simp at hlt)
         refine ⟨.pointer (some ⟨bl,off + n'.toNat * sz,none⟩),?_,?_⟩
         ·rw [he,h2.1]
          have hni:n' < (xs.length:Int):=by omega
          simp [Instr.indexAt,asIntOf,run_underlying hu,hpos,hni,run_szOf hs,add_plain]
         simp only [VR]
         exact ⟨bl,off + n'.toNat * sz,rfl,fun j c hc=>by
          have:=hk _ c (flat_elem hlen n'.toNat v hv j c hc)
          rw [Nat.add_assoc];exact this⟩
      cases hq
    | ms g off len sz' =>
      simp only [iaOf] at hq
      split at hq
      ·rename_i hc
       obtain ⟨rfl,hpos,hlt⟩:=hc
       simp only [Oie] at hq
       subst hq
       simp only [VR] at h1
       obtain ⟨bl,room,cap,he,hM,hle,_⟩:=h1
       refine ⟨.pointer (some ⟨bl,off + n'.toNat * sz,none⟩),?_,?_⟩
       ·rw [he,h2.1]
        have hni:n' < (len:Int):=by omega
        simp [Instr.indexAt,asIntOf,run_underlying hu,hpos,hni,run_szOf hs,add_plain]
       simp only [VR]
       exact ⟨bl,room,rfl,hM⟩
      cases hq
    | _=>simp [iaOf] at hq
  | _=>simp [asN] at hn
 cases hs
theorem sim_iaa (h:RR w0 G0 G fr a w) {t:TypeId} {x i:AO} {y k:Operand} {len sz:Nat} (hx:mO x y=true) (hi:mO i k=true) (hs:arrOf P t=some (len,sz)) {p:TV} {iv:AV} {n:Int}
 (hp:ev fr.env x=some p) (hj:evV fr.env i=some iv) (hn:asN iv=some n) (hr:0 ≤ n ∧ n < len) {q:TV} (hq:faOf (n.toNat * sz) p=some q) :
 ∃ u,(Instr.indexAt t (a.eval y) (a.eval k)).run P w=.ok u w ∧ TR G q u:=by
 obtain ⟨b,m,he,hR⟩:=TR_fa (h.ev hx hp) hq
 have h2:=h.evV hi hj
 unfold arrOf at hs
 split at hs
 ·rename_i n' e hu
  cases hz:szOf P e with
  | none=>simp [hz] at hs
  | some s =>
    simp [hz] at hs
    obtain ⟨rfl,rfl⟩:=hs
    cases iv with
    | lit l =>
      cases l <;> simp only [asN,reduceCtorEq,Oie] at hn
      subst hn
      simp only [VR] at h2
      refine ⟨_,?_,hR⟩
      rw [he,h2.1]
      simp [Instr.indexAt,asIntOf,run_underlying hu,hr.1,hr.2,Instr.sureAddr,run_szOf hz,add_plain]
    | _=>simp [asN] at hn
 cases hs
theorem sim_bin {op:BinOp} {t:TypeId} {x y:Operand} {u v:Value} {p q r:AV} (h1:VR G p u) (h2:VR G q v) (hb:abin op p q=some r) :
 ∃ z,(do eqGuard op t x y u v;binOp op t u v:Sem Value).run P w=.ok z w ∧ VR G r z:=by
 cases p with
 | lit p =>
   cases q with
   | lit q =>
     simp only [VR] at h1 h2
     have h1:=h1.1
     have h2:=h2.1
     subst u v
     cases p <;> cases q <;> simp only [abin,reduceCtorEq] at hb
     ·rename_i k n k' n'
      split at hb
      ·rename_i hk
       subst hk
       cases op <;> simp only [intOp,reduceCtorEq,Oie] at hb
       case quo =>
        split at hb
        ·cases hb
        rename_i h0
        simp only [Oie] at hb
        subst hb
        refine ⟨_,?_,by simp only [VR];exact ⟨rfl,rfl⟩⟩
        simp [eqGuard,binOp,Op.intDiv,h0]
       case rem =>
        split at hb
        ·cases hb
        rename_i h0
        simp only [Oie] at hb
        subst hb
        refine ⟨_,?_,by simp only [VR];exact ⟨rfl,rfl⟩⟩
        simp [eqGuard,binOp,Op.intDiv,h0]
       all_goals
        subst hb
        refine ⟨_,?_,by simp only [VR];exact ⟨rfl,rfl⟩⟩
        simp [eqGuard,binOp,Op.intArith,Op.intCmp,bne,Bool.beq_eq_decide_eq]
      cases hb
     rename_i s s'
     cases op <;> simp only [strOp,reduceCtorEq,Oie] at hb
     case add =>
      split at hb
      ·rename_i hl
       simp only [Oie] at hb
       subst hb
       refine ⟨_,?_,by simp only [VR];exact ⟨rfl,rfl⟩⟩
       have:¬ (IntKind.i64.max < ((s.size + s'.size:Nat):Int)):=by
        have:IntKind.i64.max=9223372036854775807:=by decide
        rw [this];omega
       simp only [eqGuard,binOp,Op.stringOp]
       simp
       omega
      cases hb
     all_goals
      subst hb
      refine ⟨_,?_,by simp only [VR];exact ⟨rfl,rfl⟩⟩
      have e:(s.toList == s'.toList)=decide (s=s'):=by
       rw [Bool.eq_iff_iff]
       simp only [beq_iff_eq,Dte]
       constructor
       ·intro hh
        exact ByteArray.ext (Array.ext' (by simpa [ByteArray.toList_eq] using hh))
       intro hh;rw [hh]
      simp [eqGuard,binOp,Op.stringOp,e]
   | _=>cases p <;> simp [abin] at hb
 | _=>simp [abin] at hb
end
end Go.Sim
namespace Go.Sim
open Go
section
variable {P:Program} {w0:World} {G0 G:Gh} {fr:Fr} {a:Act} {w:World}
theorem RR.newloc (h:RR w0 G0 G fr a w) {el i:Nat} {cells:Array Value} {cs:List AV} (hv:VRs G cs cells.toList) (hc:cs.all AV.isCell=true) :
 ∃ w' G',(newRow el cells).run P w=.ok ⟨w.heap.size,0,none⟩ w' ∧ RR w0 G0 G' { fr with env:=dropL i fr.env,loc:=Sim.upd fr.loc i (some cs) } a w' ∧ TR G' (.loc i 0) (.pointer (some ⟨w.heap.size,0,none⟩)):=by
 obtain ⟨w',hr,hg,hb⟩:=run_newRow (P:=P) (w:=w) (el:=el) (cs:=cells.toList)
 obtain ⟨h1,h2⟩:=h.wi.nofree (Nat.le_refl w.heap.size)
 obtain ⟨G',h3,h4⟩:=(h.grow hg).mkloc (i:=i) h.pres.size h1 h2 hb hv hc
 exact ⟨w',G',by simpa using hr,h3,_,rfl,h4⟩
theorem RR.newobj (h:RR w0 G0 G fr a w) {el:Nat} {cells:Array Value} {cs:List AV} (hv:VRs G cs cells.toList) (hn:AV.nts cs=true) (hc:cs.all AV.isCell=true) :
 ∃ w' G',(newRow el cells).run P w=.ok ⟨w.heap.size,0,none⟩ w' ∧ RR w0 G0 G' { fr with sg:=fr.sg.new (.row cs) } a w' ∧ TR G' (.val (.ptr fr.sg.nx 0)) (.pointer (some ⟨w.heap.size,0,none⟩)):=by
 obtain ⟨w',hr,hg,hb⟩:=run_newRow (P:=P) (w:=w) (el:=el) (cs:=cells.toList)
 obtain ⟨h1,h2⟩:=h.wi.nofree (Nat.le_refl w.heap.size)
 refine ⟨w',_,by simpa using hr,(h.grow hg).mkobj (o:=.row cs) h.pres.size hb.lt h1 h2 fun G' hl=>⟨_,hb,VRs_mono' hl cs _ (.inr hn) hv,hn,hc⟩,?_⟩
 simp only [TR,VR]
 exact ⟨_,rfl,by simp [Gh.own]⟩
theorem sim_alloc (h:RR w0 G0 G fr a w) {t:Nat} {z:List AV} {zv:Value} (hz:zeroOf P t=some zv) (hc:coks z zv.cells.toList=true) (ha:z.all AV.isCell=true) {lc:Bool} {d:Option Nat} {tv:Option TV} {fr':Fr}
 {call:Caller} (he:aop call d (.alloc lc z) fr=some (tv,fr')) :
 ∃ v w',(Instr.alloc t true (.tuple #[])).run P w=.ok v w' ∧ ∃ G',RR w0 G0 G' fr' a w' ∧ ∀ x,tv=some x → TR G' x v:=by
 obtain ⟨h1,h2⟩:=coks_sound G z _ hc
 have hrun:∀ w' , (newRow t zv.cells).run P w=.ok ⟨w.heap.size,0,none⟩ w' → (Instr.alloc t true (.tuple #[])).run P w=.ok (.pointer (some ⟨w.heap.size,0,none⟩)) w':=by
  intro w' hw
  simp [Instr.alloc,run_zeroOf hz,newVar,hw]
 cases lc with
 | true =>
   simp only [aop,Obe,Oie,Pie] at he
   obtain ⟨i,rfl,rfl,rfl⟩:=he
   obtain ⟨w',G',hr,hR,hT⟩:=h.newloc (P:=P) (el:=t) (i:=i) h1 ha
   exact ⟨_,w',hrun w' hr,G',hR,fun x hx=>by cases hx;exact hT⟩
 | false =>
   simp only [aop,Oie,Pie] at he
   obtain ⟨rfl,rfl⟩:=he
   obtain ⟨w',G',hr,hR,hT⟩:=h.newobj (P:=P) (el:=t) h1 h2 ha
   exact ⟨_,w',hrun w' hr,G',hR,fun x hx=>by cases hx;exact hT⟩
theorem sim_box (h:RR w0 G0 G fr a w) {t:Nat} {x:AO} {y:Operand} (hx:mO x y=true) {lc:Bool} {d:Option Nat} {tv:Option TV} {fr':Fr}
 {call:Caller} (he:aop call d (.box lc x) fr=some (tv,fr')) :
 ∃ v w',(Instr.box t (a.eval y)).run P w=.ok v w' ∧ ∃ G',RR w0 G0 G' fr' a w' ∧ ∀ x,tv=some x → TR G' x v:=by
 have hrun:∀ w' , (newRow t (a.eval y).cells).run P w=.ok ⟨w.heap.size,0,none⟩ w' → (Instr.box t (a.eval y)).run P w=.ok (.pointer (some ⟨w.heap.size,0,none⟩)) w':=by
  intro w' hw
  simp [Instr.box,newVar,hw]
 cases lc with
 | true =>
   simp only [aop,Obe,Oie,Pie] at he
   obtain ⟨i,rfl,v,hv,rfl,rfl⟩:=he
   obtain ⟨h1,h2⟩:=VR_cells (h.evV hx hv)
   obtain ⟨w',G',hr,hR,hT⟩:=h.newloc (P:=P) (el:=t) (i:=i) h1 h2
   exact ⟨_,w',hrun w' hr,G',hR,fun x hx=>by cases hx;exact hT⟩
 | false =>
   simp only [aop,Obe,Oie,Pie] at he
   obtain ⟨v,hv,rfl,rfl⟩:=he
   obtain ⟨h1,h2⟩:=VR_cells (h.evV hx hv)
   obtain ⟨w',G',hr,hR,hT⟩:=h.newobj (P:=P) (el:=t) (VRs_erT _ _ h1) (AV.nts_erTs _) (by rw [AV.erTs_eq,List.all_map];simpa [Function.comp_def,AV.isCell_erT] using h2)
   exact ⟨_,w',hrun w' hr,G',hR,fun x hx=>by cases hx;exact hT⟩
theorem set_cells (off:Nat) (l:List Value) (cs:Array Value) (h:off + l.length ≤ cs.size) :
 ((l.zipIdx 0).foldl (fun cs (x:Value × Nat)=>cs.setIfInBounds (off + x.2) x.1) cs).toList=cs.toList.take off ++ l ++ cs.toList.drop (off + l.length):=by
 obtain ⟨h1,h2⟩:=Great.foldl_set off l 0 cs
 apply List.ext_getElem?
 intro k
 rw [Array.getElem?_toList,h2 k]
 simp only [Nat.add_zero]
 by_cases hk:off ≤ k ∧ k < off + l.length ∧ k < cs.size
 ·rw [if_pos hk]
  rw [List.append_assoc,List.getElem?_append_right (by simp;omega),List.length_take,List.getElem?_append_left (by simp;omega)]
  congr 1
  simp
  omega
 rw [if_neg hk]
 by_cases hlt:k < off
 ·rw [List.append_assoc,List.getElem?_append_left (by simp;omega),List.getElem?_take,if_pos hlt,Array.getElem?_toList]
 rw [List.getElem?_append_right (by simp;omega),List.getElem?_drop,Array.getElem?_toList]
 simp only [List.length_append,List.length_take,Array.length_toList]
 by_cases hb:k < cs.size
 ·congr 1;omega
 rw [Array.getElem?_eq_none (by omega),Array.getElem?_eq_none (by omega)]
def mPs (place:Nat → Option (Nat × Nat)):List (Nat × Nat × AO) → List (Nat × Operand) → Bool
 | [],[]=>true
 | (off,n,x) :: r,(i,y) :: r'=>place i == some (off,n) && mO x y && mPs place r r'
 | _,_=>false
theorem fill_sim (h:RR w0 G0 G fr a w) (place:Nat → Option (Nat × Nat)):∀ (ps:List (Nat × Nat × AO)) (qs:List (Nat × Operand)) (l:List (Nat × Nat × AV)) (cs cs':List AV) (cells:Array Value),
 mPs place ps qs=true → evPs fr.env ps=some l → fillA cs l=some cs' → VRs G cs cells.toList → cs.all AV.isCell=true →
 ∃ cells',Instr.fill place cells (qs.map fun x=>(x.1,a.eval x.2))=some cells' ∧ VRs G cs' cells'.toList ∧ cs'.all AV.isCell=true
 | [],[],l,cs,cs',cells,_,he,hf,hv,hc=>by
   simp only [evPs,Oie] at he
   subst he
   simp only [fillA,Oie] at hf
   subst hf
   exact ⟨cells,rfl,hv,hc⟩
 | [],_ :: _,l,cs,cs',cells,hm,he,hf,hv,hc=>by simp [mPs] at hm
 | _ :: _,[],l,cs,cs',cells,hm,he,hf,hv,hc=>by simp [mPs] at hm
 | (off,n,x) :: r,(i,y) :: r',l,cs,cs',cells,hm,he,hf,hv,hc=>by
  simp only [mPs,Bae,beq_iff_eq] at hm
  simp only [evPs,Obe,Oie] at he
  obtain ⟨v,hv1,l',hl',rfl⟩:=he
  simp only [fillA] at hf
  split at hf
  ·rename_i hle
   obtain ⟨h1,h2⟩:=VR_cells (h.evV hm.1.2 hv1)
   have hlen:=VRs_length h1
   have hcl:=VRs_length hv
   simp only [Array.length_toList] at hlen hcl
   have hset:=set_cells off (a.eval y).cells.toList cells (by simp only [Array.length_toList];omega)
   have hv':VRs G (cs.take off ++ v.cells ++ cs.drop (off + n)) (((a.eval y).cells.toList.zipIdx 0).foldl (fun cs (x:Value × Nat)=>cs.setIfInBounds (off + x.2) x.1) cells).toList:=by
    rw [hset]
    have e:off + n=off + (a.eval y).cells.toList.length:=by simp only [Array.length_toList];omega
    rw [e]
    exact VRs_append (VRs_append (VRs_take hv _) h1) (VRs_drop hv _)
   have hc':(cs.take off ++ v.cells ++ cs.drop (off + n)).all AV.isCell=true:=by
    simp only [List.all_append,h2,Bool.and_true,Bae]
    rw [List.all_eq_true] at hc
    exact ⟨List.all_eq_true.2 fun x hx=>hc x (List.mem_of_mem_take hx),List.all_eq_true.2 fun x hx=>hc x (List.mem_of_mem_drop hx)⟩
   obtain ⟨cells',g1,g2,g3⟩:=fill_sim h place r r' l' _ cs' _ hm.2 hl' hf hv' hc'
   refine ⟨cells',?_,g2,g3⟩
   rw [← g1]
   simp only [List.map_cons,Instr.fill,hm.1.1]
   rw [if_neg (by simp;omega)]
   rw [← Array.foldl_toList,Array.toList_zipIdx]
  cases hf
def mBuild (P:Program) (t:Nat) (z:List AV) (ps:List (Nat × Nat × AO)) (qs:List (Nat × Operand)):Bool :=
 match P.info? t,P.underlying t with
 | some it,some (.array _ e) =>
   (match it.zero,P.info? e with
   | some v,some ie=>coks z v.cells.toList && mPs (fun i=>some (i * ie.size,ie.size)) ps qs
   | _,_=>false)
 | some it,some (.struct fields) =>
   (match it.zero,fields.toList.mapM (fun f=>(P.info? f.type).map fun i=>(f.offset,i.size)) with
   | some v,some places=>coks z v.cells.toList && mPs (places.toArray[·]?) ps qs
   | _,_=>false)
 | _,_=>false
theorem sim_build (h:RR w0 G0 G fr a w) {t:Nat} {z:List AV} {ps:List (Nat × Nat × AO)} {qs:Array (Nat × Operand)} (hm:mBuild P t z ps qs.toList=true) (ha:z.all AV.isCell=true)
 {l:List (Nat × Nat × AV)} {cs:List AV} (he:evPs fr.env ps=some l) (hf:fillA z l=some cs) :
 ∃ v,(Instr.build t (qs.map fun x=>(x.1,a.eval x.2))).run P w=.ok v w ∧ VR G (.agg cs) v:=by
 have key:∃ cells',P.built t (qs.map fun x=>(x.1,a.eval x.2)).toList=some cells' ∧ VRs G cs cells'.toList ∧ cs.all AV.isCell=true:=by
  unfold mBuild at hm
  unfold Program.built
  rw [Array.toList_map]
  split at hm
  ·rename_i it e _ h1 h2
   rw [h1,h2]
   simp only
   split at hm
   ·rename_i v ie h3 h4
    rw [h3,h4]
    simp only [Bae] at hm
    exact fill_sim h _ ps qs.toList l z cs v.cells hm.2 he hf (coks_sound G z _ hm.1).1 ha
   cases hm
  ·rename_i it fields h1 h2
   rw [h1,h2]
   simp only
   split at hm
   ·rename_i v places h3 h4
    rw [h3,h4]
    simp only [Bae] at hm
    exact fill_sim h _ ps qs.toList l z cs v.cells hm.2 he hf (coks_sound G z _ hm.1).1 ha
   cases hm
  cases hm
 obtain ⟨cells',h1,h2,h3⟩:=key
 refine ⟨.agg cells',run_build w t _ cells' h1,?_⟩
 simp only [VR]
 exact ⟨cells'.toList,by simp,h2,h3⟩
theorem VRs_flat:∀ {xs:List AV} {vs:List Value},VRs G xs vs → VRs G (flat xs) (vs.flatMap fun v=>v.cells.toList)
 | [],vs,h=>by simp only [VRs] at h;subst h;rfl
 | x :: xs,vs,h=>by
   simp only [VRs] at h
   obtain ⟨v,r,rfl,h1,h2⟩:=h
   simp only [flat,List.flatMap_cons]
   exact VRs_append (VR_cells h1).1 (VRs_flat h2)
theorem flat_cells {xs:List AV} (h:∀ x ∈ xs,x.cells.all AV.isCell=true):(flat xs).all AV.isCell=true:=by
 rw [List.all_eq_true]
 intro c hc
 simp only [flat,List.mem_flatMap] at hc
 obtain ⟨x,hx,hc⟩:=hc
 exact List.all_eq_true.1 (h x hx) c hc
theorem flat_nts {xs:List AV} (h:∀ x ∈ xs,x.nt=true):AV.nts (flat xs)=true:=by
 rw [AV.nts_iff]
 intro c hc
 simp only [flat,List.mem_flatMap] at hc
 obtain ⟨x,hx,hc⟩:=hc
 have:=h x hx
 cases x with
 | agg cs=>simp only [AV.nt] at this;exact (AV.nts_iff _).1 this c hc
 | _=>simp only [AV.cells,List.mem_singleton] at hc;subst hc;exact this
theorem VRs_mem {xs:List AV} {vs:List Value} (h:VRs G xs vs) {x:AV} (hx:x ∈ xs):∃ v ∈ vs,VR G x v:=by
 obtain ⟨i,hi⟩:=List.getElem?_of_mem hx
 obtain ⟨v,h1,h2⟩:=VRs_get h i x hi
 exact ⟨v,Lmg h1,h2⟩
theorem flat_length {sz:Nat} {xs:List AV} (h:∀ x ∈ xs,x.cells.length=sz):(flat xs).length=xs.length * sz:=by
 induction xs with
 | nil=>simp [flat]
 | cons x xs ih =>
   have h1:=h x (List.mem_cons_self ..)
   have h2:=ih fun y hy=>h y (List.mem_cons_of_mem _ hy)
   simp only [flat,List.flatMap_cons,List.length_append,List.length_cons,h1] at h2 ⊢
   rw [h2,Nat.succ_mul];omega
def mParts:Nat → List AO → List (Nat × Operand) → Bool
 | _,[],[]=>true
 | k,x :: r,(i,y) :: r'=>i == k && mO x y && mParts (k + 1) r r'
 | _,_,_=>false
theorem parts_sim (h:RR w0 G0 G fr a w):∀ (k:Nat) (ps:List AO) (qs:List (Nat × Operand)) (l:List AV),mParts k ps qs=true → evVs fr.env ps=some l →
 ∃ vs,VRs G l vs ∧ qs.map (fun x=>(x.1,a.eval x.2))=(vs.zipIdx k).map fun x=>(x.2,x.1)
 | k,[],[],l,_,he=>by
   simp only [evVs,Oie] at he
   subst he
   exact ⟨[],rfl,rfl⟩
 | k,[],_ :: _,l,hm,he=>by simp [mParts] at hm
 | k,_ :: _,[],l,hm,he=>by simp [mParts] at hm
 | k,x :: r,(i,y) :: r',l,hm,he=>by
   simp only [mParts,Bae,beq_iff_eq] at hm
   simp only [evVs,Obe,Oie] at he
   obtain ⟨v,hv,l',hl',rfl⟩:=he
   obtain ⟨vs,h1,h2⟩:=parts_sim h (k + 1) r r' l' hm.2 hl'
   refine ⟨a.eval y :: vs,by simp only [VRs];exact ⟨_,_,rfl,h.evV hm.1.2 hv,h1⟩,?_⟩
   simp only [List.map_cons,List.zipIdx_cons,h2,hm.1.1]
def mBsl (P:Program) (t len sz:Nat) (ps:List AO) (qs:List (Nat × Operand)):Bool :=
 match P.underlying t with
 | some (.slice e)=>(match P.info? e with
   | some ie=>ie.zero.isSome && ie.size == sz && decide (0 < sz) && ps.length == len && decide (len * sz ≤ 2 ^ 24) && mParts 0 ps qs
   | none=>false)
 | _=>false
theorem run_bsl (h:RR w0 G0 G fr a w) {t len sz:Nat} {ps:List AO} {qs:Array (Nat × Operand)} (hm:mBsl P t len sz ps qs.toList=true) {l:List AV} (he:evVs fr.env ps=some l)
 (hl:l.all (fun v=>v.cells.length == sz)=true) :
 ∃ vs w',(Instr.buildSlice t len (qs.map fun x=>(x.1,a.eval x.2))).run P w=.ok (.slice (some ⟨w.heap.size,0,none⟩) len len) w' ∧ Grew w w' ∧ BL w' w.heap.size (vs.flatMap fun v=>v.cells.toList) ∧ VRs G (AV.ers l) vs ∧ (∀ x ∈ AV.ers l,x.cells.length=sz) ∧ l.length=len:=by
 unfold mBsl at hm
 split at hm
 ·rename_i e hu
  split at hm
  ·rename_i ie hie
   simp only [Bae,beq_iff_eq,Dte] at hm
   obtain ⟨⟨⟨⟨⟨hz,hsz⟩,hpos⟩,hlen⟩,hsm⟩,hp⟩:=hm
   obtain ⟨z,hz⟩:=Option.isSome_iff_exists.1 hz
   obtain ⟨vs,h1,h2⟩:=parts_sim h 0 ps qs.toList l hp he
   have hll:l.length=len:=by
    have:∀ (ps:List AO) (l:List AV),evVs fr.env ps=some l → l.length=ps.length:=by
     intro ps
     induction ps with
     | nil=>intro l hl;simp only [evVs,Oie] at hl;subst hl;rfl
     | cons x ps ih =>
       intro l hl
       simp only [evVs,Obe,Oie] at hl
       obtain ⟨v,_,l',hl',rfl⟩:=hl
       simp [ih l' hl']
    rw [this ps l he,hlen]
   have hvl:=VRs_length h1
   have hcs:∀ x ∈ l,x.cells.length=sz:=fun x hx=>by simpa using List.all_eq_true.1 hl x hx
   have hve:=VRs_er l vs h1
   have hcs':∀ x ∈ AV.ers l,x.cells.length=sz:=by
    intro x hx
    rw [AV.ers_eq,List.mem_map] at hx
    obtain ⟨y,hy,rfl⟩:=hx
    rw [AV.cells_er,AV.ers_eq,List.length_map]
    exact hcs y hy
   have hvs:∀ v ∈ vs,v.cells.size=sz:=by
    intro v hv
    obtain ⟨i,hi⟩:=List.getElem?_of_mem hv
    have hil:i < l.length:=by
     rcases Nat.lt_or_ge i vs.length with h' | h'
     ·omega
     rw [List.getElem?_eq_none h'] at hi;cases hi
    obtain ⟨u,h5,h6⟩:=VRs_get h1 i l[i] (List.getElem?_eq_getElem hil)
    rw [hi] at h5
    cases h5
    have:=VRs_length (VR_cells h6).1
    rw [hcs _ (List.getElem_mem hil)] at this
    simpa using this
   have hrun:∃ w',(Instr.buildSlice t len (qs.map fun x=>(x.1,a.eval x.2))).run P w=.ok (.slice (some ⟨w.heap.size,0,none⟩) len len) w' ∧ Grew w w' ∧ BL w' w.heap.size (vs.flatMap fun v=>v.cells.toList):=by
    by_cases h0:len=0
    ·have hl0:l=[]:=List.length_eq_zero_iff.1 (by omega)
     have hv0:vs=[]:=List.length_eq_zero_iff.1 (by omega)
     subst hl0
     subst hv0
     simp only [List.zipIdx_nil,List.map_nil,List.map_eq_nil_iff] at h2
     have hq:qs=#[]:=by cases qs;simp_all
     subst hq
     obtain ⟨w',hr,hg,hb⟩:=run_newRow (P:=P) (w:=w) (el:=e) (cs:=[])
     refine ⟨w',?_,hg,hb⟩
     subst h0
     have e0:(Array.map (fun _=>(default:Value)) (Array.range 0))=#[]:=Array.eq_empty_of_size_eq_zero (by simp)
     simp [Instr.buildSlice,run_underlying hu,sizeOf,typeInfo,hie,Instr.fill,e0,hr]
    refine ⟨_,run_buildSlice w t e len _ (vs.flatMap fun v=>v.cells.toList).toArray ie z hu hie hz (by rw [hsz];omega) (by rw [hsz];exact Nat.ne_of_gt (Nat.mul_pos (by omega) hpos)) ?_,grew_push w _ w.drawn,e,?_⟩
    ·rw [Array.toList_map,h2,hsz]
     exact Great.fill_whole hpos vs _ hvs (by simp;rw [hvl,hll])
    exact push_at w _ w.drawn
   obtain ⟨w',hr,hg,hb⟩:=hrun
   exact ⟨vs,w',hr,hg,hb,hve,hcs',hll⟩
  cases hm
 cases hm
theorem sim_bsl (h:RR w0 G0 G fr a w) {t len sz:Nat} {ps:List AO} {qs:Array (Nat × Operand)} (hm:mBsl P t len sz ps qs.toList=true) {l:List AV} (he:evVs fr.env ps=some l)
 (hl:l.all (fun v=>v.cells.length == sz)=true) :
 ∃ v w',(Instr.buildSlice t len (qs.map fun x=>(x.1,a.eval x.2))).run P w=.ok v w' ∧ ∃ G',RR w0 G0 G' fr a w' ∧ VR G' (.slice .full sz (AV.ers l)) v:=by
 unfold mBsl at hm
 split at hm
 ·rename_i e hu
  split at hm
  ·rename_i ie hie
   simp only [Bae,beq_iff_eq,Dte] at hm
   obtain ⟨⟨⟨⟨⟨hz,hsz⟩,hpos⟩,hlen⟩,hsm⟩,hp⟩:=hm
   obtain ⟨z,hz⟩:=Option.isSome_iff_exists.1 hz
   obtain ⟨vs,h1,h2⟩:=parts_sim h 0 ps qs.toList l hp he
   have hll:l.length=len:=by
    have:∀ (ps:List AO) (l:List AV),evVs fr.env ps=some l → l.length=ps.length:=by
     intro ps
     induction ps with
     | nil=>intro l hl;simp only [evVs,Oie] at hl;subst hl;rfl
     | cons x ps ih =>
       intro l hl
       simp only [evVs,Obe,Oie] at hl
       obtain ⟨v,_,l',hl',rfl⟩:=hl
       simp [ih l' hl']
    rw [this ps l he,hlen]
   have hvl:=VRs_length h1
   have hcs:∀ x ∈ l,x.cells.length=sz:=fun x hx=>by simpa using List.all_eq_true.1 hl x hx
   have hve:=VRs_er l vs h1
   have hcs':∀ x ∈ AV.ers l,x.cells.length=sz:=by
    intro x hx
    rw [AV.ers_eq,List.mem_map] at hx
    obtain ⟨y,hy,rfl⟩:=hx
    rw [AV.cells_er,AV.ers_eq,List.length_map]
    exact hcs y hy
   have hvs:∀ v ∈ vs,v.cells.size=sz:=by
    intro v hv
    obtain ⟨i,hi⟩:=List.getElem?_of_mem hv
    have hil:i < l.length:=by
     rcases Nat.lt_or_ge i vs.length with h' | h'
     ·omega
     rw [List.getElem?_eq_none h'] at hi;cases hi
    obtain ⟨u,h5,h6⟩:=VRs_get h1 i l[i] (List.getElem?_eq_getElem hil)
    rw [hi] at h5
    cases h5
    have:=VRs_length (VR_cells h6).1
    rw [hcs _ (List.getElem_mem hil)] at this
    simpa using this
   have hrun:∃ w',(Instr.buildSlice t len (qs.map fun x=>(x.1,a.eval x.2))).run P w=.ok (.slice (some ⟨w.heap.size,0,none⟩) len len) w' ∧ Grew w w' ∧ BL w' w.heap.size (vs.flatMap fun v=>v.cells.toList):=by
    by_cases h0:len=0
    ·have hl0:l=[]:=List.length_eq_zero_iff.1 (by omega)
     have hv0:vs=[]:=List.length_eq_zero_iff.1 (by omega)
     subst hl0
     subst hv0
     simp only [List.zipIdx_nil,List.map_nil,List.map_eq_nil_iff] at h2
     have hq:qs=#[]:=by cases qs;simp_all
     subst hq
     obtain ⟨w',hr,hg,hb⟩:=run_newRow (P:=P) (w:=w) (el:=e) (cs:=[])
     refine ⟨w',?_,hg,hb⟩
     subst h0
     have e0:(Array.map (fun _=>(default:Value)) (Array.range 0))=#[]:=Array.eq_empty_of_size_eq_zero (by simp)
     simp [Instr.buildSlice,run_underlying hu,sizeOf,typeInfo,hie,Instr.fill,e0,hr]
    refine ⟨_,run_buildSlice w t e len _ (vs.flatMap fun v=>v.cells.toList).toArray ie z hu hie hz (by rw [hsz];omega) (by rw [hsz];exact Nat.ne_of_gt (Nat.mul_pos (by omega) hpos)) ?_,grew_push w _ w.drawn,e,?_⟩
    ·rw [Array.toList_map,h2,hsz]
     exact Great.fill_whole hpos vs _ hvs (by simp;rw [hvl,hll])
    exact push_at w _ w.drawn
   obtain ⟨w',hr,hg,hb⟩:=hrun
   obtain ⟨f1,f2⟩:=h.wi.nofree (Nat.le_refl w.heap.size)
   have hall:∀ x ∈ AV.ers l,x.cells.all AV.isCell=true:=fun x hx=>by
    obtain ⟨v,_,hv⟩:=VRs_mem hve hx
    exact (VR_cells hv).2
   obtain ⟨G',k1,k2,k3,k4⟩:=(h.grow hg).mkclaim (cs:=flat (AV.ers l)) h.pres.size f1 f2 hb (VRs_flat hve) (flat_nts ((AV.nts_iff _).1 (AV.nts_ers l))) (flat_cells hall)
   refine ⟨_,w',hr,G',k1,?_⟩
   simp only [VR]
   have hel:(AV.ers l).length=len:=by rw [AV.ers_eq,List.length_map,hll]
   exact ⟨some ⟨w.heap.size,0,none⟩,len,by rw [hel],by rw [hel];exact Nat.le_refl _,hcs',⟨.inr rfl,fun j c hj=>by simpa using k4 j c hj⟩,hel.symm⟩
  cases hm
 cases hm
theorem VRs_wr {cs xs:List AV} {vs us:List Value} (h:VRs G cs vs) (hx:VRs G xs us) (off:Nat):VRs G (wr cs off xs) (vs.take off ++ us ++ vs.drop (off + us.length)):=by
 unfold wr
 rw [VRs_length hx]
 exact VRs_append (VRs_append (VRs_take h _) hx) (VRs_drop h _)
theorem wr_cells {cs xs:List AV} (h:cs.all AV.isCell=true) (hx:xs.all AV.isCell=true) (off:Nat):(wr cs off xs).all AV.isCell=true:=by
 unfold wr
 simp only [List.all_append,hx,Bool.and_true,Bae]
 rw [List.all_eq_true] at h
 exact ⟨List.all_eq_true.2 fun x hx=>h x (List.mem_of_mem_take hx),List.all_eq_true.2 fun x hx=>h x (List.mem_of_mem_drop hx)⟩
theorem wr_nts {cs xs:List AV} (h:AV.nts cs=true) (hx:AV.nts xs=true) (off:Nat):AV.nts (wr cs off xs)=true:=by
 rw [AV.nts_iff] at h hx ⊢
 intro c hc
 unfold wr at hc
 simp only [List.mem_append] at hc
 rcases hc with (hc | hc) | hc
 ·exact h c (List.mem_of_mem_take hc)
 ·exact hx c hc
 exact h c (List.mem_of_mem_drop hc)
theorem sim_stv (h:RR w0 G0 G fr a w) {v:AV} {u:Value} (hv:VR G v u):∃ G',RR w0 G0 G' (stv v fr).2 a w ∧ Gle G G' ∧ (stv v fr).2.sg.ob=fr.sg.ob ∧ VR G' (stv v fr).1 u ∧ (stv v fr).1.nt=true:=by
 have gen:∃ G',RR w0 G0 G' fr a w ∧ Gle G G' ∧ fr.sg.ob=fr.sg.ob ∧ VR G' v.erT u ∧ v.erT.nt=true:=⟨G,h,Gle.refl G,rfl,VR_erT v u hv,AV.nt_erT v⟩
 cases v with
 | slice o sz xs =>
   cases o with
   | tip t =>
     simp only [stv]
     split
     ·rename_i ht
      obtain ⟨G',k1,k2,k3,k4⟩:=h.togt ht
      refine ⟨G',k1,k2,J,?_,J⟩
      simp only [VR] at hv ⊢
      obtain ⟨ad,cap,rfl,h1,h2,h3,ad',rfl,h4⟩:=hv
      exact ⟨some ad',cap,rfl,h1,h2,lies_mono k2 h3,ad',rfl,by rw [k4];exact h4⟩
     exact gen
   | _=>exact gen
 | _=>exact gen
theorem sim_st (h:RR w0 G0 G fr a w) {t:Nat} {x y:AO} {x' y':Operand} {hf:Bool} (hx:mO x x'=true) (hy:mO y y'=true) {n:Nat} (hs:szOf P t=some n) {p:TV} {v:AV} {fr':Fr}
 (hp:ev fr.env x=some p) (hv:evV fr.env y=some v) (hn:v.cells.length=n) (he:stAt fr hf v p=some fr') :
 ∃ w',(Instr.storeAt t (a.eval x') (a.eval y')).run P w=.ok () w' ∧ ∃ G',RR w0 G0 G' fr' a w':=by
 have hr:=h.ev hx hp
 have hvr:=h.evV hy hv
 obtain ⟨hc1,hc2⟩:=VR_cells hvr
 have hlen:(a.eval y').cells.toList.length=n:=by rw [VRs_length hc1,hn]
 have hsize:(a.eval y').cells.size=n:=by simpa using hlen
 have hcv:=VRs_cellV hc1 hc2
 cases p with
 | loc i off =>
   obtain ⟨b,hb1,hb2⟩:=hr
   simp only [stAt,Obe] at he
   obtain ⟨cs,hcs,he⟩:=he
   split at he
   ·rename_i hle
    simp only [Oie] at he
    subst he
    obtain ⟨b',vs,k1,k2,k3,k4⟩:=h.loc i cs hcs
    obtain rfl:=h.locu i b' b k1 hb2
    obtain ⟨w',g1,g2,g3⟩:=run_storeCells0 (P:=P) k2 (by rw [VRs_length k3,hlen,← hn];exact hle) hcv
    refine ⟨w',?_,G,h.stloc hb2 g2 g3 (VRs_wr k3 hc1 off) (wr_cells k4 hc2 off)⟩
    rw [hb1]
    simp [Instr.storeAt,Instr.sureAddr,storeVar,run_szOf hs,hsize,g1]
   cases he
 | val av =>
   cases av with
   | ptr id off =>
     simp only [TR,VR] at hr
     obtain ⟨b,hb1,hb2⟩:=hr
     simp only [stAt] at he
     split at he
     ·split at he
      ·rename_i cs hcs
       split at he
       ·rename_i hle
        simp only [Oie] at he
        subst he
        obtain ⟨b',k1,vs,k2,k3,k3',k4⟩:=h.wi.obj id _ hcs
        obtain rfl:=h.wi.obu id b' b k1 hb2
        obtain ⟨w',g1,g2,g3⟩:=run_storeCells0 (P:=P) k2 (by rw [VRs_length k3,hlen,← hn];exact hle) hcv
        obtain ⟨G',r1,r2,r3,r4,r5⟩:=sim_stv h hvr
        obtain ⟨d1,d2⟩:=VR_cells r4
        refine ⟨w',?_,G',r1.stobj (r2.ob _ _ hb2) (by rw [r3,hcs];simp) g2 ⟨_,g3,VRs_wr (VRs_mono' r2 cs vs (.inr k3') k3) d1 off,wr_nts k3' ?_ off,wr_cells k4 d2 off⟩⟩
        ·rw [hb1]
         simp [Instr.storeAt,Instr.sureAddr,storeVar,run_szOf hs,hsize,g1]
        have:=flat_nts (xs:=[(stv v fr).1]) (by simpa using r5)
        simpa [flat] using this
       cases he
      cases he
     cases he
   | mp g off =>
     simp only [TR,VR] at hr
     obtain ⟨b,room,hb1,hM⟩:=hr
     simp only [stAt] at he
     split at he
     ·simp only [Obe] at he
      obtain ⟨cs,hcs,he⟩:=he
      split at he
      ·rename_i hle
       simp only [Oie] at he
       subst he
       obtain ⟨b',room',vs,rest,k1,k2,k3,k4,k5,k6,k7⟩:=h.wi.mus g cs hcs
       obtain ⟨rfl,rfl⟩:b=b' ∧ room=room':=by rw [hM] at k1;simpa using k1
       have hvl:=VRs_length k4
       have hle2:off + (a.eval y').cells.toList.length ≤ (vs ++ rest).length:=by rw [List.length_append,hvl,hlen,← hn];omega
       obtain ⟨w',g1,g2,g3⟩:=run_storeCells0 (P:=P) (o:=off) k3 hle2 hcv
       obtain ⟨G',r1,r2,r3,r4,r5⟩:=sim_stv h hvr
       obtain ⟨d1,d2⟩:=VR_cells r4
       have hmu:(stv v fr).2.sg.mu=fr.sg.mu:=by
        cases v with
        | slice o sz xs =>
          cases o with
          | tip t=>simp only [stv];split <;> rfl
          | _=>rfl
        | _=>rfl
       have how:G'.ow b=.mu g:=by
        obtain ⟨b2,room2,vs2,rest2,q1,q2,_⟩:=r1.wi.mus g cs (by rw [hmu];exact hcs)
        have:=r2.M _ _ hM
        rw [this] at q1
        obtain ⟨rfl,rfl⟩:b=b2 ∧ room=room2:=by simpa using q1
        exact q2
       refine ⟨w',?_,G',r1.stmu (b:=b) how g2 ⟨b,room,_,rest,r2.M _ _ hM,how,?_,VRs_wr (VRs_mono' r2 cs vs (.inr k5) k4) d1 off,wr_nts k5 ?_ off,wr_cells k6 d2 off,?_⟩⟩
       ·rw [hb1]
        simp [Instr.storeAt,Instr.sureAddr,storeVar,run_szOf hs,hsize,g1]
       ·have e:(vs ++ rest).take off ++ (a.eval y').cells.toList ++ (vs ++ rest).drop (off + (a.eval y').cells.toList.length)=(vs.take off ++ (a.eval y').cells.toList ++ vs.drop (off + (a.eval y').cells.toList.length)) ++ rest:=by
         rw [List.take_append_of_le_length (by omega),List.drop_append_of_le_length (by rw [hlen,← hn,hvl];exact hle)]
         simp only [List.append_assoc]
        rw [← e]
        exact g3
       ·have:=flat_nts (xs:=[(stv v fr).1]) (by simpa using r5)
        simpa [flat] using this
       simp only [List.length_append,List.length_take,List.length_drop,hlen] at k7 ⊢
       rw [← hn] at *
       omega
      cases he
     cases he
   | _=>simp [stAt] at he
 | tup vs=>simp [stAt] at he
 | und=>simp [stAt] at he
end
end Go.Sim
namespace Go.Sim
open Go
section
variable {P:Program} {w0:World} {G0 G:Gh} {fr:Fr} {a:Act} {w:World}
def KM (P:Program) (kt:Nat):KK → Bool
 | .int k=>(match P.underlying kt with
   | some (.int k')=>decide (k=k')
   | _=>false)
 | .str=>(match P.underlying kt with
   | some .string=>true
   | _=>false)
 | .int2 k=>(match P.underlying kt with
   | some (.array 2 e)=>(match P.underlying e with
     | some (.int k')=>decide (k=k') && szOf P e == some 1
     | _=>false)
   | _=>false)
theorem KM_int {kt:Nat} {k:IntKind} (h:KM P kt (.int k)=true):P.underlying kt=some (.int k):=by
 simp only [KM] at h
 split at h
 ·rename_i k' hu
  simp only [Dte] at h
  rw [h];exact hu
 cases h
theorem KM_str {kt:Nat} (h:KM P kt .str=true):P.underlying kt=some .string:=by
 simp only [KM] at h
 split at h
 ·assumption
 cases h
theorem KM_int2 {kt:Nat} {k:IntKind} (h:KM P kt (.int2 k)=true):∃ e,P.underlying kt=some (.array 2 e) ∧ P.underlying e=some (.int k) ∧ szOf P e=some 1:=by
 simp only [KM] at h
 split at h
 ·rename_i e hu
  split at h
  ·rename_i k' hu'
   simp only [Bae,Dte,beq_iff_eq] at h
   exact ⟨e,hu,by rw [h.1];exact hu',h.2⟩
  cases h
 cases h
theorem KM_some {kt:Nat} {kk:KK} (h:KM P kt kk=true):∃ d,P.underlying kt=some d:=by
 cases kk with
 | int k=>exact ⟨_,KM_int h⟩
 | str=>exact ⟨_,KM_str h⟩
 | int2 k=>obtain ⟨e,h,_⟩:=KM_int2 h;exact ⟨_,h⟩
theorem keyOf_V {kk:KK} {v:AV} {k:Value} {u:Value} (h:keyOf kk v=some k) (hv:VR G v u):u=k ∧ keyV kk k:=by
 cases kk with
 | int q =>
   cases v with
   | lit l =>
     cases l <;> simp only [keyOf,reduceCtorEq] at h
     split at h
     ·rename_i e;subst e;cases h;simp only [VR] at hv;exact ⟨hv.1,_,rfl⟩
     cases h
   | _=>simp [keyOf] at h
 | str =>
   cases v with
   | lit l =>
     cases l <;> simp only [keyOf,reduceCtorEq] at h
     cases h;simp only [VR] at hv;exact ⟨hv.1,_,rfl⟩
   | _=>simp [keyOf] at h
 | int2 q =>
   unfold keyOf at h
   split at h
   ·rename_i he;cases he
   ·rename_i he;cases he
   ·rename_i q' k1 x k2 y he
    cases he
    split at h
    ·rename_i e
     obtain ⟨rfl,rfl⟩:=e
     cases h
     simp only [VR,VRs] at hv
     obtain ⟨vs,rfl,⟨v1,r1,rfl,⟨rfl,_⟩,v2,r2,rfl,⟨rfl,_⟩,rfl⟩,_⟩:=hv
     exact ⟨rfl,_,_,rfl⟩
    cases h
   cases h
theorem equal_int2 {kt e:Nat} {k:IntKind} (h1:P.underlying kt=some (.array 2 e)) (h2:P.underlying e=some (.int k)) (h3:szOf P e=some 1) (a b c d:Int) (w:World) :
 (Op.equal kt (.agg #[.int k a,.int k b]) (.agg #[.int k c,.int k d])).run P w=.ok (decide (a=c ∧ b=d)) w:=by
 have hp:∀ (x y:Value) (i:Nat),(part e #[x,y] i).run P w=(match (#[x,y]:Array Value)[i]? with | some v=>.ok v w | none=>.halt (.stuck "part: no such cell") w):=by
  intro x y i
  simp only [part,isAgg,Sem.run_bind,run_underlying h2,Result.andThen_ok,Sem.run_pure,Bool.false_eq_true,if_false]
  cases (#[x,y]:Array Value)[i]? <;> rfl
 simp only [Op.equal,Op.maxDepth]
 unfold Op.equalIn
 simp only [Sem.run_bind,run_underlying h1,Result.andThen_ok,run_szOf h3]
 simp only [Std.Legacy.Range.forIn_eq_forIn_range',Std.Legacy.Range.size]
 simp [List.range',hp,run_equalIn_int w _ e k k _ _ h2]
 by_cases h:a=c
 ·subst h
  by_cases h':b=d
  ·subst h';simp
  simp [h',hp,run_equalIn_int w _ e k k _ _ h2]
 simp [h]
theorem find_spec {kt:Nat} {kk:KK} (hm:KM P kt kk=true) {key:Value} (hk:keyV kk key):∀ (l:List MapEntry),(∀ e ∈ l,keyV kk e.key) →
 ((Instr.findKey kt key l).run P w=.ok none w ∧ ∀ e ∈ l,e.key ≠ key) ∨ ∃ j e,(Instr.findKey kt key l).run P w=.ok (some (j,e.val)) w ∧ l[j]?=some e ∧ e.key=key:=by
 intro l hl
 have plain:∀ d,P.underlying kt=some d → (∀ v,keyV kk v → MapKept.IsKey d v) →
  ((Instr.findKey kt key l).run P w=.ok none w ∧ ∀ e ∈ l,e.key ≠ key) ∨ ∃ j e,(Instr.findKey kt key l).run P w=.ok (some (j,e.val)) w ∧ l[j]?=some e ∧ e.key=key:=by
  intro d hd hv
  rcases MapKept.findNow_spec (hv key hk) l 0 (fun x hx=>hv _ (hl x hx)) with ⟨h1,h2⟩ | ⟨j,e,h1,h2,h3⟩
  ·exact .inl ⟨MapKept.run_findKey hd h1,h2⟩
  exact .inr ⟨j,e,by rw [MapKept.run_findKey hd h1];simp,h2,h3⟩
 cases kk with
 | int k=>exact plain _ (KM_int hm) fun v hv=>by obtain ⟨n,rfl⟩:=hv;rfl
 | str=>exact plain _ (KM_str hm) fun v hv=>by obtain ⟨n,rfl⟩:=hv;trivial
 | int2 k =>
    obtain ⟨e,hu,hu',hsz⟩:=KM_int2 hm
    rw [run_findKey_eq w (by rw [hu]) key l]
    have gen:∀ (l:List MapEntry) (i:Nat),(∀ e ∈ l,keyV (.int2 k) e.key) →
     ((Instr.findAsking kt key l i).run P w=.ok none w ∧ ∀ e ∈ l,e.key ≠ key) ∨ ∃ j e,(Instr.findAsking kt key l i).run P w=.ok (some (i + j,e.val)) w ∧ l[j]?=some e ∧ e.key=key:=by
     intro l
     induction l with
     | nil=>intro i _;exact .inl ⟨by simp [Instr.findAsking],by simp⟩
     | cons e0 l ih =>
       intro i hl
       obtain ⟨x,y,rfl⟩:=hk
       obtain ⟨x',y',hx'⟩:=hl e0 (List.mem_cons_self ..)
       have heq:=equal_int2 hu hu' hsz x y x' y' w
       by_cases hxy:x=x' ∧ y=y'
       ·obtain ⟨rfl,rfl⟩:=hxy
        refine .inr ⟨0,e0,?_,J,hx'⟩
        simp [Instr.findAsking,hx',heq]
       have hne:e0.key ≠ .agg #[.int k x,.int k y]:=by
        rw [hx']
        intro e
        simp only [Value.agg.injEq] at e
        have e':=congrArg Array.toList e
        simp only [List.cons.injEq,Value.int.injEq,true_and,and_true] at e'
        exact hxy ⟨e'.1.symm,e'.2.symm⟩
       rcases ih (i + 1) fun e he=>hl e (List.mem_cons_of_mem _ he) with ⟨h1,h2⟩ | ⟨j,e,h1,h2,h3⟩
       ·refine .inl ⟨by simp [Instr.findAsking,hx',heq,hxy,h1],fun e he=>?_⟩
        cases he with
        | head=>exact hne
        | tail _ he=>exact h2 e he
       exact .inr ⟨j + 1,e,by simp [Instr.findAsking,hx',heq,hxy,h1];omega,by simpa using h2,h3⟩
    rcases gen l 0 hl with h | ⟨j,e,h1,h2,h3⟩
    ·exact .inl h
    exact .inr ⟨j,e,by rw [h1];simp,h2,h3⟩
theorem check_ok {kt:Nat} {kk:KK} (hm:KM P kt kk=true) {key:Value} (hk:keyV kk key) (em:Bool):(Instr.checkKey em 10000 kt key).run P w=.ok () w:=by
 cases kk with
 | int k=>exact MapKept.run_checkKey (KM_int hm) (by obtain ⟨n,rfl⟩:=hk;rfl) em 9999
 | str=>exact MapKept.run_checkKey (KM_str hm) (by obtain ⟨n,rfl⟩:=hk;trivial) em 9999
 | int2 k =>
   obtain ⟨e,hu,hu',hsz⟩:=KM_int2 hm
   obtain ⟨x,y,rfl⟩:=hk
   have gen:∀ n,(Instr.checkKey em (n + 2) kt (.agg #[.int k x,.int k y])).run P w=.ok () w:=by
    intro n
    have hc:∀ z,(Instr.checkKey em (n + 1) e (.int k z)).run P w=.ok () w:=fun z=>MapKept.run_checkKey hu' (show MapKept.IsKey (.int k) (.int k z) from rfl) em n
    unfold Instr.checkKey
    simp only [Sem.run_bind,run_underlying hu,Result.andThen_ok]
    simp only [Std.Legacy.Range.forIn_eq_forIn_range',Std.Legacy.Range.size]
    have hp:∀ (x y:Value) (i:Nat),(part e #[x,y] i).run P w=(match (#[x,y]:Array Value)[i]? with | some v=>.ok v w | none=>.halt (.stuck "part: no such cell") w):=by
     intro x y i
     simp only [part,isAgg,Sem.run_bind,run_underlying hu',Result.andThen_ok,Sem.run_pure,Bool.false_eq_true,if_false]
     cases (#[x,y]:Array Value)[i]? <;> rfl
    simp [List.range',hp,run_szOf hsz,hc]
   exact gen 9998
theorem stays_ok {kk:KK} {key:Value} (hk:keyV kk key):(Instr.keyThatStays key key).run P w=.ok key w:=by
 have:Instr.sameBits 10000 key key=true:=by
  cases kk with
  | int k=>obtain ⟨n,rfl⟩:=hk;simp [Instr.sameBits]
  | str=>obtain ⟨n,rfl⟩:=hk;simp [Instr.sameBits,MapKept.bytes_beq]
  | int2 k=>obtain ⟨x,y,rfl⟩:=hk;simp [Instr.sameBits]
 simp [Instr.keyThatStays,this]
theorem mapOf_some {s:Sg} {kk:KK} {m:AV} {r:Nat × (Value → Option AV)} (h:mapOf s kk m=some r):m=.map r.1 ∧ s.ob r.1=some (.map kk r.2):=by
 cases m with
 | map id =>
   simp only [mapOf] at h
   split at h
   ·rename_i kk' f hf
    split at h
    ·rename_i e
     have:=KK.same_eq e
     subst this
     cases h
     exact ⟨rfl,hf⟩
    cases h
   cases h
 | _=>simp [mapOf] at h
theorem RR.map_at (h:RR w0 G0 G fr a w) {kk:KK} {m:AV} {r:Nat × (Value → Option AV)} {u:Value} (hm:mapOf fr.sg kk m=some r) (hu:VR G m u) :
 ∃ b,u=.map (some b) ∧ G.ow b=.obj r.1 ∧ ∃ (es:Array MapEntry) (clock:Nat),w.heap[b]?=some (.map es clock) ∧ MR G kk r.2 es.toList clock:=by
 obtain ⟨rfl,ho⟩:=mapOf_some hm
 simp only [VR] at hu
 obtain ⟨b,rfl,hb⟩:=hu
 obtain ⟨b',h1,h2⟩:=h.wi.obj _ _ ho
 obtain rfl:=h.wi.obu _ b' b h1 hb
 exact ⟨b',rfl,hb,h2⟩
theorem MR.look {kk:KK} {m:Value → Option AV} {es:List MapEntry} {clock:Nat} (h:MR G kk m es clock) {key:Value} (hno:∀ e ∈ es,e.key ≠ key):m key=none:=by
 cases hm:m key with
 | none=>rfl
 | some v =>
   obtain ⟨e,he,hk⟩:=h.bwd key v hm
   exact absurd hk (hno e he)
def mLk (P:Program) (t:Nat) (kk:KK) (z:AV):Bool :=
 match P.underlying t with
 | some (.map kt et)=>KM P kt kk && (match zeroOf P et with
   | some v=>cok z v
   | none=>false)
 | _=>false
theorem sim_lk (h:RR w0 G0 G fr a w) {t:Nat} {kk:KK} {z:AV} {ok:Bool} {m k:AO} {m' k':Operand} (hm:mO m m'=true) (hk:mO k k'=true) (ht:mLk P t kk z=true) {mv kv:AV} {key:Value} {r:Option AV}
 (e1:evV fr.env m=some mv) (e2:evV fr.env k=some kv) (e3:keyOf kk kv=some key) (e4:lkOf fr.sg kk key mv=some r) :
 ∃ u,(Instr.lookup t (a.eval m') (a.eval k') ok).run P w=.ok u w ∧ TR G (if ok then .tup [r.getD z,.lit (.bool r.isSome)] else .val (r.getD z)) u:=by
 unfold mLk at ht
 split at ht
 ·rename_i kt et hu
  simp only [Bae] at ht
  obtain ⟨hK,hz⟩:=ht
  split at hz
  ·rename_i zv hzv
   obtain ⟨hzr,_⟩:=cok_sound G z zv hz
   obtain ⟨hkey,hkv⟩:=keyOf_V e3 (h.evV hk e2)
   have hmv:=h.evV hm e1
   have fin:∀ (v:Value) (b:Bool) (av:AV),VR G av v → r.isSome=b → r.getD z=av → TR G (if ok then .tup [r.getD z,.lit (.bool r.isSome)] else .val (r.getD z)) (if ok then .tuple #[v,.bool b] else v):=by
    intro v b av h1 h2 h3
    rw [h2,h3]
    cases ok
    ·exact h1
    exact ⟨[v,.bool b],rfl,by simp only [VRs,VR];exact ⟨v,_,rfl,h1,_,_,rfl,⟨rfl,rfl⟩,rfl⟩⟩
   rw [hkey]
   have hcase:(mv=.lit (.map none) ∧ r=none) ∨ ∃ q,mapOf fr.sg kk mv=some q ∧ r=q.2 key:=by
    unfold lkOf at e4
    split at e4
    ·exact .inl ⟨rfl,(Option.some.inj e4).symm⟩
    simp only [Obe,Oie] at e4
    obtain ⟨q,h1,h2⟩:=e4
    exact .inr ⟨q,h1,h2.symm⟩
   rcases hcase with ⟨rfl,rfl⟩ | ⟨q,hq,rfl⟩
   ·simp only [VR] at hmv
    rw [hmv.1]
    refine ⟨_,?_,fin zv false z hzr J J⟩
    obtain ⟨d,hd⟩:=KM_some hK
    simp [Instr.lookup,run_underlying hu,check_ok hK hkv,Instr.findKey,run_underlying hd,Instr.findNow,run_zeroOf hzv]
   obtain ⟨b,hb1,hb2,es,clock,hb3,hMR⟩:=h.map_at hq hmv
   rw [hb1]
   rcases find_spec (w:=w) hK hkv es.toList hMR.ky with ⟨h1,h2⟩ | ⟨j,e,h1,h2,h3⟩
   ·have hn:=hMR.look h2
    refine ⟨_,?_,fin zv false z hzr (by rw [hn];rfl) (by rw [hn];rfl)⟩
    simp [Instr.lookup,run_underlying hu,MapKept.run_getObj_map hb3,check_ok hK hkv,h1,run_zeroOf hzv]
   obtain ⟨av,g1,g2,_⟩:=hMR.fwd e (Lmg h2)
   rw [h3] at g1
   refine ⟨_,?_,fin e.val true av g2 (by rw [g1];rfl) (by rw [g1];rfl)⟩
   simp [Instr.lookup,run_underlying hu,MapKept.run_getObj_map hb3,check_ok hK hkv,h1]
  cases hz
 cases ht
theorem set_only {b:Nat} {o o':Obj} (hb:w.heap[b]?=some o):Only w { w with heap:=w.heap.setIfInBounds b o' } b ∧ ({ w with heap:=w.heap.setIfInBounds b o' }:World).heap[b]?=some o':=by
 obtain ⟨h1,h2⟩:=MapKept.heap_set (o':=o') hb
 exact ⟨⟨rfl,rfl,rfl,by simp,fun k hk=>h2 k hk⟩,h1⟩
theorem nd_ne {α:Type} {l:List α} (h:l.Nodup) {i j:Nat} {x:α} (hij:i < j) (hi:l[i]?=some x) (hj:l[j]?=some x):False:=by
 obtain ⟨h1,e1⟩:=List.getElem?_eq_some_iff.1 hi
 obtain ⟨h2,e2⟩:=List.getElem?_eq_some_iff.1 hj
 exact List.pairwise_iff_getElem.1 h i j h1 h2 hij (e1.trans e2.symm)
theorem mset_same (m:Value → Option AV) (k:Value) (v:Option AV):mset m k v k=v:=by simp [mset]
theorem mset_ne (m:Value → Option AV) {k j:Value} (v:Option AV) (h:j ≠ k):mset m k v j=m j:=by simp [mset,h]
def mMu (P:Program) (t:Nat) (kk:KK):Bool :=
 match P.underlying t with
 | some (.map kt _)=>KM P kt kk
 | _=>false
theorem sim_mu (h:RR w0 G0 G fr a w) {t:Nat} {kk:KK} {m k v:AO} {m' k' v':Operand} (hm:mO m m'=true) (hk:mO k k'=true) (hv:mO v v'=true) (ht:mMu P t kk=true) {mv kv vv:AV} {key:Value} {r:Nat × (Value → Option AV)}
 (e1:evV fr.env m=some mv) (e2:evV fr.env k=some kv) (e3:keyOf kk kv=some key) (e5:evV fr.env v=some vv) (e4:mapOf fr.sg kk mv=some r) :
 ∃ w',(Instr.mapUpdate t (a.eval m') (a.eval k') (a.eval v')).run P w=.ok () w' ∧ RR w0 G0 G { fr with sg:=fr.sg.set r.1 (.map kk (mset r.2 key (some vv.er))) } a w':=by
 unfold mMu at ht
 split at ht
 ·rename_i kt et hu
  obtain ⟨hkey,hkv⟩:=keyOf_V e3 (h.evV hk e2)
  have hvr:=VR_er _ _ (h.evV hv e5)
  obtain ⟨b,hb1,hb2,es,clock,hb3,hMR⟩:=h.map_at e4 (h.evV hm e1)
  rw [hkey,hb1]
  rcases find_spec (w:=w) ht hkv es.toList hMR.ky with ⟨h1,h2⟩ | ⟨j,e,h1,h2,h3⟩
  ·obtain ⟨ho,hh⟩:=set_only (o':=.map (es.push { key,val:=a.eval v',born:=clock }) (clock + 1)) hb3
   refine ⟨_,?_,h.stobj hb2 (by rw [(mapOf_some e4).2];simp) ho ⟨_,_,hh,?_⟩⟩
   ·simp [Instr.mapUpdate,run_underlying hu,MapKept.run_getObj_map hb3,check_ok ht hkv,h1,MapKept.run_setObj_map _ hb3]
   rw [Array.toList_push]
   refine ⟨?_,?_,?_,?_,?_,?_⟩
   ·intro e he
    simp only [List.mem_append,List.mem_singleton] at he
    rcases he with he | rfl
    ·rw [mset_ne _ _ (h2 e he)];exact hMR.fwd e he
    exact ⟨vv.er,mset_same _ _ _,hvr,AV.nt_er _⟩
   ·intro k' a' hk'
    by_cases e:k'=key
    ·subst e;exact ⟨_,List.mem_append_right _ (List.mem_singleton_self _),rfl⟩
    rw [mset_ne _ _ e] at hk'
    obtain ⟨e',he',hee⟩:=hMR.bwd k' a' hk'
    exact ⟨e',List.mem_append_left _ he',hee⟩
   ·rw [List.map_append,List.nodup_append]
    refine ⟨hMR.nd,by simp,?_⟩
    intro x hx y hy e
    simp only [List.map_cons,List.map_nil,List.mem_singleton] at hy
    subst hy;subst e
    obtain ⟨e',he',hee⟩:=List.mem_map.1 hx
    exact h2 e' he' hee
   ·intro e he
    simp only [List.mem_append,List.mem_singleton] at he
    rcases he with he | rfl
    ·exact hMR.ky e he
    exact hkv
   ·intro e he
    simp only [List.mem_append,List.mem_singleton] at he
    rcases he with he | rfl
    ·have:=hMR.bn e he;omega
    exact Nat.lt_succ_self _
   rw [List.map_append,List.nodup_append]
   refine ⟨hMR.bd,by simp,?_⟩
   intro x hx y hy e
   simp only [List.map_cons,List.map_nil,List.mem_singleton] at hy
   subst hy;subst e
   obtain ⟨e',he',hee⟩:=List.mem_map.1 hx
   have:=hMR.bn e' he'
   omega
  have hj:es[j]?=some e:=by simpa using h2
  have hjl:j < es.size:=by
   rcases Nat.lt_or_ge j es.size with hlt | hge
   ·exact hlt
   rw [Array.getElem?_eq_none hge] at hj;cases hj
  obtain ⟨ho,hh⟩:=set_only (o':=.map (es.modify j fun e=>{ e with key:=key,val:=a.eval v' }) clock) hb3
  have hje:es[j]=e:=by simpa [hjl] using hj
  have hmod:(es.modify j fun e=>{ e with key:=key,val:=a.eval v' }).toList=es.toList.set j { e with key:=key,val:=a.eval v' }:=by
   apply List.ext_getElem?
   intro i
   rw [Array.getElem?_toList,Array.getElem?_modify,List.getElem?_set]
   by_cases hij:j=i
   ·subst hij;simp [hjl,hje]
   simp [hij]
  have hkeys:(es.toList.set j { e with key:=key,val:=a.eval v' }).map (·.key)=es.toList.map (·.key):=by
   rw [List.map_set]
   apply List.ext_getElem?
   intro i
   rw [List.getElem?_set]
   by_cases hij:j=i
   ·subst hij;simp [hjl,hje,h3]
   simp [hij]
  refine ⟨_,?_,h.stobj hb2 (by rw [(mapOf_some e4).2];simp) ho ⟨_,_,hh,?_⟩⟩
  ·simp [Instr.mapUpdate,run_underlying hu,MapKept.run_getObj_map hb3,check_ok ht hkv,h1,hj,h3,stays_ok hkv,MapKept.run_setObj_map _ hb3]
  rw [hmod]
  have hmem:∀ x,x ∈ es.toList.set j { e with key:=key,val:=a.eval v' } → x={ e with key:=key,val:=a.eval v' } ∨ (x ∈ es.toList ∧ x.key ≠ key):=by
   intro x hx
   obtain ⟨i,hi⟩:=List.getElem?_of_mem hx
   rw [List.getElem?_set] at hi
   by_cases hij:j=i
   ·subst hij
    rw [if_pos rfl,if_pos (by simpa using hjl)] at hi
    exact .inl (Option.some.inj hi).symm
   rw [if_neg hij] at hi
   refine .inr ⟨Lmg hi,fun hxk=>?_⟩
   have hnd:=hMR.nd
   have e1:(es.toList.map (·.key))[i]?=some key:=by rw [Lgm,hi];simp [hxk]
   have e2:(es.toList.map (·.key))[j]?=some key:=by rw [Lgm,h2];simp [h3]
   rcases Nat.lt_or_gt_of_ne hij with hlt | hgt
   ·exact nd_ne hnd hlt e2 e1
   exact nd_ne hnd hgt e1 e2
  have hborn:(es.toList.set j { e with key:=key,val:=a.eval v' }).map (·.born)=es.toList.map (·.born):=by
   rw [List.map_set]
   apply List.ext_getElem?
   intro i
   rw [List.getElem?_set]
   by_cases hij:j=i
   ·subst hij;simp [hjl,hje]
   simp [hij]
  refine ⟨?_,?_,by rw [hkeys];exact hMR.nd,?_,?_,by rw [hborn];exact hMR.bd⟩
  ·intro x hx
   rcases hmem x hx with rfl | ⟨hx1,hx2⟩
   ·exact ⟨vv.er,mset_same _ _ _,hvr,AV.nt_er _⟩
   rw [mset_ne _ _ hx2];exact hMR.fwd x hx1
  ·intro k' a' hk'
   have:k' ∈ (es.toList.set j { e with key:=key,val:=a.eval v' }).map (·.key):=by
    rw [hkeys]
    by_cases ek:k'=key
    ·subst ek;rw [← h3];exact List.mem_map.2 ⟨e,Lmg h2,rfl⟩
    rw [mset_ne _ _ ek] at hk'
    obtain ⟨e',he',hee⟩:=hMR.bwd k' a' hk'
    exact List.mem_map.2 ⟨e',he',hee⟩
   obtain ⟨x,hx1,hx2⟩:=List.mem_map.1 this
   exact ⟨x,hx1,hx2⟩
  ·intro x hx
   rcases hmem x hx with rfl | ⟨hx1,hx2⟩
   ·exact hkv
   exact hMR.ky x hx1
  intro x hx
  rcases hmem x hx with rfl | ⟨hx1,hx2⟩
  ·exact hMR.bn e (Lmg h2)
  exact hMR.bn x hx1
 cases ht
theorem sim_dl (h:RR w0 G0 G fr a w) {t u ty:Nat} {kk:KK} {m k:AO} {m' k':Operand} (hm:mO m m'=true) (hk:mO k k'=true) (ht:mMu P t kk=true) {mv kv:AV} {key:Value} {r:Nat × (Value → Option AV)}
 (e1:evV fr.env m=some mv) (e2:evV fr.env k=some kv) (e3:keyOf kk kv=some key) (e4:mapOf fr.sg kk mv=some r) :
 ∃ w',(Builtin.delete_ #[t,u] ty #[a.eval m',a.eval k']).run P w=.ok (.tuple #[]) w' ∧ RR w0 G0 G { fr with sg:=fr.sg.set r.1 (.map kk (mset r.2 key none)) } a w':=by
 unfold mMu at ht
 split at ht
 ·rename_i kt et hu
  obtain ⟨hkey,hkv⟩:=keyOf_V e3 (h.evV hk e2)
  obtain ⟨b,hb1,hb2,es,clock,hb3,hMR⟩:=h.map_at e4 (h.evV hm e1)
  rw [hkey,hb1]
  rcases find_spec (w:=w) ht hkv es.toList hMR.ky with ⟨h1,h2⟩ | ⟨j,e,h1,h2,h3⟩
  ·obtain ⟨ho,hh⟩:=set_only (o':=.map es clock) hb3
   refine ⟨_,?_,h.stobj hb2 (by rw [(mapOf_some e4).2];simp) ho ⟨_,_,hh,?_⟩⟩
   ·simp [Builtin.delete_,run_underlying hu,MapKept.run_getObj_map hb3,check_ok ht hkv,h1,MapKept.run_setObj_map _ hb3]
   refine ⟨fun e he=>by rw [mset_ne _ _ (h2 e he)];exact hMR.fwd e he,?_,hMR.nd,hMR.ky,hMR.bn,hMR.bd⟩
   intro k' a' hk'
   by_cases e:k'=key
   ·subst e;rw [mset_same] at hk';cases hk'
   rw [mset_ne _ _ e] at hk';exact hMR.bwd k' a' hk'
  have hj:es[j]?=some e:=by simpa using h2
  have hjl:j < es.size:=by
   rcases Nat.lt_or_ge j es.size with hlt | hge
   ·exact hlt
   rw [Array.getElem?_eq_none hge] at hj;cases hj
  obtain ⟨ho,hh⟩:=set_only (o':=.map (es.eraseIdxIfInBounds j) clock) hb3
  have her:(es.eraseIdxIfInBounds j).toList=es.toList.eraseIdx j:=by
   unfold Array.eraseIdxIfInBounds
   rw [dif_pos hjl]
   simp
  have hsub:(es.toList.eraseIdx j).Sublist es.toList:=List.eraseIdx_sublist _ _
  have hgone:∀ x ∈ es.toList.eraseIdx j,x.key ≠ key:=by
   intro x hx hxk
   obtain ⟨i,hi⟩:=List.getElem?_of_mem hx
   rw [List.getElem?_eraseIdx] at hi
   have hnd:=hMR.nd
   have e2:(es.toList.map (·.key))[j]?=some key:=by rw [Lgm,h2];simp [h3]
   split at hi
   ·rename_i hlt
    have e1:(es.toList.map (·.key))[i]?=some key:=by rw [Lgm,hi];simp [hxk]
    exact nd_ne hnd hlt e1 e2
   rename_i hge
   have e1:(es.toList.map (·.key))[i + 1]?=some key:=by rw [Lgm,hi];simp [hxk]
   exact nd_ne hnd (by omega) e2 e1
  refine ⟨_,?_,h.stobj hb2 (by rw [(mapOf_some e4).2];simp) ho ⟨_,_,hh,?_⟩⟩
  ·simp [Builtin.delete_,run_underlying hu,MapKept.run_getObj_map hb3,check_ok ht hkv,h1,MapKept.run_setObj_map _ hb3]
  rw [her]
  refine ⟨fun x hx=>by rw [mset_ne _ _ (hgone x hx)];exact hMR.fwd x (hsub.subset hx),?_,(hsub.map _).nodup hMR.nd,fun x hx=>hMR.ky x (hsub.subset hx),fun x hx=>hMR.bn x (hsub.subset hx),(hsub.map _).nodup hMR.bd⟩
  intro k' a' hk'
  by_cases ek:k'=key
  ·subst ek;rw [mset_same] at hk';cases hk'
  rw [mset_ne _ _ ek] at hk'
  obtain ⟨x,hx1,hx2⟩:=hMR.bwd k' a' hk'
  refine ⟨x,?_,hx2⟩
  obtain ⟨i,hi⟩:=List.getElem?_of_mem hx1
  have hij:i ≠ j:=by
   intro e';subst e';rw [h2] at hi;cases hi;exact ek (by rw [← hx2,h3])
  rcases Nat.lt_or_gt_of_ne hij with hlt | hgt
  ·exact Lmg (i:=i) (by rw [List.getElem?_eraseIdx,if_pos hlt];exact hi)
  exact Lmg (i:=i - 1) (by rw [List.getElem?_eraseIdx,if_neg (by omega),show i - 1 + 1=i from by omega];exact hi)
 cases ht
theorem sim_mkm (h:RR w0 G0 G fr a w) (t:Nat) (kk:KK) :
 ∃ v w',(Instr.makeMap t none).run P w=.ok v w' ∧ ∃ G',RR w0 G0 G' { fr with sg:=fr.sg.new (.map kk fun _=>none) } a w' ∧ TR G' (.val (.map fr.sg.nx)) v:=by
 obtain ⟨h1,h2⟩:=h.wi.nofree (Nat.le_refl w.heap.size)
 have hg:Grew w { w with heap:=w.heap.push (.map #[] 0) }:=grew_push w _ w.drawn
 refine ⟨.map (some w.heap.size),_,rfl,_,(h.grow hg).mkobj (o:=.map kk fun _=>none) h.pres.size (by simp) h1 h2 fun G' hl=>⟨#[],0,push_at w _ w.drawn,⟨by simp,by simp,by simp,by simp,by simp,by simp⟩⟩,?_⟩
 simp only [TR,VR]
 exact ⟨_,rfl,by simp [Gh.own]⟩
end
end Go.Sim
namespace Go.Sim
open Go
section
variable {P:Program} {w0:World} {G0 G:Gh} {fr:Fr} {a:Act} {w:World}
theorem flat_append (xs ys:List AV):flat (xs ++ ys)=flat xs ++ flat ys:=by simp [flat]
theorem flat_drop {sz:Nat}:∀ (xs:List AV) (l:Nat),(∀ x ∈ xs,x.cells.length=sz) → flat (xs.drop l)=(flat xs).drop (l * sz)
 | xs,0,h=>by simp
 | [],l + 1,h=>by simp [flat]
 | x :: xs,l + 1,h=>by
   have hx:=h x (List.mem_cons_self ..)
   simp only [List.drop_succ_cons]
   rw [flat_drop xs l fun y hy=>h y (List.mem_cons_of_mem _ hy)]
   simp only [flat,List.flatMap_cons]
   have e1:x.cells.drop ((l + 1) * sz)=[]:=List.drop_eq_nil_of_le (by rw [hx,Nat.succ_mul];omega)
   rw [List.drop_append,e1,hx,show (l + 1) * sz - sz=l * sz from by rw [Nat.succ_mul];omega]
   rfl
theorem flat_take {sz:Nat}:∀ (xs:List AV) (l:Nat),(∀ x ∈ xs,x.cells.length=sz) → flat (xs.take l)=(flat xs).take (l * sz)
 | xs,0,h=>by simp [flat]
 | [],l + 1,h=>by simp [flat]
 | x :: xs,l + 1,h=>by
   have hx:=h x (List.mem_cons_self ..)
   simp only [List.take_succ_cons]
   have ih:=flat_take xs l fun y hy=>h y (List.mem_cons_of_mem _ hy)
   simp only [flat,List.flatMap_cons] at ih ⊢
   rw [ih,List.take_append,hx,List.take_of_length_le (l:=x.cells) (by rw [hx,Nat.succ_mul];omega),show (l + 1) * sz - sz=l * sz from by rw [Nat.succ_mul];omega]
theorem WI.slice_vals {s:Sg} (h:WI G s w) {xs:List AV} {ad:Addr} {cap:Nat} (hl:lies G xs cap (some ad)) :
 ∃ vs,VRs G (flat xs) vs ∧ (∀ (j:Nat) v,vs[j]?=some v → w.cell? (ad.add j)=some v) ∧ AV.nts (flat xs)=true ∧ (flat xs).all AV.isCell=true:=by
 obtain ⟨b,off,sp⟩:=ad
 obtain ⟨hsp,hk⟩:=hl
 rcases hsp with rfl | hsp
 ·exact ⟨[],by simp only [flat,List.flatMap_nil,VRs],fun j v hv=>by simp at hv,rfl,rfl⟩
 obtain rfl:sp=none:=hsp
 obtain ⟨vs,h1,h2⟩:=vals_of (G:=G) (f:=fun j=>w.cell? ⟨b,off + j,none⟩) (flat xs) fun j c hc=>by
  obtain ⟨⟨v,h1,h2⟩,_⟩:=h.claim _ _ _ (hk j c hc)
  exact ⟨v,h1,h2⟩
 refine ⟨vs,h1,fun j v hv=>by rw [add_plain];exact h2 j v hv,?_,?_⟩
 ·rw [AV.nts_iff]
  intro c hc
  obtain ⟨j,hj⟩:=List.getElem?_of_mem hc
  exact (h.claim _ _ _ (hk j c hj)).2.1
 rw [List.all_eq_true]
 intro c hc
 obtain ⟨j,hj⟩:=List.getElem?_of_mem hc
 exact (h.claim _ _ _ (hk j c hj)).2.2
def mApp (P:Program) (t sz by_:Nat):Bool :=
 match P.underlying t with
 | some (.slice e)=>(match P.info? e with
   | some i=>i.size == sz && i.bytes == by_ && decide (0 < i.bytes) && (match i.zero with
     | some z=>z.cells.size == sz
     | none=>false)
   | none=>false)
 | _=>false
theorem sim_app (h:RR w0 G0 G fr a w) {t ty sz by_:Nat} {s x:AO} {s' x':Operand} (hs:mO s s'=true) (hx:mO x x'=true) (ht:mApp P t sz by_=true) {sv xv:AV} {so xo:Own × List AV} {tv:Option TV} {fr':Fr}
 (e1:evV fr.env s=some sv) (e2:evV fr.env x=some xv) (e3:sliceOf sz sv=some so) (e4:sliceOf sz xv=some xo) (e5:appOf sz by_ fr so.1 so.2 xo.2=some (tv,fr')) :
 ∃ v w',(Builtin.append_ #[t,t] ty #[a.eval s',a.eval x']).run P w=.ok v w' ∧ ∃ G',RR w0 G0 G' fr' a w' ∧ ∀ y,tv=some y → TR G' y v:=by
 obtain ⟨o,xs⟩:=so
 obtain ⟨o2,ys⟩:=xo
 have q1:sv=.slice o sz xs:=by
  cases sv with
  | slice o' sz' xs'=>simp only [sliceOf] at e3;split at e3 <;> simp_all
  | _=>simp [sliceOf] at e3
 have q2:xv=.slice o2 sz ys:=by
  cases xv with
  | slice o' sz' xs'=>simp only [sliceOf] at e4;split at e4 <;> simp_all
  | _=>simp [sliceOf] at e4
 subst q1
 subst q2
 unfold mApp at ht
 split at ht
 ·rename_i e hu
  split at ht
  ·rename_i ie hie
   simp only [Bae,beq_iff_eq,Dte] at ht
   obtain ⟨⟨⟨hsz,hby⟩,hbp⟩,hz⟩:=ht
   subst hsz
   subst hby
   split at hz
   ·rename_i z hz0
    simp only [beq_iff_eq] at hz
    have hS:=h.evV hs e1
    have hX:=h.evV hx e2
    simp only [VR] at hS hX
    obtain ⟨sa,cap,hs1,hs2,hs3,hs4,hs5⟩:=hS
    obtain ⟨xa,xcap,hx1,hx2,hx3,hx4,hx5⟩:=hX
    cases ys with
    | nil =>
      simp only [appOf,Oie,Pie] at e5
      obtain ⟨rfl,rfl⟩:=e5
      refine ⟨_,w,?_,G,h,fun y hy=>by cases hy;show VR G (.slice o ie.size xs) _;simp only [VR];exact ⟨sa,cap,rfl,hs2,hs3,hs4,hs5⟩⟩
      rw [hs1,hx1]
      cases sa <;> cases xa <;> simp [Builtin.append_,run_underlying hu,sizeOf,typeInfo,hie,Builtin.lenOf,hs2,Builtin.firstCells,loadCells,loadCellsFrom,storeCells]
    | cons y ys =>
      simp only [appOf] at e5
      split at e5
      ·rename_i hbound
       simp only [Obe,Oie,Pie] at e5
       obtain ⟨fr1,hmay,rfl,rfl⟩:=e5
       have hxlen:0 < (y :: ys).length:=by simp
       generalize hyy:y :: ys=yy at *
       obtain ⟨xad,rfl⟩:∃ ad,xa=some ad:=by
        cases xa with
        | none=>simp only [lies] at hx4;omega
        | some ad=>exact ⟨ad,rfl⟩
       obtain ⟨news,n1,n2,n3,n4⟩:=h.wi.slice_vals hx4
       have nlen:news.length=yy.length * ie.size:=by rw [VRs_length n1,flat_length hx3]
       have h1:RR w0 G0 G fr1 a w:=by
        cases o with
        | none=>simp [mayApp] at hmay
        | full=>simp only [mayApp,Oie] at hmay;subst hmay;exact h
        | tip t' =>
          simp only [mayApp] at hmay
          split at hmay
          ·simp only [Oie] at hmay;subst hmay
           exact h.less rfl rfl rfl rfl rfl rfl rfl (fun j hj=>by
            simp only at hj
            split at hj
            ·cases hj
            exact hj) (fun _ x=>x)
          cases hmay
        | gt g =>
          simp only [mayApp] at hmay
          split at hmay
          ·simp only [Oie] at hmay;subst hmay
           exact h.less rfl rfl rfl rfl rfl rfl rfl (fun _ x=>x) (fun j hj=>by
            simp only at hj
            split at hj
            ·cases hj
            exact hj)
          cases hmay
       have flen:(flat xs).length=xs.length * ie.size:=flat_length hs3
       have fylen:(flat yy).length=yy.length * ie.size:=flat_length hx3
       have hall:∀ u ∈ xs ++ yy,u.cells.length=ie.size:=fun u hu'=>by
        rcases List.mem_append.1 hu' with hu' | hu'
        ·exact hs3 u hu'
        exact hx3 u hu'
       by_cases hroom:xs.length + yy.length ≤ cap
       ·
        have hright:∃ b off cs,sa=some ⟨b,off,none⟩ ∧ BL w b cs ∧ off + cap * ie.size ≤ cs.length ∧ (∀ q c,G.K b q c → q < off + xs.length * ie.size) ∧ (∀ id,G.ow b ≠ .obj id) ∧ (∀ i,G.ow b ≠ .loc i) ∧
         (∀ t,fr1.lv t=true → ∀ x,G.ow b ≠ .tip t x) ∧ (∀ g,fr1.sg.gl g=true → ∀ x,G.ow b ≠ .gt g x) ∧ G.ow b ≠ .free ∧ (∀ g,G.ow b ≠ .mu g):=by
         cases o with
         | none=>simp [mayApp] at hmay
         | full=>simp only [ownRel] at hs5;omega
         | tip t' =>
           simp only [mayApp] at hmay
           split at hmay
           ·rename_i hlv
            simp only [Oie] at hmay;subst hmay
            obtain ⟨ad,rfl,hT⟩:=hs5
            obtain ⟨b,off,len',cap',sz',cs,r1,r2,r3,r4⟩:=h.tips t' hlv
            rw [hT] at r1
            simp only [Oie,Pie] at r1
            obtain ⟨rfl,rfl,rfl,rfl⟩:=r1
            refine ⟨b,off,cs,rfl,r3,r4,fun q c hq=>by have:=h.wi.kow b q c hq;rw [r2] at this;exact this,fun id e=>(by rw [r2] at e;cases e),fun i e=>(by rw [r2] at e;cases e),?_,fun g _ x e=>(by rw [r2] at e;cases e),by rw [r2];simp,fun g e=>by rw [r2] at e;cases e⟩
            intro t'' ht'' x e
            rw [r2] at e
            cases e
            simp at ht''
           cases hmay
         | gt g =>
           simp only [mayApp] at hmay
           split at hmay
           ·rename_i hlv
            simp only [Oie] at hmay;subst hmay
            obtain ⟨ad,rfl,hT⟩:=hs5
            obtain ⟨b,off,len',cap',sz',cs,r1,r2,r3,r4⟩:=h.wi.gts g hlv
            rw [hT] at r1
            simp only [Oie,Pie] at r1
            obtain ⟨rfl,rfl,rfl,rfl⟩:=r1
            refine ⟨b,off,cs,rfl,r3,r4,fun q c hq=>by have:=h.wi.kow b q c hq;rw [r2] at this;exact this,fun id e=>(by rw [r2] at e;cases e),fun i e=>(by rw [r2] at e;cases e),fun t _ x e=>(by rw [r2] at e;cases e),?_,by rw [r2];simp,fun g e=>by rw [r2] at e;cases e⟩
            intro t'' ht'' x e
            rw [r2] at e
            cases e
            simp at ht''
           cases hmay
        obtain ⟨b,off,cs,rfl,r3,r4,rA,rD1,rD2,rB1,rB2,rF,rD3⟩:=hright
        have hmul:(xs.length + yy.length) * ie.size ≤ cap * ie.size:=Nat.mul_le_mul_right _ hroom
        rw [Nat.add_mul] at hmul
        have nlen':news.length=yy.length * ie.size:=nlen
        obtain ⟨w',g1,g2,g3⟩:=run_storeCells0 (P:=P) (o:=off + xs.length * ie.size) (vs:=news) r3 (by rw [nlen'];omega) (VRs_cellV n1 n4)
        have hcs:off + xs.length * ie.size ≤ cs.length:=by omega
        obtain ⟨G',k1,k2,k3,k4,k5⟩:=h1.retip (b:=b) (e:=off + xs.length * ie.size) rA rD1 rD2 rB1 rB2 (fun hb hf=>rF (h.pres.free b hb hf).2.1) rD3 g2 g3
         (fun q hq=>by rw [g3.cell,r3.cell,List.append_assoc,List.getElem?_append_left (by simp;omega),List.getElem?_take,if_pos hq])
         n1 n3 n4 (fun j v hj=>by
          have hjl:j < news.length:=by
           rcases Nat.lt_or_ge j news.length with h' | h'
           ·exact h'
           rw [List.getElem?_eq_none h'] at hj;cases hj
          rw [List.append_assoc,List.getElem?_append_right (by simp;omega),List.length_take,Nat.min_eq_left hcs,show off + xs.length * ie.size + j - (off + xs.length * ie.size)=j from by omega,List.getElem?_append_left hjl]
          exact hj)
         (off:=off) (len:=xs.length + yy.length) (cap:=cap) (sz:=ie.size) (by rw [fylen,Nat.add_mul];omega) (by simp only [List.length_append,List.length_take,List.length_drop];omega)
        refine ⟨.slice (some ⟨b,off,none⟩) (xs.length + yy.length) cap,w',?_,G',k1,fun q hq=>?_⟩
        ·rw [hs1,hx1]
         have hf:=run_firstCells_some (P:=P) w ie.size yy.length xad yy.length xcap news nlen n2
         simp [Builtin.append_,run_underlying hu,sizeOf,typeInfo,hie,Builtin.lenOf,hroom,hf,add_plain,g1]
        cases hq
        show VR G' (.slice (.tip fr1.nt) ie.size (xs ++ yy)) _
        simp only [VR]
        refine ⟨some ⟨b,off,none⟩,cap,by simp,by simp;exact hroom,hall,⟨.inr rfl,?_⟩,⟨_,rfl,by rw [k4];simp⟩⟩
        intro j c hj
        rw [flat_append] at hj
        by_cases hjl:j < (flat xs).length
        ·rw [List.getElem?_append_left hjl] at hj
         exact k2.K _ _ _ (hs4.2 j c hj)
        rw [List.getElem?_append_right (by omega),flen] at hj
        have:=k5 _ c hj
        rw [show off + xs.length * ie.size + (j - xs.length * ie.size)=off + j from by omega] at this
        exact this
       ·
        have hgrow:cap < xs.length + yy.length:=by omega
        have hfit:Builtin.nextslicecap (xs.length + yy.length) cap * ie.bytes ≤ 281474976710656:=growslice_fits hgrow hbound
        have h63:((xs.length + yy.length:Nat):Int) ≤ 9223372036854775807:=by
         have:(xs.length + yy.length) * 1 ≤ (xs.length + yy.length) * ie.bytes:=Nat.mul_le_mul_left _ hbp
         omega
        have hal:∀ o,w.drew.alloc o={ w with heap:=w.heap.push o,drawn:=w.drawn + 1 }:=fun _=>rfl
        have hgc:=grownCap_ge w (xs.length + yy.length) cap e
        have hold:∃ olds,VRs G (flat xs) olds ∧ AV.nts (flat xs)=true ∧ (flat xs).all AV.isCell=true ∧
         (Builtin.append_ #[t,t] ty #[.slice sa xs.length cap,.slice (some xad) yy.length xcap]).run P w =
           .ok (.slice (some ⟨w.heap.size,0,none⟩) (xs.length + yy.length) (grownCap w (xs.length + yy.length) cap e))
            { w with heap:=w.heap.push (.cells (olds ++ news ++ (Builtin.zeroCells z.cells (grownCap w (xs.length + yy.length) cap e - (xs.length + yy.length))).toList).toArray e),drawn:=w.drawn + 1 }:=by
         cases sa with
         | none =>
           have hc0:cap=0:=hs4
           subst hc0
           have hx0:xs=[]:=List.length_eq_zero_iff.1 (by omega)
           subst hx0
           refine ⟨[],J,J,J,?_⟩
           simp only [List.length_nil,Nat.zero_add] at *
           rw [run_append_nil w t ty e ie z hu hie hz0 xad yy.length xcap news nlen n2 hxlen h63 (by rw [nextslicecap_zero hxlen] at hfit;exact hfit)]
           have e1:∀ (Z:Array Value),news.toArray ++ Z=(([]:List Value) ++ news ++ Z.toList).toArray:=fun Z=>Array.ext' (by simp)
           rw [hal,e1]
         | some ad =>
           obtain ⟨olds,o1,o2,o3,o4⟩:=h.wi.slice_vals hs4
           refine ⟨olds,o1,o3,o4,?_⟩
           rw [run_append_grow w t ty e ie z hu hie hz0 ad xs.length cap olds (by rw [VRs_length o1,flen]) o2 xad yy.length xcap news nlen n2 hgrow h63 hfit]
           have e1:∀ (Z:Array Value),olds.toArray ++ news.toArray ++ Z=(olds ++ news ++ Z.toList).toArray:=fun Z=>Array.ext' (by simp)
           rw [hal,e1]
        obtain ⟨olds,o1,o3,o4,hrun⟩:=hold
        generalize hgcd:grownCap w (xs.length + yy.length) cap e=gc at *
        generalize hzc:(Builtin.zeroCells z.cells (gc - (xs.length + yy.length))).toList=zc at *
        have zlen:zc.length=(gc - (xs.length + yy.length)) * ie.size:=by rw [← hzc,Array.length_toList,size_zeroCells,hz]
        have olen:olds.length=xs.length * ie.size:=by rw [VRs_length o1,flen]
        have hg:Grew w { w with heap:=w.heap.push (.cells (olds ++ news ++ zc).toArray e),drawn:=w.drawn + 1 }:=grew_push w _ _
        have hB:BL { w with heap:=w.heap.push (.cells (olds ++ news ++ zc).toArray e),drawn:=w.drawn + 1 } w.heap.size (olds ++ news ++ zc):=⟨e,push_at w _ _⟩
        obtain ⟨f1,f2⟩:=h1.wi.nofree (Nat.le_refl w.heap.size)
        have hmul:(xs.length + yy.length) * ie.size ≤ gc * ie.size:=Nat.mul_le_mul_right _ hgc
        have htot:(olds ++ news ++ zc).length=gc * ie.size:=by
         simp only [List.length_append,olen,nlen,zlen]
         rw [Nat.sub_mul,← Nat.add_mul]
         omega
        obtain ⟨G',k1,k2,k3,k4,k5⟩:=(h1.grow hg).retip (b:=w.heap.size) (e:=0) (fun q c hq=>absurd hq (f2 _ _)) (fun id e=>by rw [f1] at e;cases e) (fun i e=>by rw [f1] at e;cases e)
         (fun t _ x e=>by rw [f1] at e;cases e) (fun g _ x e=>by rw [f1] at e;cases e) (fun hb=>absurd h.pres.size (by omega)) (fun g e=>by rw [f1] at e;cases e) (Only.refl _ _) hB (fun q hq=>by omega)
         (cs:=flat xs ++ flat yy) (ws:=olds ++ news) (VRs_append o1 n1) (by rw [AV.nts_iff] at o3 n3 ⊢;intro c hc;exact (List.mem_append.1 hc).elim (o3 c) (n3 c)) (by simp only [List.all_append,o4,n4];rfl)
         (fun j v hj=>by
           have hjl:j < (olds ++ news).length:=by
            rcases Nat.lt_or_ge j (olds ++ news).length with h' | h'
            ·exact h'
            rw [List.getElem?_eq_none h'] at hj;cases hj
           rw [Nat.zero_add,List.getElem?_append_left hjl];exact hj)
         (off:=0) (len:=xs.length + yy.length) (cap:=gc) (sz:=ie.size) (by simp only [List.length_append,flen,fylen,Nat.add_mul]) (by rw [htot];omega)
        refine ⟨.slice (some ⟨w.heap.size,0,none⟩) (xs.length + yy.length) gc,_,by rw [hs1,hx1];exact hrun,G',k1,fun q hq=>?_⟩
        cases hq
        show VR G' (.slice (.tip fr1.nt) ie.size (xs ++ yy)) _
        simp only [VR]
        refine ⟨some ⟨w.heap.size,0,none⟩,gc,by simp,by simp;exact hgc,hall,⟨.inr rfl,?_⟩,⟨_,rfl,by rw [k4];simp⟩⟩
        intro j c hj
        rw [flat_append] at hj
        have:=k5 j c hj
        simpa using this
      cases e5
   cases hz
  cases ht
 cases ht
def mOo:Option AO → Option Operand → Bool
 | none,none=>true
 | some x,some y=>mO x y
 | _,_=>false
theorem bound_sim (h:RR w0 G0 G fr a w) {x:Option AO} {y:Option Operand} (hm:mOo x y=true) {d l:Nat} (hb:boundOf fr.env x d=some l) :
 (y.map a.eval=none ∧ x=none ∧ l=d) ∨ ∃ k i,y.map a.eval=some (.int k i) ∧ 0 ≤ i ∧ i.toNat=l:=by
 cases x with
 | none =>
   cases y with
   | none=>simp only [boundOf,Oie] at hb;exact .inl ⟨rfl,rfl,hb.symm⟩
   | some y=>simp [mOo] at hm
 | some x =>
   cases y with
   | none=>simp [mOo] at hm
   | some y =>
     simp only [mOo] at hm
     simp only [boundOf,Obe] at hb
     obtain ⟨v,hv,i,hi,hb⟩:=hb
     split at hb
     ·rename_i h0
      simp only [Oie] at hb
      have hr:=h.evV hm hv
      cases v with
      | lit q =>
        cases q <;> simp only [asN,reduceCtorEq,Oie] at hi
        subst hi
        simp only [VR] at hr
        exact .inr ⟨_,_,by simp only [Option.map_some,hr.1];rfl,h0,hb⟩
      | _=>simp [asN] at hi
     cases hb
theorem sliceBound_ok {k:IntKind} {i:Int} {y l:Nat} {code:BoundsCode} (h0:0 ≤ i) (hl:i.toNat=l) (h1:l ≤ y):(Instr.sliceBound (.int k i) y code).run P w=.ok l w:=by
 have:i ≤ (y:Int):=by omega
 simp [Instr.sliceBound,asIntOf,h0,this,hl]
theorem bounds_ok {sl:Bool} {len cap l h m:Nat} {lo hi mx:Option Value} (hlo:(lo=none ∧ l=0) ∨ ∃ k i,lo=some (.int k i) ∧ 0 ≤ i ∧ i.toNat=l)
 (hhi:(hi=none ∧ h=len) ∨ ∃ k i,hi=some (.int k i) ∧ 0 ≤ i ∧ i.toNat=h) (hmx:(mx=none ∧ m=cap) ∨ (hi ≠ none ∧ ∃ k i,mx=some (.int k i) ∧ 0 ≤ i ∧ i.toNat=m))
 (h1:l ≤ h) (h2:h ≤ m) (h3:m ≤ cap):(Instr.sliceBounds sl len cap lo hi mx).run P w=.ok (l,h,m) w:=by
 rcases hmx with ⟨rfl,rfl⟩ | ⟨hne,k3,i3,rfl,p3,q3⟩
 ·rcases hlo with ⟨rfl,rfl⟩ | ⟨k1,i1,rfl,p1,q1⟩
  ·rcases hhi with ⟨rfl,rfl⟩ | ⟨k2,i2,rfl,p2,q2⟩
   ·simp [Instr.sliceBounds]
   simp [Instr.sliceBounds,sliceBound_ok p2 q2 h2]
  rcases hhi with ⟨rfl,rfl⟩ | ⟨k2,i2,rfl,p2,q2⟩
  ·simp [Instr.sliceBounds,sliceBound_ok p1 q1 h1]
  simp [Instr.sliceBounds,sliceBound_ok p1 q1 h1,sliceBound_ok p2 q2 h2]
 rcases hhi with ⟨rfl,rfl⟩ | ⟨k2,i2,rfl,p2,q2⟩
 ·exact absurd rfl hne
 rcases hlo with ⟨rfl,rfl⟩ | ⟨k1,i1,rfl,p1,q1⟩
 ·simp [Instr.sliceBounds,sliceBound_ok p2 q2 h2,sliceBound_ok p3 q3 h3]
 simp [Instr.sliceBounds,sliceBound_ok p1 q1 h1,sliceBound_ok p2 q2 h2,sliceBound_ok p3 q3 h3]
theorem sl_ms1 {g bl off room l m m' hb sz cap:Nat} (c0:l=0 ∨ l < m) (c1:l ≤ hb) (hmm:m ≤ m') (hm1:hb ≤ m') (hm2:m' ≤ cap) (s2:G.M g=some (bl,room)) (s4:off + cap * sz ≤ room) :
 VR G (.ms g (off + l * sz) (hb - l) sz) (.slice (if m'=l then some ⟨bl,off,none⟩ else (some (⟨bl,off,none⟩:Addr)).map (·.add (l * sz))) (hb - l) (m' - l)):=by
 have hplace:(if m'=l then some ⟨bl,off,none⟩ else (some (⟨bl,off,none⟩:Addr)).map (·.add (l * sz)))=some ⟨bl,off + l * sz,none⟩:=by
  split
  ·rename_i hml
   have hl0:l=0:=by rcases c0 with c0 | c0 <;> omega
   subst hl0
   simp
  simp only [Option.map_some,add_plain]
 simp only [VR]
 refine ⟨bl,room,m' - l,by rw [hplace],s2,by omega,?_⟩
 have e3:off + l * sz + (m' - l) * sz=off + m' * sz:=by
  rw [Nat.add_assoc,← Nat.add_mul,show l + (m' - l)=m' by omega]
 rw [e3]
 exact Nat.le_trans (Nat.add_le_add_left (Nat.mul_le_mul_right _ hm2) _) s4
theorem sim_sl (h:RR w0 G0 G fr a w) {t sz:Nat} {x:AO} {x':Operand} {lo hi mx:Option AO} {lo' hi' mx':Option Operand} (hx:mO x x'=true) (hl:mOo lo lo'=true) (hh:mOo hi hi'=true) (hm:mOo mx mx'=true)
 (hmh:mx.isSome=true → hi.isSome=true) (ht:elemSz P t=some sz) {av v:AV} (e1:evV fr.env x=some av) (e2:slOf sz fr lo hi mx av=some v) :
 ∃ u,(Instr.sliceAt t (a.eval x') (lo'.map a.eval) (hi'.map a.eval) (mx'.map a.eval)).run P w=.ok u w ∧ VR G v u:=by
 have hX:=h.evV hx e1
 cases av with
 | slice o sz' xs =>
   simp only [slOf] at e2
   split at e2
   ·cases e2
   rename_i hsz
   have hsz:sz=sz':=Classical.not_not.1 hsz
   subst hsz
   simp only [Obe] at e2
   obtain ⟨l,b1,hb,b2,m,b3,e2⟩:=e2
   split at e2
   ·rename_i hle
    obtain ⟨c1,c2,c3⟩:=hle
    simp only [Oie] at e2
    subst e2
    simp only [VR] at hX
    obtain ⟨sa,cap,s1,s2,s3,s4,s5⟩:=hX
    unfold elemSz at ht
    split at ht
    ·rename_i e hu
     let m':=if mx=none then cap else m
     have hm':hb ≤ m' ∧ m' ≤ cap:=by
      show hb ≤ (if mx=none then cap else m) ∧ (if mx=none then cap else m) ≤ cap
      split <;> omega
     have hB:(Instr.sliceBounds true xs.length cap (lo'.map a.eval) (hi'.map a.eval) (mx'.map a.eval)).run P w=.ok (l,hb,m') w:=by
      refine bounds_ok ?_ ?_ ?_ c1 hm'.1 hm'.2
      ·rcases bound_sim h hl b1 with ⟨z1,_,z2⟩ | z
       ·exact .inl ⟨z1,z2⟩
       exact .inr z
      ·rcases bound_sim h hh b2 with ⟨z1,_,z2⟩ | z
       ·exact .inl ⟨z1,z2⟩
       exact .inr z
      rcases bound_sim h hm b3 with ⟨z1,z2,z3⟩ | ⟨k,i,z1,z2,z3⟩
      ·exact .inl ⟨z1,if_pos z2⟩
      have hne:mx ≠ none:=by
       intro e;subst e
       cases mx' with
       | none=>simp at z1
       | some q=>simp [mOo] at hm
      refine .inr ⟨?_,k,i,z1,z2,z3.trans (if_neg hne).symm⟩
      have:=hmh (by cases mx <;> simp_all)
      cases hi with
      | none=>simp at this
      | some q=>cases hi' with
        | none=>simp [mOo] at hh
        | some q'=>simp
     refine ⟨.slice (if m'=l then sa else sa.map (·.add (l * sz))) (hb - l) (m' - l),?_,?_⟩
     ·rw [s1]
      simp [Instr.sliceAt,run_underlying hu,Instr.slice,hB,run_szOf ht]
     simp only [VR]
     have hlen:((xs.take hb).drop l).length=hb - l:=by simp;omega
     have hmem:∀ x ∈ (xs.take hb).drop l,x.cells.length=sz:=fun x hx=>s3 x (List.mem_of_mem_take (List.mem_of_mem_drop hx))
     refine ⟨_,m' - l,by rw [hlen],by rw [hlen];omega,hmem,?_,?_⟩
     ·cases sa with
      | none =>
        have hc:cap=0:=s4
        have:m' - l=0:=by omega
        split <;> exact this
      | some ad =>
        obtain ⟨b,off,sp⟩:=ad
        obtain ⟨hsp,hk⟩:=s4
        split
        ·rename_i hml
         have:(xs.take hb).drop l=[]:=List.length_eq_zero_iff.1 (by rw [hlen];omega)
         refine ⟨.inl this,fun j c hj=>?_⟩
         rw [this] at hj
         simp [flat] at hj
        rcases hsp with hsp | hsp
        ·have:(xs.take hb).drop l=[]:=by rw [hsp];simp
         refine ⟨.inl this,fun j c hj=>?_⟩
         rw [this] at hj
         simp [flat] at hj
        obtain rfl:sp=none:=hsp
        simp only [Option.map_some,add_plain]
        refine ⟨.inr J,fun j c hj=>?_⟩
        rw [flat_drop (sz:=sz) _ _ (fun x hx=>s3 x (List.mem_of_mem_take hx)),flat_take (sz:=sz) _ _ s3,List.getElem?_drop,List.getElem?_take] at hj
        split at hj
        ·have:=hk _ c hj
         rw [Nat.add_assoc]
         exact this
        cases hj
     by_cases hfull:mx.isSome=true ∧ m=hb
     ·rw [if_pos hfull]
      show m' - l=((xs.take hb).drop l).length
      rw [hlen]
      have:m'=m:=if_neg (by cases mx <;> simp_all)
      omega
     rw [if_neg hfull]
     trivial
    cases ht
   cases e2
 | ms g off len sz' =>
   simp only [slOf] at e2
   split at e2
   ·cases e2
   rename_i hsz
   have hsz:sz=sz':=Classical.not_not.1 hsz
   subst hsz
   simp only [Obe] at e2
   obtain ⟨l,b1,hb,b2,m,b3,e2⟩:=e2
   split at e2
   ·rename_i hle
    obtain ⟨c1,c2,c3⟩:=hle
    simp only [Oie] at e2
    subst e2
    simp only [VR] at hX
    obtain ⟨bl,room,cap,s1,s2,s3,s4⟩:=hX
    unfold elemSz at ht
    split at ht
    ·rename_i e hu
     let m':=if mx=none then cap else m
     have hm':hb ≤ m' ∧ m' ≤ cap ∧ m ≤ m':=by
      show hb ≤ (if mx=none then cap else m) ∧ (if mx=none then cap else m) ≤ cap ∧ m ≤ (if mx=none then cap else m)
      split <;> omega
     have hB:(Instr.sliceBounds true len cap (lo'.map a.eval) (hi'.map a.eval) (mx'.map a.eval)).run P w=.ok (l,hb,m') w:=by
      refine bounds_ok ?_ ?_ ?_ c1 hm'.1 hm'.2.1
      ·rcases bound_sim h hl b1 with ⟨z1,_,z2⟩ | z
       ·exact .inl ⟨z1,z2⟩
       exact .inr z
      ·rcases bound_sim h hh b2 with ⟨z1,_,z2⟩ | z
       ·exact .inl ⟨z1,z2⟩
       exact .inr z
      rcases bound_sim h hm b3 with ⟨z1,z2,z3⟩ | ⟨k,i,z1,z2,z3⟩
      ·exact .inl ⟨z1,if_pos z2⟩
      have hne:mx ≠ none:=by
       intro e;subst e
       cases mx' with
       | none=>simp at z1
       | some q=>simp [mOo] at hm
      refine .inr ⟨?_,k,i,z1,z2,z3.trans (if_neg hne).symm⟩
      have:=hmh (by cases mx <;> simp_all)
      cases hi with
      | none=>simp at this
      | some q=>cases hi' with
        | none=>simp [mOo] at hh
        | some q'=>simp
     refine ⟨.slice (if m'=l then some ⟨bl,off,none⟩ else (some (⟨bl,off,none⟩:Addr)).map (·.add (l * sz))) (hb - l) (m' - l),?_,?_⟩
     ·rw [s1]
      simp [Instr.sliceAt,run_underlying hu,Instr.slice,hB,run_szOf ht]
     by_cases c0:l=0 ∨ l < m
     ·rw [if_pos c0]
      exact sl_ms1 c0 c1 hm'.2.2 hm'.1 hm'.2.1 s2 s4
     rw [if_neg c0]
     have hl1:hb - l=0:=by omega
     rw [hl1]
     simp only [VR]
     refine ⟨_,m' - l,rfl,Nat.zero_le _,by simp,?_,?_⟩
     ·split <;> exact ⟨.inl rfl,fun j c hj=>by simp [flat] at hj⟩
     by_cases hs:mx.isSome=true
     ·rw [if_pos hs]
      show m' - l=0
      have:m'=m:=if_neg (by cases mx <;> simp_all)
      omega
     rw [if_neg hs]
     trivial
    cases ht
   cases e2
 | _=>simp [slOf] at e2
theorem sim_sls (h:RR w0 G0 G fr a w) {t:Nat} {x:AO} {x':Operand} {lo hi:Option AO} {lo' hi':Option Operand} (hx:mO x x'=true) (hl:mOo lo lo'=true) (hh:mOo hi hi'=true)
 (ht:P.underlying t=some .string) {av v:AV} (e1:evV fr.env x=some av) (e2:slsOf fr lo hi av=some v) :
 ∃ u,(Instr.sliceAt t (a.eval x') (lo'.map a.eval) (hi'.map a.eval) none).run P w=.ok u w ∧ VR G v u:=by
 have hX:=h.evV hx e1
 unfold slsOf at e2
 split at e2
 ·rename_i s
  simp only [Obe] at e2
  obtain ⟨l,b1,hb,b2,e2⟩:=e2
  split at e2
  ·rename_i hle
   simp only [Oie] at e2
   subst e2
   simp only [VR] at hX
   have hB:(Instr.sliceBounds false s.size s.size (lo'.map a.eval) (hi'.map a.eval) none).run P w=.ok (l,hb,s.size) w:=by
    refine bounds_ok ?_ ?_ (.inl ⟨J,J⟩) hle.1 hle.2 (Nat.le_refl _)
    ·rcases bound_sim h hl b1 with ⟨z1,_,z2⟩ | z
     ·exact .inl ⟨z1,z2⟩
     exact .inr z
    rcases bound_sim h hh b2 with ⟨z1,_,z2⟩ | z
    ·exact .inl ⟨z1,z2⟩
    exact .inr z
   refine ⟨.string (s.extract l hb),?_,by unfold VR;exact ⟨rfl,rfl⟩⟩
   rw [hX.1]
   simp [Instr.sliceAt,run_underlying ht,Instr.slice,hB]
  cases e2
 cases e2
end
end Go.Sim
namespace Go.Sim
open Go
section
variable {P:Program} {w0:World} {G0 G:Gh} {fr:Fr} {a:Act} {w w':World}
theorem RR.mkmut (h:RR w0 G0 G fr a w) {b:Nat} {mu':Nat → Option (List AV)} {vs rest:List Value} {cs:List AV}
 (hD1:∀ id,G.ow b ≠ .obj id) (hD2:∀ i,G.ow b ≠ .loc i) (hDt:∀ t e,G.ow b ≠ .tip t e) (hDg:∀ g e,G.ow b ≠ .gt g e) (hk:∀ o c,¬ G.K b o c)
 (hC:b < w0.heap.size → G0.ow b ≠ .free) (ho:Only w w' b) (hB:BL w' b (vs ++ rest)) (hv:VRs G cs vs) (hn:AV.nts cs=true) (hc:cs.all AV.isCell=true)
 (hmu:∀ g cs',mu' g=some cs' → fr.sg.mu g=some cs' ∧ G.ow b ≠ .mu g) :
 ∃ G',RR w0 G0 G' { fr with sg:={ fr.sg with mu:=Sim.upd mu' fr.sg.mn (some cs),mn:=fr.sg.mn + 1 } } a w' ∧ Gle G G' ∧ Tle G G' ∧ G'.M fr.sg.mn=some (b,(vs ++ rest).length):=by
 let G':Gh:={ G with ow:=fun k=>if k=b then .mu fr.sg.mn else G.ow k,M:=Sim.upd G.M fr.sg.mn (some (b,(vs ++ rest).length)) }
 have how:∀ k,k ≠ b → G'.ow k=G.ow k:=fun k hk=>if_neg hk
 have howb:G'.ow b=.mu fr.sg.mn:=if_pos rfl
 have le:Gle G G':=⟨fun _ _ _ x=>x,fun k id hk=>by rw [how k (fun e'=>hD1 id (e' ▸ hk))];exact hk,fun _ _ x=>x,fun g x hx=>by
  show Sim.upd G.M _ _ g=_
  rw [Sim.upd_ne _ _ (by have:=h.wi.mun g x hx;omega)]
  exact hx⟩
 have hT:Tle G G':=fun _ _ x=>x
 have hbs:b < w.heap.size:=by rw [← ho.size];exact hB.lt
 have hcl:∀ k o c,G.K k o c → w'.cell? ⟨k,o,none⟩=w.cell? ⟨k,o,none⟩:=fun k o c hk'=>cell_of_heap (ho.heap k (fun e=>by subst e;exact hk _ _ hk'))
 have hR:∀ {x mk},(∀ e',G.ow b ≠ mk e') → Right G w x mk → Right G' w' x mk:=fun hm r=>r.mono (fun _ e=>e) fun k e' hk'=>by
  have hne:k ≠ b:=fun x=>hm e' (x ▸ hk')
  exact ⟨by rw [how k hne];exact hk',ho.heap k hne⟩
 have back:∀ k x,(∀ g,x ≠ .mu g) → G'.ow k=x → G.ow k=x ∧ k ≠ b:=by
  intro k x hx hk'
  by_cases e:k=b
  ·subst e;rw [howb] at hk';exact absurd hk'.symm (hx _)
  rw [how k e] at hk';exact ⟨hk',e⟩
 refine ⟨G',⟨?_,?_,?_,fun t ht=>hR (hDt t) (h.tips t ht),h.nt,?_,DR_mono le _ _ h.df,?_⟩,le,hT,Sim.upd_same _ _ _⟩
 ·intro i tv hx
  obtain ⟨h1,h2⟩:=h.env i tv hx
  exact ⟨h1,TR_mono le hT (fun i _ _ k hk'=>by rw [how k (fun e'=>hD2 i (e' ▸ hk'))];exact hk') h2⟩
 ·intro i cs' hx
  obtain ⟨b',vs',h1,h2,h3,h4⟩:=h.loc i cs' hx
  have hne:b' ≠ b:=fun e'=>hD2 i (e' ▸ h1)
  exact ⟨b',vs',by rw [how b' hne];exact h1,h2.of_heap (ho.heap b' hne),VRs_mono' le cs' vs' (.inl hT) h3,h4⟩
 ·intro i k k' h1 h2
  exact h.locu i k k' (back k _ (by simp) h1).1 (back k' _ (by simp) h2).1
 ·refine h.wi.upd0 le hcl (fun k o c hk'=>.inl hk') ?_ ?_ ?_ ?_ (fun g hg=>hR (hDg g) (h.wi.gts g hg)) h.wi.gn ?_ ?_ ?_
  ·intro k o c hk'
   rw [how k (fun e=>by subst e;exact hk _ _ hk')]
   exact h.wi.kow k o c hk'
  ·intro id o' ho'
   obtain ⟨k,h1,h2⟩:=h.wi.obj id o' ho'
   have hne:k ≠ b:=fun e'=>hD1 id (e' ▸ h1)
   exact ⟨k,le.ob k id h1,OR_mono le (ho.heap k hne) h2⟩
  ·intro id k k' h1 h2
   exact h.wi.obu id k k' (back k _ (by simp) h1).1 (back k' _ (by simp) h2).1
  ·intro id k h1
   exact h.wi.obn id k (back k _ (by simp) h1).1
  ·intro k h1
   rw [ho.size]
   by_cases e':k=b
   ·subst e';exact hbs
   rw [how k e'] at h1;exact h.wi.owlt k h1
  ·intro g cs' hg
   simp only [Sim.upd] at hg
   split at hg
   ·rename_i e
    subst e
    cases hg
    exact ⟨b,_,vs,rest,Sim.upd_same _ _ _,howb,hB,VRs_mono' le cs vs (.inl hT) hv,hn,hc,rfl⟩
   obtain ⟨k1,k2⟩:=hmu g cs' hg
   exact (h.wi.mus g cs' k1).mono le fun k hk'=>have hne:k ≠ b:=fun e=>k2 (e ▸ hk');⟨by rw [how k hne];exact hk',ho.heap k hne⟩
  intro g x hx
  show g < fr.sg.mn + 1
  by_cases e:g=fr.sg.mn
  ·omega
  have hx':G.M g=some x:=by rw [← hx];exact (Sim.upd_ne _ _ e).symm
  have:=h.wi.mun g x hx'
  omega
 have h0:=h.pres
 refine ⟨ho.os.trans h0.os,ho.tape.trans h0.tape,ho.output.trans h0.output,by rw [ho.size];exact h0.size,?_,h0.le.trans le,fun k hk' hf=>let ⟨h1,h2⟩:=h0.hid k hk' hf;⟨(ho.heap k (fun e=>let ⟨id,h3,_⟩:=h.wi.hid k h2;hD1 id (e ▸ h3))).trans h1,h2⟩⟩
 intro k hk' hf
 obtain ⟨h1,h2,h3⟩:=h0.free k hk' hf
 have hne:k ≠ b:=fun e'=>by subst e';exact hC hk' hf
 exact ⟨(ho.heap k hne).trans h1,by rw [how k hne];exact h2,h3⟩
theorem src_vals {s:Sg} (h:WI G s w) {sz k:Nat} {av:AV} {ys:List AV} {v:Value} (hs:srcOf sz s av=some (k,ys)) (hv:VR G av v) :
 ∃ ad cap us,v=.slice ad k cap ∧ k ≤ cap ∧ ys.length=k * sz ∧ AV.nts ys=true ∧ ys.all AV.isCell=true ∧ VRs G ys us ∧ (ad=none → k=0) ∧
  ∀ p,ad=some p → (k=0 ∨ p.spot=none) ∧ ∀ (j:Nat) u,us[j]?=some u → w.cell? (p.add j)=some u:=by
 cases av with
 | slice o sz' xs =>
   simp only [srcOf] at hs
   split at hs
   ·rename_i e
    subst e
    simp only [Oie,Pie] at hs
    obtain ⟨rfl,rfl⟩:=hs
    simp only [VR] at hv
    obtain ⟨ad,cap,rfl,h1,h2,h3,h4⟩:=hv
    cases ad with
    | none =>
      simp only [lies] at h3
      have:xs=[]:=List.length_eq_zero_iff.1 (by omega)
      subst this
      exact ⟨none,cap,[],rfl,h1,by simp [flat],rfl,rfl,by simp only [flat,List.flatMap_nil,VRs],fun _=>rfl,fun p e=>(by cases e)⟩
    | some ad =>
      obtain ⟨us,e1,e2,e3,e4⟩:=h.slice_vals h3
      exact ⟨some ad,cap,us,rfl,h1,flat_length h2,e3,e4,e1,fun e=>(by cases e),fun p e=>(by cases e;exact ⟨h3.1.imp (fun q=>by rw [q];rfl) id,e2⟩)⟩
   cases hs
 | ms g off len sz' =>
   simp only [srcOf] at hs
   split at hs
   ·rename_i e
    subst e
    simp only [Obe] at hs
    obtain ⟨cs,hcs,hs⟩:=hs
    split at hs
    ·rename_i hle
     simp only [Oie,Pie] at hs
     obtain ⟨rfl,rfl⟩:=hs
     simp only [VR] at hv
     obtain ⟨b,room,cap,rfl,h1,h2,h3⟩:=hv
     obtain ⟨b',room',vs,rest,k1,k2,k3,k4,k5,k6,k7⟩:=h.mus g cs hcs
     obtain ⟨rfl,rfl⟩:b=b' ∧ room=room':=by rw [h1] at k1;simpa using k1
     have hl:=VRs_length k4
     refine ⟨some ⟨b,off,none⟩,cap,(vs.drop off).take (len * sz),rfl,h2,by simp;omega,?_,?_,VRs_take (VRs_drop k4 off) _,fun e=>(by cases e),fun p e=>⟨.inr (by cases e;rfl),fun j u hu=>?_⟩⟩
     ·rw [AV.nts_iff] at k5 ⊢
      exact fun c hc=>k5 c (List.mem_of_mem_drop (List.mem_of_mem_take hc))
     ·rw [List.all_eq_true] at k6 ⊢
      exact fun c hc=>k6 c (List.mem_of_mem_drop (List.mem_of_mem_take hc))
     cases e
     rw [List.getElem?_take] at hu
     split at hu
     ·rw [List.getElem?_drop] at hu
      rw [add_plain,k3.cell,List.getElem?_append_left]
      ·exact hu
      rcases Nat.lt_or_ge (off + j) vs.length with h' | h'
      ·exact h'
      rw [List.getElem?_eq_none h'] at hu;cases hu
     cases hu
    cases hs
   cases hs
 | _=>simp [srcOf] at hs
theorem VRs_zeros {z:List AV} {vs:List Value} (h:VRs G z vs):∀ n,VRs G (zeros z n) ((List.replicate n vs).flatten)
 | 0=>by simp only [zeros,List.replicate_zero,List.flatten_nil,VRs]
 | n + 1=>by
   simp only [zeros,List.replicate_succ,List.flatten_cons]
   exact VRs_append h (VRs_zeros h n)
theorem made_list (z:Array Value):∀ k:Nat,(madeCells z (k * z.size)).toList=(List.replicate k z.toList).flatten
 | 0=>by simp [madeCells]
 | k + 1=>by
   rw [List.replicate_succ',List.flatten_concat,← made_list z k]
   simp only [madeCells,Array.toList_map,Array.toList_range]
   rw [Nat.add_mul,Nat.one_mul,List.range_add,List.map_append,List.map_map]
   congr 1
   apply List.ext_getElem
   ·simp
   intro i h1 h2
   simp only [List.length_map,List.length_range] at h1
   simp only [List.getElem_map,List.getElem_range,Function.comp_apply]
   rw [show (k * z.size + i) % z.size=i by rw [Nat.add_comm,Nat.add_mul_mod_self_right,Nat.mod_eq_of_lt h1]]
   simp [h1]
def mMks (P:Program) (t sz by_:Nat) (z:List AV):Bool :=
 match P.underlying t with
 | some (.slice e)=>(match P.info? e with
   | some i=>i.size == sz && i.bytes == by_ && decide (0 < i.bytes) && (match i.zero with
     | some v=>v.cells.size == sz && coks z v.cells.toList && z.all AV.isCell
     | none=>false)
   | none=>false)
 | _=>false
theorem sim_mks (h:RR w0 G0 G fr a w) {t sz by_:Nat} {z:List AV} (hm:mMks P t sz by_ z=true) {kn km:IntKind} {n m:Int} {av:AV} {s':Sg} (he:mksOf sz by_ z fr.sg n m=some (av,s')) :
 ∃ u w',(Instr.makeSlice t (.int kn n) (.int km m)).run P w=.ok u w' ∧ ∃ G',RR w0 G0 G' { fr with sg:=s' } a w' ∧ VR G' av u:=by
 unfold mMks at hm
 split at hm
 ·rename_i e hu
  split at hm
  ·rename_i i hi
   simp only [Bae,beq_iff_eq,Dte] at hm
   obtain ⟨⟨⟨rfl,rfl⟩,hpos⟩,hm⟩:=hm
   split at hm
   ·rename_i zv hz
    simp only [Bae,beq_iff_eq] at hm
    obtain ⟨⟨hs,hck⟩,hcell⟩:=hm
    unfold mksOf at he
    split at he
    ·rename_i hc
     obtain ⟨h0,h1,h2⟩:=hc
     simp only [Oie,Pie] at he
     obtain ⟨rfl,rfl⟩:=he
     obtain ⟨z1,z2⟩:=coks_sound G z zv.cells.toList hck
     have hb:m.toNat * i.bytes ≤ 140737488355328:=h2
     have hmb:m.toNat ≤ m.toNat * i.bytes:=Nat.le_mul_of_pos_right _ hpos
     have hrun:=run_make (P:=P) w t e i zv hu hi hz kn km n m h0 h1 (by
      have:(i.bytes:Int) * m=((m.toNat * i.bytes:Nat):Int):=by rw [Int.natCast_mul,Int.toNat_of_nonneg (by omega),Int.mul_comm]
      rw [this];omega) (by omega)
     obtain ⟨f1,f2⟩:=h.wi.nofree (Nat.le_refl w.heap.size)
     have hg:Grew w (w.alloc (.cells (madeCells zv.cells (m.toNat * i.size)) e)):=grew_push w _ w.drawn
     have hlist:(madeCells zv.cells (m.toNat * i.size)).toList=(List.replicate n.toNat zv.cells.toList).flatten ++ (List.replicate (m.toNat - n.toNat) zv.cells.toList).flatten:=by
      rw [← hs,made_list,← List.flatten_append,List.replicate_append_replicate,show n.toNat + (m.toNat - n.toNat)=m.toNat by omega]
     have hB:BL (w.alloc (.cells (madeCells zv.cells (m.toNat * i.size)) e)) w.heap.size ((List.replicate n.toNat zv.cells.toList).flatten ++ (List.replicate (m.toNat - n.toNat) zv.cells.toList).flatten):=by
      rw [← hlist];exact ⟨e,push_at w _ w.drawn⟩
     have hnz:∀ k,AV.nts (zeros z k)=true:=fun k=>by
      rw [AV.nts_iff]
      intro c hc
      obtain ⟨l,hl,hc'⟩:=List.mem_flatten.1 hc
      rw [List.eq_of_mem_replicate hl] at hc'
      exact (AV.nts_iff _).1 z2 c hc'
     have hcz:∀ k,(zeros z k).all AV.isCell=true:=fun k=>by
      rw [List.all_eq_true]
      intro c hc
      obtain ⟨l,hl,hc'⟩:=List.mem_flatten.1 hc
      rw [List.eq_of_mem_replicate hl] at hc'
      exact List.all_eq_true.1 hcell c hc'
     obtain ⟨G',k1,k2,k3,k4⟩:=(h.grow hg).mkmut (b:=w.heap.size) (mu':=fr.sg.mu) (fun id e=>by rw [f1] at e;cases e) (fun i e=>by rw [f1] at e;cases e) (fun t x e=>by rw [f1] at e;cases e) (fun g x e=>by rw [f1] at e;cases e) f2
      (fun hb=>absurd h.pres.size (by omega)) (Only.refl _ _) hB (VRs_zeros z1 n.toNat) (hnz _) (hcz _) (fun g cs' hg=>⟨hg,by rw [f1];simp⟩)
     refine ⟨_,_,hrun,G',k1,?_⟩
     simp only [VR]
     refine ⟨w.heap.size,_,m.toNat,rfl,k4,by omega,?_⟩
     rw [← hlist]
     simp [size_madeCells]
    cases he
   cases hm
  cases hm
 cases hm
theorem sim_cpy (h:RR w0 G0 G fr a w) {t t2 ty sz e:Nat} (hu:P.underlying t=some (.slice e)) (hs:szOf P e=some sz) {dst src av:AV} {u v:Value} {s':Sg} (hd:VR G dst u) (hv:VR G src v) (he:cpyOf sz fr.sg src dst=some (av,s')) :
 ∃ x w',(Builtin.copy_ #[t,t2] ty #[u,v]).run P w=.ok x w' ∧ ∃ G',RR w0 G0 G' { fr with sg:=s' } a w' ∧ VR G' av x:=by
 cases dst with
 | ms g off len sz' =>
   simp only [cpyOf] at he
   split at he
   ·rename_i esz
    subst esz
    simp only [Obe] at he
    obtain ⟨⟨k,ys⟩,hsrc,cs,hcs,he⟩:=he
    split at he
    ·rename_i hle
     simp only [Oie,Pie] at he
     obtain ⟨rfl,rfl⟩:=he
     dsimp only at hle ⊢
     obtain ⟨ad,cap,us,rfl,s1,s2,s3,s4,s5,s6,s7⟩:=src_vals h.wi hsrc hv
     simp only [VR] at hd
     obtain ⟨b,room,dcap,rfl,d1,d2,d3⟩:=hd
     obtain ⟨b',room',vs,rest,k1,k2,k3,k4,k5,k6,k7⟩:=h.wi.mus g cs hcs
     obtain ⟨rfl,rfl⟩:b=b' ∧ room=room':=by rw [d1] at k1;simpa using k1
     have hvl:=VRs_length k4
     have hul:us.length=k * sz:=by rw [VRs_length s5,s2]
     have hmk:min k len * sz ≤ k * sz:=Nat.mul_le_mul_right _ (Nat.min_le_left _ _)
     have hnl:(us.take (min k len * sz)).length=min k len * sz:=by rw [List.length_take,hul];omega
     have hload:(Builtin.firstCells sz (min k len) (.slice ad k cap)).run P w=.ok (us.take (min k len * sz)).toArray w:=by
      cases ad with
      | none =>
        have:k=0:=s6 rfl
        subst this
        simp [Builtin.firstCells]
      | some p =>
        obtain ⟨q1,q2⟩:=s7 p rfl
        obtain ⟨pb,po,ps⟩:=p
        rcases q1 with q1 | q1
        ·subst q1
         simp [Builtin.firstCells,loadCells,loadCellsFrom]
        obtain rfl:ps=none:=q1
        exact run_loadCells _ hnl fun j x hx=>by
         rw [List.getElem?_take] at hx
         split at hx
         ·have:=q2 j x hx
          rwa [add_plain] at this
         cases hx
     have htk:VRs G (ys.take (min k len * sz)) (us.take (min k len * sz)):=VRs_take s5 _
     have hcell:(ys.take (min k len * sz)).all AV.isCell=true:=by
      rw [List.all_eq_true] at s4 ⊢
      exact fun c hc=>s4 c (List.mem_of_mem_take hc)
     have hnt:AV.nts (ys.take (min k len * sz))=true:=by
      rw [AV.nts_iff] at s3 ⊢
      exact fun c hc=>s3 c (List.mem_of_mem_take hc)
     have hle2:off + (us.take (min k len * sz)).length ≤ (vs ++ rest).length:=by rw [List.length_append,hvl,hnl];omega
     obtain ⟨w',g1,g2,g3⟩:=run_storeCells0 (P:=P) (o:=off) k3 hle2 (VRs_cellV htk hcell)
     have hyl:(ys.take (min k len * sz)).length=min k len * sz:=by rw [List.length_take,s2];omega
     refine ⟨.int .i64 (min k len:Nat),w',?_,G,h.stmu (b:=b) k2 g2 ⟨b,room,_,rest,d1,k2,?_,VRs_wr k4 htk off,wr_nts k5 hnt off,wr_cells k6 hcell off,?_⟩,by unfold VR;exact ⟨rfl,rfl⟩⟩
     ·simp only [Builtin.copy_,List.getElem?_toArray,List.getElem?_cons_zero,List.getElem?_cons_succ]
      simp [run_underlying hu,Builtin.lenOf,run_szOf hs,hload,g1,goInt]
     ·have e2:(vs ++ rest).take off ++ us.take (min k len * sz) ++ (vs ++ rest).drop (off + (us.take (min k len * sz)).length)=(vs.take off ++ us.take (min k len * sz) ++ vs.drop (off + (us.take (min k len * sz)).length)) ++ rest:=by
       rw [List.take_append_of_le_length (by omega),List.drop_append_of_le_length (by rw [hnl,hvl];exact hle)]
       simp only [List.append_assoc]
      rw [← e2]
      exact g3
     simp only [List.length_append,List.length_take,List.length_drop] at k7 hnl ⊢
     omega
    cases he
   cases he
 | slice o sz' xs =>
   cases xs with
   | cons x xs=>simp [cpyOf] at he
   | nil =>
     simp only [cpyOf] at he
     split at he
     ·rename_i esz
      subst esz
      simp only [Obe,Oie,Pie] at he
      obtain ⟨⟨k,ys⟩,hsrc,rfl,rfl⟩:=he
      obtain ⟨ad,cap,us,rfl,s1,s2,s3,s4,s5,s6,s7⟩:=src_vals h.wi hsrc hv
      simp only [VR] at hd
      obtain ⟨da,dcap,rfl,d1,d2,d3,d4⟩:=hd
      refine ⟨.int .i64 (0:Nat),w,?_,G,h,by unfold VR;exact ⟨rfl,rfl⟩⟩
      simp only [Builtin.copy_,List.getElem?_toArray,List.getElem?_cons_zero,List.getElem?_cons_succ]
      have hf:(Builtin.firstCells sz 0 (.slice ad k cap)).run P w=.ok #[] w:=by
       cases ad <;> simp [Builtin.firstCells,loadCells,loadCellsFrom]
      simp [run_underlying hu,Builtin.lenOf,run_szOf hs,hf,goInt]
      cases da <;> simp [storeCells]
     cases he
 | _=>simp [cpyOf] at he
theorem RR.unmut (h:RR w0 G0 G fr a w) {g b off:Nat} (hb:G.ow b=.mu g) {ys:List AV} {us:List Value} (hv:VRs G ys us) (hcl:∀ (j:Nat) u,us[j]?=some u → w.cell? ⟨b,off + j,none⟩=some u) (hn:AV.nts ys=true) (hc:ys.all AV.isCell=true) :
 ∃ G',RR w0 G0 G' { fr with sg:={ fr.sg with mu:=Sim.upd fr.sg.mu g none } } a w ∧ Gle G G' ∧ Tle G G' ∧ (∀ (j:Nat) c,ys[j]?=some c → G'.K b (off + j) c) ∧ ∀ k i,G.ow k=.loc i → G'.ow k=.loc i:=by
 let G':Gh:={ G with K:=claimAt G b off ys,ow:=fun k=>if k=b then .free else G.ow k }
 have how:∀ k,k ≠ b → G'.ow k=G.ow k:=fun k hk=>if_neg hk
 have howb:G'.ow b=.free:=if_pos rfl
 have hno:∀ o c,¬ G.K b o c:=fun o c hk=>by have:=h.wi.kow b o c hk;rw [hb] at this;exact this
 have hA:∀ o c,G.K b o c → o < off:=fun o c x=>absurd x (hno o c)
 have le:Gle G G':=⟨fun k o c x=>claimAt_old G ys hA x,fun k id hk=>by rw [how k (fun e=>by subst e;rw [hb] at hk;cases hk)];exact hk,fun _ _ x=>x,fun _ _ x=>x⟩
 have hT:Tle G G':=fun _ _ x=>x
 have back:∀ k x,x ≠ .free → G'.ow k=x → G.ow k=x ∧ k ≠ b:=by
  intro k x hx hk
  by_cases e:k=b
  ·subst e;rw [howb] at hk;exact absurd hk.symm hx
  rw [how k e] at hk;exact ⟨hk,e⟩
 have hR:∀ {x mk},(∀ e',mk e' ≠ .mu g) → Right G w x mk → Right G' w x mk:=fun hm r=>r.mono (fun _ e=>e) fun k e' hk=>⟨by rw [how k (fun e=>by subst e;rw [hb] at hk;exact hm e' hk.symm)];exact hk,rfl⟩
 refine ⟨G',⟨?_,?_,?_,fun t ht=>hR (fun e=>by simp) (h.tips t ht),h.nt,?_,DR_mono le _ _ h.df,?_⟩,le,hT,fun j c hj=>claimAt_new G b off ys j c hj,fun k i hk=>by rw [how k (fun e=>by subst e;rw [hb] at hk;cases hk)];exact hk⟩
 ·intro i tv hx
  obtain ⟨h1,h2⟩:=h.env i tv hx
  exact ⟨h1,TR_mono le hT (fun i _ _ k hk=>by rw [how k (fun e=>by subst e;rw [hb] at hk;cases hk)];exact hk) h2⟩
 ·intro i cs' hx
  obtain ⟨b',vs',h1,h2,h3,h4⟩:=h.loc i cs' hx
  exact ⟨b',vs',by rw [how b' (fun e=>by subst e;rw [hb] at h1;cases h1)];exact h1,h2,VRs_mono' le cs' vs' (.inl hT) h3,h4⟩
 ·intro i k k' h1 h2
  exact h.locu i k k' (back k _ (by simp) h1).1 (back k' _ (by simp) h2).1
 ·refine h.wi.upd0 le (fun _ _ _ _=>J) ?_ ?_ ?_ ?_ ?_ (fun g' hg=>hR (fun e=>by simp) (h.wi.gts g' hg)) h.wi.gn ?_ ?_ h.wi.mun
  ·intro k o c hk
   rcases claimAt_inv G ys hk with h1 | ⟨rfl,j,rfl,hj⟩
   ·exact .inl h1
   obtain ⟨v,hv1,hv2⟩:=VRs_get hv j c hj
   exact .inr ⟨⟨v,hcl j v hv1,VR_mono' le c v (.inl hT) hv2⟩,(AV.nts_iff ys).1 hn c (Lmg hj),List.all_eq_true.1 hc c (Lmg hj)⟩
  ·intro k o c hk
   by_cases e:k=b
   ·subst e;rw [howb];trivial
   rcases claimAt_inv G ys hk with h1 | ⟨rfl,_⟩
   ·rw [how k e];exact h.wi.kow k o c h1
   exact absurd rfl e
  ·intro id o' ho'
   obtain ⟨k,h1,h2⟩:=h.wi.obj id o' ho'
   exact ⟨k,le.ob k id h1,OR_mono le rfl h2⟩
  ·intro id k k' h1 h2
   exact h.wi.obu id k k' (back k _ (by simp) h1).1 (back k' _ (by simp) h2).1
  ·intro id k h1
   exact h.wi.obn id k (back k _ (by simp) h1).1
  ·intro k h1
   by_cases e:k=b
   ·subst e;exact absurd howb h1
   rw [how k e] at h1;exact h.wi.owlt k h1
  intro g' cs' hg
  simp only [Sim.upd] at hg
  split at hg
  ·cases hg
  rename_i e
  exact (h.wi.mus g' cs' hg).mono le fun k hk=>⟨by rw [how k (fun e'=>by subst e';rw [hb] at hk;cases hk;exact e rfl)];exact hk,rfl⟩
 have h0:=h.pres
 refine ⟨h0.os,h0.tape,h0.output,h0.size,?_,h0.le.trans le,h0.hid⟩
 intro k hk' hf'
 obtain ⟨h1,h2,h3⟩:=h0.free k hk' hf'
 have hne:k ≠ b:=fun e=>by subst e;rw [hb] at h2;cases h2
 refine ⟨h1,by rw [how k hne];exact h2,fun o=>?_⟩
 rw [← h3 o]
 show claimAt G b off ys k o=_
 unfold claimAt
 rw [if_neg (fun x=>hne x.1)]
theorem flat_unfl {sz:Nat} (hs:0 < sz):∀ (n:Nat) (cs:List AV),cs.length=n * sz → cs.all AV.isCell=true → flat (unfl sz n cs)=cs ∧ (unfl sz n cs).length=n ∧ ∀ x ∈ unfl sz n cs,x.cells.length=sz
 | 0,cs,hl,_=>by
   have:cs=[]:=List.length_eq_zero_iff.1 (by simpa using hl)
   subst this
   exact ⟨rfl,rfl,fun x hx=>by cases hx⟩
 | n + 1,cs,hl,hc=>by
   rw [Nat.add_mul,Nat.one_mul] at hl
   have hc':(cs.drop sz).all AV.isCell=true:=by
    rw [List.all_eq_true] at hc ⊢
    exact fun c hm=>hc c (List.mem_of_mem_drop hm)
   obtain ⟨h1,h2,h3⟩:=flat_unfl hs n (cs.drop sz) (by simp;omega) hc'
   have key:∀ x:AV,x.cells=cs.take sz → flat (x :: unfl sz n (cs.drop sz))=cs ∧ (x :: unfl sz n (cs.drop sz)).length=n + 1 ∧ ∀ y ∈ x :: unfl sz n (cs.drop sz),y.cells.length=sz:=fun x hx=>by
    refine ⟨?_,by simp [h2],fun y hy=>?_⟩
    ·have:flat (x :: unfl sz n (cs.drop sz))=x.cells ++ flat (unfl sz n (cs.drop sz)):=rfl
     rw [this,hx,h1,List.take_append_drop]
    rcases List.mem_cons.1 hy with rfl | hy
    ·rw [hx];simp;omega
    exact h3 y hy
   simp only [unfl]
   split
   ·rename_i c r
    refine key c ?_
    have:=List.all_eq_true.1 hc c (List.mem_cons_self ..)
    cases c <;> first | rfl | simp [AV.isCell] at this
   exact key _ rfl
theorem sim_frz (h:RR w0 G0 G fr a w) {sz:Nat} {x av:AV} {u:Value} {s':Sg} (hx:VR G x u) (he:frzOf sz fr.sg x=some (av,s')):∃ G',RR w0 G0 G' { fr with sg:=s' } a w ∧ VR G' av u ∧ Gle G G' ∧ Tle G G' ∧ ∀ k i,G.ow k=.loc i → G'.ow k=.loc i:=by
 cases x with
 | slice o sz' xs =>
   simp only [frzOf] at he
   split at he
   ·rename_i e
    subst e
    simp only [Oie,Pie] at he
    obtain ⟨rfl,rfl⟩:=he
    exact ⟨G,h,VR_er (.slice o sz xs) u hx,Gle.refl G,fun _ _ e=>e,fun _ _ e=>e⟩
   cases he
 | ms g off len sz' =>
   simp only [frzOf] at he
   split at he
   ·rename_i e
    obtain ⟨rfl,hpos⟩:=e
    simp only [Obe] at he
    obtain ⟨cs,hcs,he⟩:=he
    split at he
    ·rename_i hle
     simp only [Oie,Pie] at he
     obtain ⟨rfl,rfl⟩:=he
     simp only [VR] at hx
     obtain ⟨b,room,cap,rfl,d1,d2,d3⟩:=hx
     obtain ⟨b',room',vs,rest,k1,k2,k3,k4,k5,k6,k7⟩:=h.wi.mus g cs hcs
     obtain ⟨rfl,rfl⟩:b=b' ∧ room=room':=by rw [d1] at k1;simpa using k1
     have hvl:=VRs_length k4
     have hcc:((cs.drop off).take (len * sz)).all AV.isCell=true:=by
      rw [List.all_eq_true] at k6 ⊢
      exact fun c hc=>k6 c (List.mem_of_mem_drop (List.mem_of_mem_take hc))
     obtain ⟨G',r1,r2,r3,r4,r5⟩:=h.unmut (off:=off) k2 (ys:=(cs.drop off).take (len * sz)) (VRs_take (VRs_drop k4 off) _) (fun j u hu=>by
      rw [List.getElem?_take] at hu
      split at hu
      ·rw [List.getElem?_drop] at hu
       rw [k3.cell,List.getElem?_append_left]
       ·exact hu
       rcases Nat.lt_or_ge (off + j) vs.length with h' | h'
       ·exact h'
       rw [List.getElem?_eq_none h'] at hu;cases hu
      cases hu)
      (by rw [AV.nts_iff] at k5 ⊢;exact fun c hc=>k5 c (List.mem_of_mem_drop (List.mem_of_mem_take hc))) hcc
     obtain ⟨f1,f2,f3⟩:=flat_unfl hpos len ((cs.drop off).take (len * sz)) (by simp;omega) hcc
     refine ⟨G',r1,?_,r2,r3,r5⟩
     simp only [VR]
     exact ⟨some ⟨b,off,none⟩,cap,by rw [f2],by rw [f2];exact d2,f3,⟨.inr rfl,fun j c hj=>by rw [f1] at hj;exact r4 j c hj⟩,trivial⟩
    cases he
   cases he
 | _=>simp [frzOf] at he
theorem sim_frzC (h:RR w0 G0 G fr a w) {x av:AV} {u:Value} {s':Sg} (hx:VR G x u) (he:frzC fr.sg x=some (av,s')):∃ G',RR w0 G0 G' { fr with sg:=s' } a w ∧ VR G' av u ∧ Gle G G' ∧ Tle G G':=by
 unfold frzC at he
 split at he
 ·obtain ⟨G',r1,r2,r3,r4,_⟩:=sim_frz h hx he
  exact ⟨G',r1,r2,r3,r4⟩
 cases he
 exact ⟨G,h,hx,Gle.refl G,fun _ _ e=>e⟩
theorem frzC_cell {s s':Sg} {x av:AV} (hx:x.isCell=true) (he:frzC s x=some (av,s')):av.isCell=true:=by
 unfold frzC at he
 split at he
 ·simp only [frzOf] at he
  split at he
  ·simp only [Obe] at he
   obtain ⟨cs,_,he⟩:=he
   split at he
   ·cases he;rfl
   cases he
  cases he
 cases he;exact hx
theorem frzL_cells:∀ {cs ds:List AV} {s s':Sg},cs.all AV.isCell=true → frzL s cs=some (ds,s') → ds.all AV.isCell=true
 | [],ds,s,s',_,he=>by simp only [frzL,Oie,Pie] at he;rw [← he.1];rfl
 | c :: cs,ds,s,s',hc,he=>by
   simp only [frzL,Obe,Oie,Pie] at he
   obtain ⟨⟨d,s1⟩,h1,⟨r,s2⟩,h2,rfl,rfl⟩:=he
   simp only [List.all_cons,Bae] at hc ⊢
   exact ⟨frzC_cell hc.1 h1,frzL_cells hc.2 h2⟩
theorem sim_frzL:∀ {cs ds:List AV} {us:List Value} {fr:Fr} {G:Gh} {s':Sg},RR w0 G0 G fr a w → VRs G cs us → frzL fr.sg cs=some (ds,s') → ∃ G',RR w0 G0 G' { fr with sg:=s' } a w ∧ VRs G' ds us ∧ Gle G G' ∧ Tle G G'
 | [],ds,us,fr,G,s',h,hv,he=>by
   simp only [frzL,Oie,Pie] at he
   obtain ⟨rfl,rfl⟩:=he
   exact ⟨G,h,hv,Gle.refl G,fun _ _ e=>e⟩
 | c :: cs,ds,us,fr,G,s',h,hv,he=>by
   simp only [frzL,Obe,Oie,Pie] at he
   obtain ⟨⟨d,s1⟩,h1,⟨r,s2⟩,h2,rfl,rfl⟩:=he
   simp only [VRs] at hv
   obtain ⟨u,ur,rfl,hu,hur⟩:=hv
   obtain ⟨G1,k1,k2,k3,k4⟩:=sim_frzC h hu h1
   obtain ⟨G2,q1,q2,q3,q4⟩:=sim_frzL (fr:={ fr with sg:=s1 }) k1 (VRs_mono' k3 cs ur (.inl k4) hur) h2
   refine ⟨G2,q1,?_,k3.trans q3,fun t x e=>q4 t x (k4 t x e)⟩
   simp only [VRs]
   exact ⟨u,ur,rfl,VR_mono' q3 d u (.inl q4) k2,q2⟩
theorem sim_frzV (h:RR w0 G0 G fr a w) {x av:AV} {u:Value} {s':Sg} (hx:VR G x u) (he:frzV fr.sg x=some (av,s')):∃ G',RR w0 G0 G' { fr with sg:=s' } a w ∧ VR G' av u:=by
 unfold frzV at he
 split at he
 ·simp only [Obe,Oie,Pie] at he
  obtain ⟨⟨ds,s1⟩,h1,rfl,rfl⟩:=he
  simp only [VR] at hx
  obtain ⟨us,rfl,h2,h3⟩:=hx
  obtain ⟨G',k1,k2,_,_⟩:=sim_frzL h h2 h1
  refine ⟨G',k1,?_⟩
  simp only [VR]
  exact ⟨us,rfl,k2,frzL_cells h3 h1⟩
 obtain ⟨G',k1,k2,_,_⟩:=sim_frzC h hx he
 exact ⟨G',k1,k2⟩
theorem RR.remu (h:RR w0 G0 G fr a w) {g:Nat} {cs':List AV} (hm:Mut G w g cs'):RR w0 G0 G { fr with sg:={ fr.sg with mu:=Sim.upd fr.sg.mu g (some cs') } } a w:=by
 refine ⟨h.env,h.loc,h.locu,h.tips,h.nt,⟨h.wi.claim,h.wi.kow,h.wi.obj,h.wi.obu,h.wi.obn,h.wi.gts,h.wi.gn,h.wi.owlt,h.wi.glb,fun g' cs hg=>?_,h.wi.mun,h.wi.hid⟩,h.df,h.pres⟩
 have hg:Sim.upd fr.sg.mu g (some cs') g'=some cs:=hg
 simp only [Sim.upd] at hg
 split at hg
 ·rename_i e
  cases hg
  rw [e]
  exact hm
 exact h.wi.mus g' cs hg
def SimF (w0:World) (G0:Gh) (a:Act) (w:World) (f:Sg → AV → Option (AV × Sg)):Prop:=∀ (x av:AV) (u:Value) (fr:Fr) (G:Gh) (s':Sg),RR w0 G0 G fr a w → VR G x u → f fr.sg x=some (av,s') →
 ∃ G',RR w0 G0 G' { fr with sg:=s' } a w ∧ VR G' av u ∧ Gle G G' ∧ Tle G G' ∧ (x.isCell=true → av.isCell=true) ∧ ∀ k i,G.ow k=.loc i → G'.ow k=.loc i
theorem sim_frzDL {f:Sg → AV → Option (AV × Sg)} (hf:SimF w0 G0 a w f):∀ {cs ds:List AV} {us:List Value} {fr:Fr} {G:Gh} {s':Sg},RR w0 G0 G fr a w → VRs G cs us → frzDL f fr.sg cs=some (ds,s') →
 ∃ G',RR w0 G0 G' { fr with sg:=s' } a w ∧ VRs G' ds us ∧ Gle G G' ∧ Tle G G' ∧ (cs.all AV.isCell=true → ds.all AV.isCell=true) ∧ ∀ k i,G.ow k=.loc i → G'.ow k=.loc i
 | [],ds,us,fr,G,s',h,hv,he=>by
   simp only [frzDL,Oie,Pie] at he
   obtain ⟨rfl,rfl⟩:=he
   exact ⟨G,h,hv,Gle.refl G,fun _ _ e=>e,fun e=>e,fun _ _ e=>e⟩
 | c :: cs,ds,us,fr,G,s',h,hv,he=>by
   simp only [frzDL,Obe,Oie,Pie] at he
   obtain ⟨⟨d,s1⟩,h1,⟨r,s2⟩,h2,rfl,rfl⟩:=he
   simp only [VRs] at hv
   obtain ⟨u,ur,rfl,hu,hur⟩:=hv
   obtain ⟨G1,k1,k2,k3,k4,k5,k6⟩:=hf _ _ _ fr _ _ h hu h1
   obtain ⟨G2,q1,q2,q3,q4,q5,q6⟩:=sim_frzDL hf (fr:={ fr with sg:=s1 }) k1 (VRs_mono' k3 cs ur (.inl k4) hur) h2
   refine ⟨G2,q1,?_,k3.trans q3,fun t x e=>q4 t x (k4 t x e),?_,fun k i e=>q6 k i (k6 k i e)⟩
   ·simp only [VRs]
    exact ⟨u,ur,rfl,VR_mono' q3 d u (.inl q4) k2,q2⟩
   intro hc
   simp only [List.all_cons,Bae] at hc ⊢
   exact ⟨k5 hc.1,q5 hc.2⟩
theorem BL.inj {w:World} {b:Nat} {cs ds:List Value} (h:BL w b cs) (k:BL w b ds):cs=ds:=by
 refine List.ext_getElem? fun i=>?_
 rw [← h.cell i,← k.cell i]
theorem frz_cell {sz g off len:Nat} {s s':Sg} {av:AV} (he:frzOf sz s (.ms g off len sz)=some (av,s')):av.isCell=true:=frzC_cell (s:=s) (s':=s') (x:=.ms g off len sz) rfl he
theorem sim_frzD:∀ n:Nat,SimF w0 G0 a w (frzD n)
 | 0=>by
   intro x av u fr G s' h hx he
   simp only [frzD,Oie,Pie] at he
   obtain ⟨rfl,rfl⟩:=he
   exact ⟨G,h,hx,Gle.refl G,fun _ _ e=>e,fun e=>e,fun _ _ e=>e⟩
 | n + 1=>by
   intro x av u fr G s' h hx he
   have hf:=sim_frzD n
   simp only [frzD] at he
   split at he
   ·rename_i g off len sz
    simp only [Obe] at he
    obtain ⟨cs,hcs,⟨ds,s1⟩,h1,he⟩:=he
    split at he
    ·rename_i hc
     obtain ⟨b,room,vs,rest,k1,k2,k3,k4,k5,k6,k7⟩:=h.wi.mus g cs hcs
     obtain ⟨G1,q1,q2,q3,q4,q5,q7⟩:=sim_frzDL hf h k4 h1
     obtain ⟨b',room',vs',rest',m1,m2,m3,m4,m5,m6,m7⟩:=q1.wi.mus g cs hc.1
     have hM:G1.M g=some (b,room):=q3.M g _ k1
     obtain ⟨rfl,rfl⟩:b=b' ∧ room=room':=by rw [hM] at m1;simpa using m1
     have hvs:vs ++ rest=vs' ++ rest':=k3.inj m3
     have hmut:Mut G1 w g ds:=⟨b,room,vs,rest,hM,m2,k3,q2,hc.2,q5 k6,k7⟩
     have q6:=RR.remu (fr:={ fr with sg:=s1 }) q1 hmut
     obtain ⟨G2,r1,r2,r3,r4,r5⟩:=sim_frz q6 (VR_mono' q3 _ u (.inl q4) hx) he
     exact ⟨G2,r1,r2,q3.trans r3,fun t x e=>r4 t x (q4 t x e),fun _=>frz_cell he,fun k i e=>r5 k i (q7 k i e)⟩
    cases he
   ·rename_i cs
    simp only [Obe,Oie,Pie] at he
    obtain ⟨⟨ds,s1⟩,h1,rfl,rfl⟩:=he
    simp only [VR] at hx
    obtain ⟨us,rfl,h2,h3⟩:=hx
    obtain ⟨G',k1,k2,k3,k4,k5,k6⟩:=sim_frzDL hf h h2 h1
    refine ⟨G',k1,?_,k3,k4,(fun e=>by cases e),k6⟩
    simp only [VR]
    exact ⟨us,rfl,k2,k5 h3⟩
   simp only [Oie,Pie] at he
   obtain ⟨rfl,rfl⟩:=he
   exact ⟨G,h,hx,Gle.refl G,fun _ _ e=>e,fun e=>e,fun _ _ e=>e⟩
theorem sim_retz (h:RR w0 G0 G fr a w) {n d:Nat} {fr':Fr} (he:retzF n d fr=some fr'):∃ G',RR w0 G0 G' fr' a w:=by
 unfold retzF at he
 split at he
 ·rename_i cs hcs
  simp only [Obe,Oie] at he
  obtain ⟨⟨ds,s1⟩,h1,rfl⟩:=he
  obtain ⟨b,vs,g1,g2,g3,g4⟩:=h.loc d cs hcs
  obtain ⟨G',k1,k2,k3,k4,k5,k6⟩:=sim_frzDL (sim_frzD n) h g3 h1
  refine ⟨G',⟨k1.env,fun i cs' hi=>?_,k1.locu,k1.tips,k1.nt,k1.wi,k1.df,k1.pres⟩⟩
  have hi:Sim.upd fr.loc d (some ds) i=some cs':=hi
  simp only [Sim.upd] at hi
  split at hi
  ·rename_i e
   cases hi
   subst e
   exact ⟨b,vs,k6 b i g1,g2,k2,k5 g4⟩
  exact k1.loc i cs' hi
 split at he
 ·rename_i v hv
  simp only [Obe,Oie] at he
  obtain ⟨⟨v',s1⟩,h1,rfl⟩:=he
  obtain ⟨g1,g2⟩:=h.env d _ hv
  obtain ⟨G',k1,k2,k3,k4,k5,_⟩:=sim_frzD n _ _ _ fr _ _ h g2 h1
  refine ⟨G',⟨fun i tv hi=>?_,k1.loc,k1.locu,k1.tips,k1.nt,k1.wi,k1.df,k1.pres⟩⟩
  have hi:Sim.upd fr.env d (some (.val v')) i=some tv:=hi
  simp only [Sim.upd] at hi
  split at hi
  ·rename_i e
   cases hi
   subst e
   exact ⟨g1,k2⟩
  exact k1.env i tv hi
 cases he
theorem sim_bslm (h:RR w0 G0 G fr a w) {t len sz:Nat} {ps:List AO} {qs:Array (Nat × Operand)} (hm:mBsl P t len sz ps qs.toList=true) {l:List AV} (he:evVs fr.env ps=some l) {av:AV} {s':Sg}
 (hl:bslmOf sz len fr.sg l=some (av,s')):∃ v w',(Instr.buildSlice t len (qs.map fun x=>(x.1,a.eval x.2))).run P w=.ok v w' ∧ ∃ G',RR w0 G0 G' { fr with sg:=s' } a w' ∧ VR G' av v:=by
 unfold bslmOf at hl
 split at hl
 ·rename_i hc
  obtain ⟨_,hc⟩:=hc
  cases hl
  obtain ⟨vs,w',hr,hg,hb,hve,hcs,hll⟩:=run_bsl h hm he hc
  obtain ⟨f1,f2⟩:=h.wi.nofree (Nat.le_refl w.heap.size)
  have hall:∀ x ∈ AV.ers l,x.cells.all AV.isCell=true:=fun x hx=>by
   obtain ⟨v,_,hv⟩:=VRs_mem hve hx
   exact (VR_cells hv).2
  obtain ⟨G',k1,k2,k3,k4⟩:=(h.grow hg).mkmut (b:=w.heap.size) (mu':=fr.sg.mu) (rest:=[]) (vs:=vs.flatMap fun v=>v.cells.toList) (fun id e=>by rw [f1] at e;cases e) (fun i e=>by rw [f1] at e;cases e) (fun t x e=>by rw [f1] at e;cases e) (fun g x e=>by rw [f1] at e;cases e) f2
   (fun hb=>absurd h.pres.size (by omega)) (Only.refl _ _) (by rw [List.append_nil];exact hb) (VRs_flat hve) (flat_nts ((AV.nts_iff _).1 (AV.nts_ers l))) (flat_cells hall) (fun g cs' hg=>⟨hg,by rw [f1];simp⟩)
  refine ⟨_,w',hr,G',k1,?_⟩
  have hfl:=VRs_length (VRs_flat hve)
  rw [flat_length hcs,AV.ers_eq,List.length_map,hll] at hfl
  simp only [VR]
  exact ⟨w.heap.size,_,len,rfl,k4,Nat.le_refl _,by rw [List.append_nil,Nat.zero_add];omega⟩
 cases hl
theorem flat_bytes (b:ByteArray):flat (bytesA b)=bytesA b:=by
 simp only [flat,bytesA,List.flatMap_map,AV.cells]
 rw [← List.map_eq_flatMap]
theorem bytes_grew (w:World) (e:TypeId) (b:ByteArray):Grew w (Lib.bytesWorld w e b) :=
 ⟨rfl,rfl,rfl,Lib.bytesWorld_size w e b,fun k hk=>Lib.bytesWorld_at_old w e b k hk⟩
theorem sim_s2b (h:RR w0 G0 G fr a w) {t t' e:TypeId} {x av:AV} {u:Value} {d:TypeDesc} (hs:P.underlying t=some d) (hd:P.underlying t'=some (.slice e)) (hb:P.underlying e=some (.int .u8)) (hx:VR G x u) (he:s2bOf x=some av) :
 ∃ v w',(convert t t' u).run P w=.ok v w' ∧ ∃ G',RR w0 G0 G' fr a w' ∧ VR G' av v:=by
 unfold s2bOf at he
 split at he
 ·rename_i b
  cases he
  simp only [VR] at hx
  obtain ⟨rfl,_⟩:=hx
  have hg:=bytes_grew w e b
  obtain ⟨f1,f2⟩:=h.wi.nofree (Nat.le_refl w.heap.size)
  have hl:(bytesA b).length=b.size:=by simp [bytesA]
  have hvs:VRs G (bytesA b) (b.data.toList.map fun c=>Value.int .u8 c.toNat):=by
   unfold bytesA
   generalize b.data.toList=l
   induction l with
   | nil=>simp only [List.map_nil,VRs]
   | cons c l ih=>simp only [List.map_cons,VRs];exact ⟨_,_,rfl,by simp only [VR];exact ⟨trivial,rfl⟩,ih⟩
  have hnt:AV.nts (bytesA b)=true:=by
   rw [AV.nts_iff]
   intro c hc
   simp only [bytesA,List.mem_map] at hc
   obtain ⟨_,_,rfl⟩:=hc
   rfl
  have hcc:(bytesA b).all AV.isCell=true:=by
   rw [List.all_eq_true]
   intro c hc
   simp only [bytesA,List.mem_map] at hc
   obtain ⟨_,_,rfl⟩:=hc
   rfl
  obtain ⟨G',k1,k2,k3,k4⟩:=(h.grow hg).mkclaim' (cs:=bytesA b) h.pres.size f1 f2 (fun j v hj=>by
   rw [Lgm] at hj
   obtain ⟨c,hc,rfl⟩:=Option.map_eq_some_iff.1 hj
   have hjl:j < b.size:=by
    rcases Nat.lt_or_ge j b.data.toList.length with h' | h'
    ·simpa using h'
    rw [List.getElem?_eq_none h'] at hc;cases hc
   rw [Lib.bytesWorld_cell w e b j hjl,List.getD_eq_getElem?_getD,hc]
   rfl) hvs hnt hcc
  refine ⟨_,_,Lib.run_convert_string_bytes w t t' e b hs hd hb,G',k1,?_⟩
  simp only [VR]
  exact ⟨some ⟨w.heap.size,0,none⟩,grownCap w b.size 0 e,by rw [hl],by rw [hl];exact grownCap_ge w b.size 0 e,fun c hc=>by
   simp only [bytesA,List.mem_map] at hc
   obtain ⟨_,_,rfl⟩:=hc
   rfl,⟨.inr rfl,fun j c hj=>by rw [flat_bytes] at hj;simpa using k4 j c hj⟩,trivial⟩
 cases he
def mGad (P:Program) (t:TypeId) (sz:Nat) (cs:List AV):Bool :=
 match arrOf P t with
 | some (len,s)=>s == sz && cs.length == len * sz
 | none=>false
theorem sim_gad (h:RR w0 G0 G fr a w) {t:TypeId} {g sz:Nat} {cs:List AV} (hm:mGad P t sz cs=true) {n:Int} {av:AV} (hi:gadOf g sz cs fr.sg n=some av) {kn:IntKind} :
 ∃ u,(Instr.indexAt t (.pointer (some ⟨g,0,none⟩)) (.int kn n)).run P w=.ok u w ∧ VR G av u:=by
 unfold gadOf at hi
 split at hi
 ·rename_i hc
  obtain ⟨h0,h1,h2⟩:=hc
  cases hi
  unfold mGad at hm
  unfold arrOf at hm
  split at hm
  ·rename_i len s hs
   simp only [Bae,beq_iff_eq] at hm
   obtain ⟨rfl,hl⟩:=hm
   split at hs
   ·rename_i nn e hu
    obtain ⟨s',hz,hs⟩:=Option.map_eq_some_iff.1 hs
    cases hs
    have hlt:n < len:=by
     rw [hl] at h1
     have:=Nat.lt_of_mul_lt_mul_right h1
     omega
    refine ⟨.pointer (some ⟨g,0 + n.toNat * s,none⟩),?_,?_⟩
    ·simp [Instr.indexAt,asIntOf,run_underlying hu,h0,hlt,Instr.sureAddr,run_szOf hz,add_plain]
    simp only [VR]
    exact ⟨g,0,rfl,fun j c hj=>by simpa using h.wi.glb g j c (h2 j c hj)⟩
   cases hs
  cases hm
 cases hi
theorem grow_mut (h:RR w0 G0 G fr a w) {mu':Nat → Option (List AV)} (hmu:∀ g cs',mu' g=some cs' → fr.sg.mu g=some cs') {cs ys:List AV} {olds news zc:List Value} {el sz n k gc:Nat} (o1:VRs G cs olds) (n1:VRs G ys news)
 (o3:AV.nts cs=true) (n3:AV.nts ys=true) (o4:cs.all AV.isCell=true) (n4:ys.all AV.isCell=true) (ho:olds.length=n * sz) (hn:news.length=k * sz) (hz:zc.length=(gc - (n + k)) * sz) (hgc:n + k ≤ gc) :
 ∃ G',RR w0 G0 G' { fr with sg:={ fr.sg with mu:=Sim.upd mu' fr.sg.mn (some (cs ++ ys)),mn:=fr.sg.mn + 1 } } a { w with heap:=w.heap.push (.cells (olds ++ news ++ zc).toArray el),drawn:=w.drawn + 1 } ∧
  VR G' (.ms fr.sg.mn 0 (n + k) sz) (.slice (some ⟨w.heap.size,0,none⟩) (n + k) gc):=by
 have hg:Grew w { w with heap:=w.heap.push (.cells (olds ++ news ++ zc).toArray el),drawn:=w.drawn + 1 }:=grew_push w _ _
 have hB:BL { w with heap:=w.heap.push (.cells (olds ++ news ++ zc).toArray el),drawn:=w.drawn + 1 } w.heap.size ((olds ++ news) ++ zc):=⟨el,push_at w _ _⟩
 obtain ⟨f1,f2⟩:=h.wi.nofree (Nat.le_refl w.heap.size)
 have htot:((olds ++ news) ++ zc).length=gc * sz:=by
  have:(n + k) * sz ≤ gc * sz:=Nat.mul_le_mul_right _ hgc
  simp only [List.length_append,ho,hn,hz]
  rw [Nat.sub_mul,← Nat.add_mul]
  omega
 obtain ⟨G',k1,k2,k3,k4⟩:=(h.grow hg).mkmut (b:=w.heap.size) (mu':=mu') (fun id e=>by rw [f1] at e;cases e) (fun i e=>by rw [f1] at e;cases e) (fun t x e=>by rw [f1] at e;cases e) (fun g x e=>by rw [f1] at e;cases e) f2
  (fun hb=>absurd h.pres.size (by omega)) (Only.refl _ _) hB (VRs_append o1 n1) (by rw [AV.nts_iff] at o3 n3 ⊢;intro c hc;exact (List.mem_append.1 hc).elim (o3 c) (n3 c)) (by simp only [List.all_append,o4,n4];rfl)
  (fun g cs' hg=>⟨hmu g cs' hg,by rw [f1];simp⟩)
 refine ⟨G',k1,?_⟩
 simp only [VR]
 exact ⟨w.heap.size,_,gc,rfl,k4,hgc,by rw [htot];omega⟩
theorem VR_nilS {G:Gh} {sz:Nat} {b:AV} {u:Value} (h:VR G b u):VR G (nilS sz b) u:=by
 unfold nilS
 split
 ·simp only [VR] at h ⊢
  exact ⟨none,0,h.1,Nat.le_refl _,fun _ hx=>(by cases hx),rfl,rfl⟩
 exact h
theorem sim_appm (h:RR w0 G0 G fr a w) {t ty sz by_:Nat} (ht:mApp P t sz by_=true) {base src av:AV} {u v:Value} {s':Sg} (hb:VR G base u) (hv:VR G src v) (he:appmOf sz by_ fr.sg src base=some (av,s')) :
 ∃ x w',(Builtin.append_ #[t,t] ty #[u,v]).run P w=.ok x w' ∧ ∃ G',RR w0 G0 G' { fr with sg:=s' } a w' ∧ VR G' av x:=by
 unfold mApp at ht
 split at ht
 ·rename_i e hu
  split at ht
  ·rename_i ie hie
   simp only [Bae,beq_iff_eq,Dte] at ht
   obtain ⟨⟨⟨rfl,rfl⟩,hbp⟩,hz⟩:=ht
   split at hz
   ·rename_i z hz0
    simp only [beq_iff_eq] at hz
    have hal:∀ o,w.drew.alloc o={ w with heap:=w.heap.push o,drawn:=w.drawn + 1 }:=fun _=>rfl
    cases base with
    | ms g off len sz' =>
      simp only [appmOf] at he
      split at he
      ·rename_i e0
       obtain ⟨rfl,rfl⟩:=e0
       simp only [Obe] at he
       obtain ⟨⟨k,ys⟩,hsrc,cs,hcs,he⟩:=he
       dsimp only at he
       split at he
       ·rename_i hc
        obtain ⟨hcl,hbound⟩:=hc
        obtain ⟨xa,xcap,us,rfl,s1,s2,s3,s4,s5,s6,s7⟩:=src_vals h.wi hsrc hv
        simp only [VR] at hb
        obtain ⟨b,room,cap,rfl,d1,d2,d3⟩:=hb
        split at he
        ·rename_i hk0
         subst hk0
         simp only [Oie,Pie] at he
         obtain ⟨rfl,rfl⟩:=he
         refine ⟨_,w,?_,G,h,by simp only [VR];exact ⟨b,room,cap,rfl,d1,d2,d3⟩⟩
         cases xa <;> simp [Builtin.append_,run_underlying hu,sizeOf,typeInfo,hie,Builtin.lenOf,d2,Builtin.firstCells,loadCells,loadCellsFrom,storeCells]
        rename_i hk0
        simp only [Oie,Pie] at he
        obtain ⟨rfl,rfl⟩:=he
        obtain ⟨b',room',vs,rest,k1,k2,k3,k4,k5,k6,k7⟩:=h.wi.mus g cs hcs
        obtain ⟨rfl,rfl⟩:b=b' ∧ room=room':=by rw [d1] at k1;simpa using k1
        have hvl:vs.length=len * ie.size:=by rw [VRs_length k4,hcl]
        have nlen:us.length=k * ie.size:=by rw [VRs_length s5,s2]
        obtain ⟨xad,rfl⟩:∃ ad,xa=some ad:=by
         cases xa with
         | none=>exact absurd (s6 rfl) hk0
         | some ad=>exact ⟨ad,rfl⟩
        obtain ⟨q1,n2⟩:=s7 xad rfl
        have hno:∀ o c,¬ G.K b o c:=fun o c hk=>by have:=h.wi.kow b o c hk;rw [k2] at this;exact this
        by_cases hroom:len + k ≤ cap
        ·have hmul:(len + k) * ie.size ≤ cap * ie.size:=Nat.mul_le_mul_right _ hroom
         rw [Nat.add_mul] at hmul
         have hle2:0 + len * ie.size + us.length ≤ (vs ++ rest).length:=by rw [nlen,k7];omega
         obtain ⟨w',g1,g2,g3⟩:=run_storeCells0 (P:=P) (o:=0 + len * ie.size) (vs:=us) k3 hle2 (VRs_cellV s5 s4)
         have e2:(vs ++ rest).take (0 + len * ie.size) ++ us ++ (vs ++ rest).drop (0 + len * ie.size + us.length)=(vs ++ us) ++ rest.drop us.length:=by
          rw [Nat.zero_add,← hvl,List.take_left',List.drop_append,List.drop_eq_nil_of_le (by omega),List.nil_append,Nat.add_sub_cancel_left]
          rfl
         rw [e2] at g3
         obtain ⟨G',r1,r2,r3,r4⟩:=h.mkmut (b:=b) (mu':=Sim.upd fr.sg.mu g none) (fun id e=>by rw [k2] at e;cases e) (fun i e=>by rw [k2] at e;cases e) (fun t x e=>by rw [k2] at e;cases e) (fun g x e=>by rw [k2] at e;cases e) hno
          (fun hb hf=>by have:=(h.pres.free b hb hf).2.1;rw [k2] at this;cases this) g2 g3 (VRs_append k4 s5) (by rw [AV.nts_iff] at k5 s3 ⊢;intro c hc;exact (List.mem_append.1 hc).elim (k5 c) (s3 c)) (by simp only [List.all_append,k6,s4];rfl)
          (fun g' cs' hg=>by
            simp only [Sim.upd] at hg
            split at hg
            ·cases hg
            rename_i hne
            exact ⟨hg,by rw [k2];intro e;cases e;exact hne rfl⟩)
         refine ⟨.slice (some ⟨b,0,none⟩) (len + k) cap,w',?_,G',r1,?_⟩
         ·have hf:=run_firstCells_some (P:=P) w ie.size k xad k xcap us nlen n2
          have g1':(storeCells ⟨b,len * ie.size,none⟩ us).run P w=.ok () w':=by simpa using g1
          simp [Builtin.append_,run_underlying hu,sizeOf,typeInfo,hie,Builtin.lenOf,hroom,hf,add_plain,g1']
         simp only [VR]
         refine ⟨b,_,cap,J,r4,hroom,?_⟩
         simp only [List.length_append,List.length_drop] at k7 ⊢
         omega
        have hgrow:cap < len + k:=by omega
        have hfit:Builtin.nextslicecap (len + k) cap * ie.bytes ≤ 281474976710656:=growslice_fits hgrow hbound
        have h63:((len + k:Nat):Int) ≤ 9223372036854775807:=by
         have:(len + k) * 1 ≤ (len + k) * ie.bytes:=Nat.mul_le_mul_left _ hbp
         omega
        have o2:∀ (j:Nat) x,vs[j]?=some x → w.cell? ((⟨b,0,none⟩:Addr).add j)=some x:=fun j x hx=>by
         rw [add_plain,k3.cell,Nat.zero_add,List.getElem?_append_left]
         ·exact hx
         rcases Nat.lt_or_ge j vs.length with h' | h'
         ·exact h'
         rw [List.getElem?_eq_none h'] at hx;cases hx
        have hgc:=grownCap_ge w (len + k) cap e
        have hrun:=run_append_grow w t ty e ie z hu hie hz0 ⟨b,0,none⟩ len cap vs hvl o2 xad k xcap us nlen n2 hgrow h63 hfit
        have e1:∀ (Z:Array Value),vs.toArray ++ us.toArray ++ Z=(vs ++ us ++ Z.toList).toArray:=fun Z=>Array.ext' (by simp)
        rw [hal,e1] at hrun
        obtain ⟨G',r1,r2⟩:=grow_mut h (mu':=Sim.upd fr.sg.mu g none) (el:=e) (gc:=grownCap w (len + k) cap e) (zc:=(Builtin.zeroCells z.cells (grownCap w (len + k) cap e - (len + k))).toList) (fun g' cs' hg=>by
         simp only [Sim.upd] at hg
         split at hg
         ·cases hg
         exact hg) k4 s5 k5 s3 k6 s4 hvl nlen (by rw [Array.length_toList,size_zeroCells,hz]) hgc
        exact ⟨_,_,hrun,G',r1,r2⟩
       cases he
      cases he
    | slice o sz' xs =>
      cases o <;> cases xs <;> simp only [appmOf,reduceCtorEq] at he
      split at he
      ·rename_i e0
       subst e0
       simp only [Obe] at he
       obtain ⟨⟨k,ys⟩,hsrc,he⟩:=he
       dsimp only at he
       split at he
       ·rename_i hbound
        obtain ⟨xa,xcap,us,rfl,s1,s2,s3,s4,s5,s6,s7⟩:=src_vals h.wi hsrc hv
        have hb0:=hb
        simp only [VR] at hb
        obtain ⟨sa,cap,rfl,d1,d2,d3,d4⟩:=hb
        have hc0:cap=0:=d4
        subst hc0
        split at he
        ·rename_i hk0
         subst hk0
         simp only [Oie,Pie] at he
         obtain ⟨rfl,rfl⟩:=he
         refine ⟨_,w,?_,G,h,hb0⟩
         cases sa <;> cases xa <;> simp [Builtin.append_,run_underlying hu,sizeOf,typeInfo,hie,Builtin.lenOf,Builtin.firstCells,loadCells,loadCellsFrom,storeCells]
        rename_i hk0
        simp only [Oie,Pie] at he
        obtain ⟨rfl,rfl⟩:=he
        have nlen:us.length=k * ie.size:=by rw [VRs_length s5,s2]
        obtain ⟨xad,rfl⟩:∃ ad,xa=some ad:=by
         cases xa with
         | none=>exact absurd (s6 rfl) hk0
         | some ad=>exact ⟨ad,rfl⟩
        obtain ⟨q1,n2⟩:=s7 xad rfl
        have hgrow:0 < 0 + k:=by omega
        have hfit:Builtin.nextslicecap (0 + k) 0 * ie.bytes ≤ 281474976710656:=growslice_fits hgrow (by simpa using hbound)
        have h63:((0 + k:Nat):Int) ≤ 9223372036854775807:=by
         have:k * 1 ≤ k * ie.bytes:=Nat.mul_le_mul_left _ hbp
         omega
        have hgc:=grownCap_ge w (0 + k) 0 e
        have e1:∀ (Z:Array Value),([]:List Value).toArray ++ us.toArray ++ Z=(([]:List Value) ++ us ++ Z.toList).toArray:=fun Z=>Array.ext' (by simp)
        have hrun:(Builtin.append_ #[t,t] ty #[.slice sa 0 0,.slice (some xad) k xcap]).run P w=.ok (.slice (some ⟨w.heap.size,0,none⟩) (0 + k) (grownCap w (0 + k) 0 e))
         { w with heap:=w.heap.push (.cells (([]:List Value) ++ us ++ (Builtin.zeroCells z.cells (grownCap w (0 + k) 0 e - (0 + k))).toList).toArray e),drawn:=w.drawn + 1 }:=by
         cases sa with
         | none =>
           simp only [Nat.zero_add] at *
           rw [run_append_nil w t ty e ie z hu hie hz0 xad k xcap us nlen n2 (by omega) h63 (by rw [nextslicecap_zero (by omega)] at hfit;exact hfit)]
           have e3:∀ (Z:Array Value),us.toArray ++ Z=(([]:List Value) ++ us ++ Z.toList).toArray:=fun Z=>Array.ext' (by simp)
           rw [hal,e3]
         | some ad =>
           rw [run_append_grow w t ty e ie z hu hie hz0 ad 0 0 [] (by simp) (fun j x hx=>by simp at hx) xad k xcap us nlen n2 hgrow h63 hfit,hal,e1]
        obtain ⟨G',r1,r2⟩:=grow_mut h (mu':=fr.sg.mu) (cs:=[]) (olds:=[]) (n:=0) (el:=e) (gc:=grownCap w (0 + k) 0 e) (zc:=(Builtin.zeroCells z.cells (grownCap w (0 + k) 0 e - (0 + k))).toList) (fun g' cs' hg=>hg) (by simp only [VRs]) s5 rfl s3 rfl s4 (by simp) nlen (by rw [Array.length_toList,size_zeroCells,hz]) hgc
        refine ⟨_,_,hrun,G',by simpa using r1,by simpa using r2⟩
       cases he
      cases he
    | _=>simp [appmOf] at he
   cases hz
  cases ht
 cases ht
end
end Go.Sim
namespace Go.Sim
open Go
def retV:List Value → Value
 | [v]=>v
 | l=>.tuple l.toArray
theorem TR_toTV {G:Gh} {res:List AV} {l:List Value} (h:VRs G res l):TR G (toTV res) (retV l):=by
 cases res with
 | nil=>simp only [VRs] at h;subst h;exact ⟨[],rfl,rfl⟩
 | cons r1 rs =>
   cases rs with
   | nil =>
     simp only [VRs] at h
     obtain ⟨v,r,rfl,h1,rfl⟩:=h
     exact h1
   | cons r2 rs =>
     have hl:=VRs_length h
     cases l with
     | nil=>simp at hl
     | cons v1 l =>
       cases l with
       | nil=>simp at hl
       | cons v2 l=>exact ⟨_,rfl,h⟩
structure Base (G:Gh):Prop where
 T:∀ t,G.T t=none
 loc:∀ b i,G.ow b ≠ .loc i
 tip:∀ b t e,G.ow b ≠ .tip t e
def Enters (P:Program) (f:Nat):Prop:=∃ fn,P.funcs[f]?=some fn ∧ fn.body.isSome=true ∧ fn.name ≠ "runtime.NumGoroutine"
def CallOK (P:Program) (call:Caller):Prop :=
 ∀ f args s res s',call f args s=some (res,s') → ∀ G w (vs:List Value),WI G s w → Base G → VRs G args vs → AV.nts args=true →
  Enters P f ∧ Calls P f vs.toArray w fun e w'=>∃ l G',e=.returned (retV l) ∧ WI G' s' w' ∧ Base G' ∧ VRs G' res l ∧ AV.nts res=true ∧ Pres w G G' w'
section
variable {P:Program} {w0:World} {G0 G:Gh} {fr:Fr} {a:Act} {w:World}
def Gh.base (G:Gh):Gh:={ G with T:=fun _=>none,ow:=fun k=>match G.ow k with | .loc _=>.free | .tip _ _=>.free | x=>x }
theorem base_ow {k:Nat}:G.base.ow k=(match G.ow k with | .loc _=>.free | .tip _ _=>.free | x=>x):=rfl
theorem base_Base:Base G.base:=by
 refine ⟨fun _=>rfl,fun b i=>?_,fun b t e=>?_⟩ <;> (rw [base_ow];cases G.ow b <;> simp)
theorem base_le:Gle G G.base:=⟨fun _ _ _ x=>x,fun b id h=>by rw [base_ow,h],fun _ _ x=>x,fun _ _ x=>x⟩
theorem WI.base {s:Sg} (h:WI G s w):WI G.base s w:=by
 have hR:∀ g x,Right G w x (.gt g) → Right G.base w x (.gt g):=fun g x r=>r.mono (fun _ e=>e) fun b e hb=>⟨by rw [base_ow,hb],rfl⟩
 have hobj:∀ b id,G.base.ow b=.obj id → G.ow b=.obj id:=by
  intro b id hb
  rw [base_ow] at hb
  cases hx:G.ow b <;> rw [hx] at hb <;> simp at hb ⊢ <;> exact hb
 refine h.upd base_le (fun _ _ _ _=>J) (fun _ _ _ x=>.inl x) ?_ ?_ ?_ ?_ (fun g hg=>hR g _ (h.gts g hg)) h.gn ?_ (fun b g hb=>⟨by rw [base_ow,hb],rfl⟩)
 ·intro b o c hk
  have:=h.kow b o c hk
  rw [base_ow]
  cases hx:G.ow b <;> rw [hx] at this <;> first | exact this | trivial
 ·intro id o ho
  obtain ⟨b,h1,h2⟩:=h.obj id o ho
  exact ⟨b,base_le.ob b id h1,OR_mono base_le rfl h2⟩
 ·intro id b b' h1 h2;exact h.obu id b b' (hobj b id h1) (hobj b' id h2)
 ·intro id b h1;exact h.obn id b (hobj b id h1)
 intro b hb
 refine h.owlt b fun e=>hb ?_
 rw [base_ow,e]
theorem RR.back (h:RR w0 G0 G fr a w) {G':Gh} {s':Sg} {w':World} (hw:WI G' s' w') (hB:Base G') (hp:Pres w G.base G' w') :
 ∃ G2,RR w0 G0 G2 { fr with sg:=s' } a w' ∧ (∀ av v,av.nt=true → VR G' av v → VR G2 av v) ∧ (∀ avs vs,AV.nts avs=true → VRs G' avs vs → VRs G2 avs vs):=by
 let G2:Gh:={ G' with T:=G.T,ow:=fun k=>match G.ow k with | .loc i=>.loc i | .tip t e=>.tip t e | _=>G'.ow k }
 have ow2:∀ k,G2.ow k=(match G.ow k with | .loc i=>.loc i | .tip t e=>.tip t e | _=>G'.ow k):=fun _=>rfl
 have hmine:∀ k,(∃ i,G.ow k=.loc i) ∨ (∃ t e,G.ow k=.tip t e) → k < w.heap.size ∧ G.base.ow k=.free:=by
  intro k hk
  refine ⟨h.wi.owlt k ?_,?_⟩
  ·rcases hk with ⟨i,e⟩ | ⟨t,x,e⟩ <;> rw [e] <;> simp
  rw [base_ow];rcases hk with ⟨i,e⟩ | ⟨t,x,e⟩ <;> rw [e]
 have hkeep:∀ k,(∃ i,G.ow k=.loc i) ∨ (∃ t e,G.ow k=.tip t e) → w'.heap[k]?=w.heap[k]? ∧ G'.ow k=.free ∧ ∀ o,G'.K k o=G.K k o:=by
  intro k hk
  obtain ⟨h1,h2⟩:=hmine k hk
  exact hp.free k h1 h2
 have oth:∀ k,(¬ ∃ i,G.ow k=.loc i) → (¬ ∃ t e,G.ow k=.tip t e) → G2.ow k=G'.ow k:=by
  intro k h1 h2
  rw [ow2]
  cases hx:G.ow k with
  | loc i=>exact absurd ⟨i,hx⟩ h1
  | tip t e=>exact absurd ⟨t,e,hx⟩ h2
  | _=>rfl
 have from':∀ k x,G'.ow k=x → x ≠ .free → G2.ow k=x:=by
  intro k x hx hne
  rw [oth k (fun hh=>hne (by rw [← hx];exact (hkeep k (.inl hh)).2.1)) (fun hh=>hne (by rw [← hx];exact (hkeep k (.inr hh)).2.1))]
  exact hx
 have to':∀ k x,G2.ow k=x → (∀ i,x ≠ .loc i) → (∀ t e,x ≠ .tip t e) → G'.ow k=x:=by
  intro k x hx h1 h2
  rw [← oth k (fun ⟨i,e⟩=>h1 i (by rw [← hx,ow2,e])) (fun ⟨t,y,e⟩=>h2 t y (by rw [← hx,ow2,e]))]
  exact hx
 have le0:Gle G G':=base_le.trans hp.le
 have le':Gle G' G2:=⟨fun _ _ _ x=>x,fun k id hk=>from' k _ hk (by simp),fun _ _ x=>x,fun _ _ x=>x⟩
 have le:Gle G G2:=le0.trans le'
 have hT:Tle G G2:=fun _ _ x=>x
 refine ⟨G2,⟨?_,?_,?_,?_,h.nt,?_,DR_mono le _ _ h.df,?_⟩,fun av v hn hv=>VR_mono' le' av v (.inr hn) hv,fun avs vs hn hv=>VRs_mono' le' avs vs (.inr hn) hv⟩
 ·intro i tv hx
  obtain ⟨h1,h2⟩:=h.env i tv hx
  exact ⟨h1,TR_mono le hT (fun i _ _ k hk=>by rw [ow2,hk]) h2⟩
 ·intro i cs hx
  obtain ⟨b,vs,h1,h2,h3,h4⟩:=h.loc i cs hx
  exact ⟨b,vs,by rw [ow2,h1],h2.of_heap (hkeep b (.inl ⟨i,h1⟩)).1,VRs_mono' le cs vs (.inl hT) h3,h4⟩
 ·have hl:∀ k i,G2.ow k=.loc i → G.ow k=.loc i:=by
   intro k i hk
   rw [ow2] at hk
   cases hx:G.ow k with
   | loc j=>rw [hx] at hk;exact hk
   | tip t e=>rw [hx] at hk;cases hk
   | _=>rw [hx] at hk;exact absurd hk (hB.loc k i)
  intro i k k' h1 h2
  exact h.locu i k k' (hl k i h1) (hl k' i h2)
 ·intro t ht
  obtain ⟨b,off,len,cap,sz,cs,h1,h2,h3,h4⟩:=h.tips t ht
  exact ⟨b,off,len,cap,sz,cs,h1,by rw [ow2,h2],h3.of_heap (hkeep b (.inr ⟨t,_,h2⟩)).1,h4⟩
 ·refine hw.upd le' (fun _ _ _ _=>J) (fun _ _ _ x=>.inl x) ?_ ?_ ?_ ?_ ?_ hw.gn ?_ (fun b g hb=>⟨from' b _ hb (by simp),J⟩)
  ·intro k o c hk
   cases hx:G.ow k with
   | loc i =>
     have hk':G.K k o c:=by rw [← (hkeep k (.inl ⟨i,hx⟩)).2.2 o];exact hk
     have:=h.wi.kow k o c hk'
     rw [hx] at this
     exact this.elim
   | tip t e =>
     have hk':G.K k o c:=by rw [← (hkeep k (.inr ⟨t,e,hx⟩)).2.2 o];exact hk
     have:=h.wi.kow k o c hk'
     rw [hx] at this
     rw [ow2,hx]
     exact this
   | _=>rw [oth k (by rw [hx];simp) (by rw [hx];simp)];exact hw.kow k o c hk
  ·intro id o ho
   obtain ⟨b,h1,h2⟩:=hw.obj id o ho
   exact ⟨b,from' b _ h1 (by simp),OR_mono le' rfl h2⟩
  ·intro id k k' h1 h2
   exact hw.obu id k k' (to' k _ h1 (by simp) (by simp)) (to' k' _ h2 (by simp) (by simp))
  ·intro id k h1
   exact hw.obn id k (to' k _ h1 (by simp) (by simp))
  ·intro g hg
   exact (hw.gts g hg).mono (fun _ e=>e) fun b e hb=>⟨from' b _ hb (by simp),rfl⟩
  intro k hk
  by_cases hm:(∃ i,G.ow k=.loc i) ∨ (∃ t e,G.ow k=.tip t e)
  ·exact Nat.lt_of_lt_of_le (hmine k hm).1 hp.size
  refine hw.owlt k fun e=>hk ?_
  rw [oth k (fun x=>hm (.inl x)) (fun x=>hm (.inr x))]
  exact e
 have h0:=h.pres
 refine ⟨hp.os.trans h0.os,hp.tape.trans h0.tape,hp.output.trans h0.output,Nat.le_trans h0.size hp.size,?_,h0.le.trans le,fun b hb hf=>let ⟨h1,h2⟩:=h0.hid b hb hf;let ⟨k1,k2⟩:=hp.hid b (Nat.lt_of_lt_of_le hb h0.size) h2;⟨k1.trans h1,k2⟩⟩
 intro b hb hf
 obtain ⟨h1,h2,h3⟩:=h0.free b hb hf
 obtain ⟨k1,k2,k3⟩:=hp.free b (Nat.lt_of_lt_of_le hb h0.size) (by rw [base_ow,h2])
 exact ⟨k1.trans h1,by rw [oth b (by rw [h2];simp) (by rw [h2];simp)];exact k2,fun o=>(k3 o).trans (h3 o)⟩
theorem run_callFunc {f:Nat} {args:Array Value} (h:Enters P f):(callFunc f args).run P w=.ok (.enter f args) w:=by
 obtain ⟨fn,h1,h2,h3⟩:=h
 cases hb:fn.body with
 | none=>rw [hb] at h2;cases h2
 | some c=>simp [callFunc,h1,h3,hb]
def mCallee:AO → Callee → Bool
 | x,.value y=>mO x y
 | _,_=>false
theorem sim_call (h:RR w0 G0 G fr a w) {call:Caller} (hc:CallOK P call) {f:AO} {as:List AO} {c:Call} {ty:Nat} (hf:mCallee f c.callee=true) (has:mOs as c.args.toList=true) {g:AV} {l:List AV} {res:List AV} {s':Sg}
 (e1:evV fr.env f=some g) (e2:evVs fr.env as=some l) (e3:callOf call l fr.sg g=some (res,s')) :
 ∃ f args,(do let d ← resolve a.eval c ty;invoke d.target d.args:Sem Next).run P w=.ok (.enter f args) w ∧
  Calls P f args w fun e w''=>∃ v,e=.returned v ∧ ∃ G',RR w0 G0 G' { fr with sg:=s' } a w'' ∧ TR G' (toTV res) v:=by
 cases hcal:c.callee with
 | value y =>
   rw [hcal] at hf
   have hg:=h.evV hf e1
   have hl:=h.evVs has e2
   cases g with
   | fn k fs cs =>
     simp only [callOf] at e3
     simp only [VR] at hg
     obtain ⟨va,vb,hv,h1,h2⟩:=hg
     have hargs:VRs G (fs ++ l ++ cs) (va ++ c.args.toList.map a.eval ++ vb):=VRs_append (VRs_append h1 hl) h2
     have hargs':=VRs_mono' base_le _ _ (.inr (AV.nts_ers _)) (VRs_er _ _ hargs)
     obtain ⟨hen,hcalls⟩:=hc k _ fr.sg res s' e3 G.base w _ h.wi.base base_Base hargs' (AV.nts_ers _)
     refine ⟨k,(va ++ c.args.toList.map a.eval ++ vb).toArray,?_,hcalls.mono ?_⟩
     ·have e:va.toArray ++ c.args.map a.eval ++ vb.toArray=(va ++ c.args.toList.map a.eval ++ vb).toArray:=Array.ext' (by simp)
      simp only [resolve,hcal,hv,Deferred.ofValue,Sem.run_bind,Sem.run_pure,Result.andThen_ok,invoke]
      rw [e]
      exact run_callFunc hen
     rintro e w'' ⟨l',G',rfl,q1,q2,q3,q4,q5⟩
     obtain ⟨G2,r1,r2,r3⟩:=h.back q1 q2 q5
     exact ⟨_,rfl,G2,r1,TR_toTV (r3 _ _ q4 q3)⟩
   | _=>simp [callOf] at e3
 | _=>rw [hcal] at hf;simp [mCallee] at hf
theorem sim_dfr (h:RR w0 G0 G fr a w) {f:AO} {as:List AO} {c:Call} {ty:Nat} (hf:mCallee f c.callee=true) (has:mOs as c.args.toList=true) {g:AV} {l:List AV} {fr':Fr}
 (e1:evV fr.env f=some g) (e2:evVs fr.env as=some l) (e3:dfrOf fr l g=some fr') :
 ∃ d,(resolve a.eval c ty).run P w=.ok d w ∧ RR w0 G0 G fr' { a with defers:=d :: a.defers } w:=by
 cases hcal:c.callee with
 | value y =>
   rw [hcal] at hf
   have hg:=h.evV hf e1
   have hl:=h.evVs has e2
   cases g with
   | fn k fs cs =>
     simp only [dfrOf,Oie] at e3
     subst e3
     simp only [VR] at hg
     obtain ⟨va,vb,hv,h1,h2⟩:=hg
     have hargs:VRs G (fs ++ l ++ cs) (va ++ c.args.toList.map a.eval ++ vb):=VRs_append (VRs_append h1 hl) h2
     refine ⟨{ target:=.fn (.func k) vb.toArray,args:=va.toArray ++ c.args.map a.eval },?_,?_⟩
     ·simp only [resolve,hcal,hv,Deferred.ofValue,Sem.run_pure]
     refine ⟨h.env,h.loc,h.locu,h.tips,h.nt,h.wi,?_,h.pres⟩
     refine ⟨_,_,vb.toArray,J,J,?_,AV.nts_ers _,h.df⟩
     have:=VRs_er _ _ hargs
     simpa using this
   | _=>simp [dfrOf] at e3
 | _=>rw [hcal] at hf;simp [mCallee] at hf
theorem sim_into (h:RR w0 G0 G fr a w) {call:Caller} (hc:CallOK P call) {k:Nat} {l:List AV} {vs:List Value} {res:List AV} {s':Sg} (hv:VRs G l vs) (e3:call k (AV.ers l) fr.sg=some (res,s')) :
 (callFunc k vs.toArray).run P w=.ok (.enter k vs.toArray) w ∧ Calls P k vs.toArray w fun e w''=>∃ v,e=.returned v ∧ ∃ G',RR w0 G0 G' { fr with sg:=s' } a w'' ∧ TR G' (toTV res) v:=by
 have hargs':=VRs_mono' base_le _ _ (.inr (AV.nts_ers _)) (VRs_er _ _ hv)
 obtain ⟨hen,hcalls⟩:=hc k _ fr.sg res s' e3 G.base w _ h.wi.base base_Base hargs' (AV.nts_ers _)
 refine ⟨run_callFunc hen,hcalls.mono ?_⟩
 rintro e w'' ⟨l',G',rfl,q1,q2,q3,q4,q5⟩
 obtain ⟨G2,r1,r2,r3⟩:=h.back q1 q2 q5
 exact ⟨_,rfl,G2,r1,TR_toTV (r3 _ _ q4 q3)⟩
def mCK (P:Program) (t:TypeId):CK → Bool
 | .b=>(match P.underlying t with
   | some .bool=>true
   | _=>false)
 | .i=>(match P.underlying t with
   | some (.int _)=>true
   | _=>false)
 | .s=>(match P.underlying t with
   | some .string=>true
   | _=>false)
def mCKs (P:Program):Nat → List CK → List Field → Bool
 | _,[],[]=>true
 | n,k :: ks,f :: fs=>f.offset == n && f.name != "_" && mCK P f.type k && mCKs P (n + 1) ks fs
 | _,_,_=>false
def mAeq (P:Program) (t:TypeId) (ks:List CK):Bool :=
 (match P.underlying t with
 | some (.struct fs)=>mCKs P 0 ks fs.toList
 | _=>false) && !P.stoodInHeld t && !P.eqGuardType P.depth t
def mIxv (P:Program) (t:TypeId) (len sz:Nat) (n:Option Nat):Bool :=
 match P.underlying t with
 | some (.array l e)=>l == len && mN P e n && szOf P e == some sz
 | _=>false
def mS2b (P:Program) (t t':TypeId):Bool :=
 (P.underlying t).isSome && (match P.underlying t' with
 | some (.slice e)=>(match P.underlying e with
   | some (.int .u8)=>true
   | _=>false)
 | _=>false)
def notIface (P:Program) (t:TypeId):Bool :=
 match P.underlying t with
 | some (.interface _)=>false
 | some _=>true
 | none=>false
def mNilI (P:Program) (t:TypeId) (y:Operand):Bool :=
 (match P.underlying t with
 | some (.interface _)=>true
 | _=>false) && (match y with
 | .const .nilIface=>true
 | _=>false)
def mMeth (P:Program) (name:String) (t f:Nat):Bool :=
 match P.info? t with
 | some i=>(match i.methods.find? (·.name == name) with
   | some m=>m.path.isEmpty && (match m.func with
     | some (g,pr)=>g == f && (match P.underlying t with
       | some (.pointer _)=>pr
       | some _=>!pr
       | none=>false)
     | none=>false)
   | none=>false)
 | none=>false
def mNilS (P:Program) (t:TypeId) (y:Operand):Bool :=
 (match P.underlying t with
 | some (.slice _)=>true
 | _=>false) && (match y with
 | .const (.slice none 0 0)=>true
 | _=>false)
def mOp (P:Program) (x:AOp) (o:Op):Bool :=
 match x with
 | .mv x=>(match o with
   | .move y=>mO x y
   | .assign y=>mO x y
   | _=>false)
 | .pick c p q=>(match o with
   | .pick c' p' q'=>mO c c' && mO p p' && mO q q'
   | _=>false)
 | .alloc _ z=>(match o with
   | .alloc t=>(match zeroOf P t with
     | some v=>coks z v.cells.toList && z.all AV.isCell
     | none=>false)
   | _=>false)
 | .box _ x=>(match o with
   | .box _ y=>mO x y
   | _=>false)
 | .build z ps=>(match o with
   | .build t qs=>mBuild P t z ps qs.toList && z.all AV.isCell
   | _=>false)
 | .bsl sz ps=>(match o with
   | .buildSlice t len qs=>mBsl P t len sz ps qs.toList
   | _=>false)
 | .ld _ n x=>(match o with
   | .load t y=>mO x y && mN P t n
   | _=>false)
 | .st _ n x y=>(match o with
   | .store t x' y'=>mO x x' && mO y y' && szOf P t == some n
   | _=>false)
 | .nck x=>(match o with
   | .nilCheck y=>mO x y
   | _=>false)
 | .bin op x y=>(match o with
   | .binOp op' _ x' y' _=>decide (op=op') && mO x x' && mO y y'
   | _=>false)
 | .beq ng x y=>(match o with
   | .binOp op' t x' y' _=>decide (op'=(if ng then .neq else .eql)) && mO x x' && mO y y' && (match P.underlying t with
     | some .bool=>true
     | _=>false)
   | _=>false)
 | .peq ng x y=>(match o with
   | .binOp op' t x' y' _=>decide (op'=(if ng then .neq else .eql)) && mO x x' && mO y y' && (match P.underlying t with
     | some (.pointer _)=>true
     | _=>false)
   | _=>false)
 | .mmx mx x y=>(match o with
   | .call c=>(match c.callee,c.args.toList with
     | .builtin .max,[x',y']=>mO x x' && mO y y' && mx
     | .builtin .min,[x',y']=>mO x x' && mO y y' && !mx
     | _,_=>false)
   | _=>false)
 | .aeq ng ks x y=>(match o with
   | .binOp op' t x' y' _=>decide (op'=(if ng then .neq else .eql)) && mO x x' && mO y y' && mAeq P t ks
   | _=>false)
 | .unot x=>(match o with
   | .unOp .not _ y=>mO x y
   | _=>false)
 | .uneg x=>(match o with
   | .unOp .neg _ y=>mO x y
   | _=>false)
 | .cvt k x=>(match o with
   | .convert s d y=>mO x y && (P.underlying s).isSome && (match P.underlying d with
     | some (.int k')=>decide (k=k')
     | _=>false)
   | _=>false)
 | .mkf f fs cs=>(match o with
   | .makeFunc (.func f') fs' cs'=>f == f' && mOs fs fs'.toList && mOs cs cs'.toList
   | _=>false)
 | .mkm _=>(match o with
   | .makeMap _ none=>true
   | _=>false)
 | .fa off x=>(match o with
   | .fieldAddr t y i=>mO x y && (match fieldOf P t i with
     | some f=>f.offset == off && (match szOf P f.type with
       | some s=>decide (s ≠ 0)
       | none=>false)
     | none=>false)
   | _=>false)
 | .fld off n x=>(match o with
   | .field t y i=>mO x y && (match fieldOf P t i with
     | some f=>f.offset == off && mN P f.type n
     | none=>false)
   | _=>false)
 | .ia sz x i=>(match o with
   | .indexAddr t y k=>mO x y && mO i k && elemSz P t == some sz
   | _=>false)
 | .iaa len sz x i=>(match o with
   | .indexAddr t y k=>mO x y && mO i k && arrOf P t == some (len,sz)
   | _=>false)
 | .ixs x i=>(match o with
   | .index t y k=>mO x y && mO i k && (match P.underlying t with
     | some .string=>true
     | _=>false)
   | _=>false)
 | .lk kk z ok m k=>(match o with
   | .lookup t m' k' ok'=>mO m m' && mO k k' && (ok == ok') && mLk P t kk z
   | _=>false)
 | .mu kk m k v=>(match o with
   | .mapUpdate t m' k' v'=>mO m m' && mO k k' && mO v v' && mMu P t kk
   | .insert t m' k' v'=>mO m m' && mO k k' && mO v v' && mMu P t kk
   | _=>false)
 | .dl kk m k=>(match o with
   | .call c=>(match c.callee,c.args.toList,c.argTypes.toList with
     | .builtin .delete,[m',k'],[t,_]=>mO m m' && mO k k' && mMu P t kk
     | _,_,_=>false)
   | _=>false)
 | .ext x i=>(match o with
   | .extract y j=>mO x y && i == j
   | _=>false)
 | .call f as=>(match o with
   | .call c=>mCallee f c.callee && mOs as c.args.toList
   | _=>false)
 | .len st x=>(match o with
   | .call c=>(match c.callee,c.args.toList,c.argTypes.toList with
     | .builtin .len,[y],[t]=>mO x y && (match P.underlying t with
       | some .string=>st
       | some (.slice _)=>!st
       | _=>false)
     | _,_,_=>false)
   | _=>false)
 | .app sz by_ s x=>(match o with
   | .call c=>(match c.callee,c.args.toList,c.argTypes.toList with
     | .builtin .append,[s',x'],[t,t']=>mO s s' && mO x x' && t == t' && mApp P t sz by_
     | _,_,_=>false)
   | _=>false)
 | .sl sz x lo hi mx=>(match o with
   | .slice t x' lo' hi' mx'=>mO x x' && mOo lo lo' && mOo hi hi' && mOo mx mx' && (!mx.isSome || hi.isSome) && elemSz P t == some sz
   | _=>false)
 | .sls x lo hi=>(match o with
   | .slice t x' lo' hi' none=>mO x x' && mOo lo lo' && mOo hi hi' && (match P.underlying t with
     | some .string=>true
     | _=>false)
   | _=>false)
 | .dfr f as=>(match o with
   | .defer c=>mCallee f c.callee && mOs as c.args.toList
   | _=>false)
 | .ldo _ _ n x=>(match o with
   | .load t y=>mO x y && mN P t n
   | _=>false)
 | .sts _ n a x=>(match o with
   | .store t a' x'=>mO a a' && mO x x' && szOf P t == some n
   | _=>false)
 | .tas t z ok x=>(match o with
   | .typeAssert y _ t' ok'=>mO x y && t == t' && (ok == ok') && notIface P t && (match zeroOf P t with
     | some v=>cok z v
     | none=>false)
   | _=>false)
 | .inv tb x as=>(match o with
   | .call c=>(match c.callee with
     | .invoke recv name=>mO x recv && mOs as c.args.toList && tb.all fun q=>mMeth P name q.1 q.2
     | _=>false)
   | _=>false)
 | .callq _ f as=>(match o with
   | .call c=>mCallee f c.callee && mOs as c.args.toList
   | _=>false)
 | .wop k xs=>(match k,xs,o with
   | .mks sz by_ z,[x,y],.makeSlice t x' y'=>mO x x' && mO y y' && mMks P t sz by_ z
   | .ixv len sz n,[x,i],.index t y k=>mO x y && mO i k && mIxv P t len sz n
   | .snl ng,[x],.binOp op' t x' y' _=>decide (op'=(if ng then .neq else .eql)) && mO x x' && mNilS P t y'
   | .mki t,[x],.makeInterface t' y=>t == t' && mO x y && notIface P t
   | .ifn ng,[x],.binOp op' t x' y' _=>decide (op'=(if ng then .neq else .eql)) && mO x x' && mNilI P t y'
   | .stop,_,_=>true
   | .ldz n,[x],.load t y=>mO x y && mN P t n
   | .bldz z ps,xs,.build t qs=>mBuild P t z (zipP ps xs) qs.toList && z.all AV.isCell
   | .ldv n,[x],.load t y=>mO x y && mN P t n
   | .s2b,[x],.convert t t' y=>mO x y && mS2b P t t'
   | .bslm sz len,ps,.buildSlice t len' qs=>len == len' && mBsl P t len' sz ps qs.toList
   | .gad g sz cs,[i],.indexAddr t (.global g') k=>g == g' && mO i k && mGad P t sz cs
   | .frz _,[x],.move y=>mO x y
   | .frz _,[x],.assign y=>mO x y
   | .appm sz by_,[s,x],.call c=>(match c.callee,c.args.toList,c.argTypes.toList with
     | .builtin .append,[s',x'],[t,t']=>mO s s' && mO x x' && t == t' && mApp P t sz by_
     | _,_,_=>false)
   | .cpy sz,[s,x],.call c=>(match c.callee,c.args.toList,c.argTypes.toList with
     | .builtin .copy,[s',x'],[t,_]=>mO s s' && mO x x' && (match P.underlying t with
       | some (.slice e)=>szOf P e == some sz
       | _=>false)
     | _,_,_=>false)
   | _,_,_=>false)
end
end Go.Sim
