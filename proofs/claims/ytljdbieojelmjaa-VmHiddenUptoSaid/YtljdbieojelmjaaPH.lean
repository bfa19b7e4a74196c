/-
  A part of a proof: see the last text of this claim.
-/
import Derived.Test.YtljdbieojelmjaaPC
import Derived.Test.YtljdbieojelmjaaProg
import Derived.Tactics
import Derived.Tactics2
import Derived.StillTactics
import Derived.Laws.RangeString
import Derived.Laws.RangeAny
import Derived.Laws.Alloc2
import Derived.Laws.Cells
import Derived.Laws.Strings
import Derived.Laws.World
import Derived.Laws.Small
import Derived.Laws.Append
import Derived.Laws.AppendOwn
import Derived.Laws.Build
import Derived.Laws.Slices
import Derived.Laws.Pointers
import Derived.FnLit
import Derived.LoopTactic
import Derived.Test.YtljdbieojelmjaaPD
import Derived.Shelf.Spec.SlicesInsertGrow
import Derived.Shelf.LaysM
import Derived.Shelf.Strings.Shaped
set_option linter.unusedVariables false
set_option linter.unusedSimpArgs false
namespace Go.Sim.Vm
open Go Go.Sim Go.Proofs
theorem any_drop {l:List UInt8} {p:UInt8 → Bool} {i:Nat} {b:UInt8} (h:l[i]?=some b):(l.drop i).any p=(p b || (l.drop (i + 1)).any p):=by
 have hi:i < l.length:=by
  rcases Nat.lt_or_ge i l.length with h' | h'
  ·exact h'
  rw [List.getElem?_eq_none h'] at h;cases h
 rw [List.getElem?_eq_getElem hi] at h
 cases h
 rw [List.drop_eq_getElem_cons hi,List.any_cons]
theorem grew_iter (w:World) (o:Obj) (f:ByteArray) (pos:Nat):∃ w1,Grew w w1 ∧ Grew w1 ((w.alloc o).iter f pos):=⟨w.alloc o,grew_push w o w.drawn,grew_push (w.alloc o) _ w.drawn⟩
def hasB (f:ByteArray) (r:Int):Bool:=f.data.toList.any fun b=>decide ((b.toNat:Int)=r)
def hasFrom (f:ByteArray) (r:Int) (i:Nat):Bool:=(f.data.toList.drop i).any fun b=>decide ((b.toNat:Int)=r)
theorem hasFrom_step {f:ByteArray} {r:Int} {i:Nat} {b:UInt8} (h:f.data.toList[i]?=some b):hasFrom f r i=(decide ((b.toNat:Int)=r) || hasFrom f r (i + 1)):=any_drop h
theorem hasFrom_end {f:ByteArray} {r:Int} {i:Nat} (h:¬ i < f.size):hasFrom f r i=false:=by
 unfold hasFrom
 rw [List.drop_eq_nil_of_le (by simpa using h)]
 rfl
theorem get_byte {f:ByteArray} {pos:Nat} (hlt:pos < f.size):f.data.toList[pos]?=some (f[pos]'hlt):=by
 have hl2:pos < f.data.toList.length:=by simpa using hlt
 rw [List.getElem?_eq_getElem hl2]
 rfl
set_option maxRecDepth 1000000 in
theorem has_walk (nm f:ByteArray) (r:Int) (ha:∀ b ∈ f.data.toList,b.toNat < 128) (w:World) :
 Calls Try.prog 61 #[.agg #[.string nm,.string f],.int .i32 r] w fun e w'=>e=.returned (.bool (hasB f r)) ∧ ∃ w1,Grew w w1 ∧ Grew w1 w':=by
 go_enter Try.func61,Try.ntmps61
 go_wp2
 generalize hW:w.alloc (Obj.cells #[Value.string nm,Value.string f] 95)=W
 have hs:w.heap.size + 1=W.heap.size:=by rw [← hW];exact (Array.size_push _).symm
 rw [hs]
 go_loopw [6] (fun v w'=>∃ pos:Nat,w'=W.iter f pos ∧ hasFrom f r pos=hasB f r) (fun _ w'=>f.size - w'.iterPos W.heap.size)
 case atStart=>exact ⟨0,rfl,rfl⟩
 case round =>
  obtain ⟨pos,rfl,hp⟩:=hrel
  by_cases hlt:pos < f.size
  ·have h128:(f[pos]'hlt).toNat < 128:=ha _ (Lmg (get_byte hlt))
   rw [hasFrom_step (get_byte hlt)] at hp
   have hnx:∀ ty,(Instr.next (.pointer (some ⟨W.heap.size,0,none⟩)) true ty).run Try.prog (W.iter f pos)=_:=fun ty=>run_next_ascii W f pos ty hlt h128
   clear ha
   go_wp2
   ·rename_i hb
    go_ret
    have e:((f[pos]'hlt).toNat:Int)=r:=by simpa using hb
    rw [← hp,decide_eq_true e,← hW]
    exact ⟨rfl,grew_iter _ _ _ _⟩
   rename_i hb
   have e:¬ ((f[pos]'hlt).toNat:Int)=r:=by simpa using hb
   rw [decide_eq_false e,Bool.false_or] at hp
   go_roundw
   case rel=>exact ⟨pos + 1,rfl,hp⟩
   case measure =>
    rw [World.iterPos_iter,World.iterPos_iter]
    omega
  have hnx:∀ ty,(Instr.next (.pointer (some ⟨W.heap.size,0,none⟩)) true ty).run Try.prog (W.iter f pos)=_:=fun ty=>run_next_end W f pos ty hlt
  clear ha
  go_wp2
  go_ret
  rw [← hp,hasFrom_end hlt,← hW]
  exact ⟨rfl,grew_iter _ _ _ _⟩
theorem snil_nil {P:Program} {t e:Nat} (hu:P.underlying t=some (.slice e)) (w:World):(binOp .eql t (.slice none 0 0) (.slice none 0 0)).run P w=.ok (.bool true) w:=by
 have heq:∀ n,(Op.equalIn (n + 1) t (.slice none 0 0) (.slice none 0 0)).run P w=.ok true w:=fun n=>by simp [Op.equalIn,run_underlying hu]
 simp [binOp,Op.equal,Op.maxDepth,heq]
theorem snil_some {P:Program} {t e:Nat} (hu:P.underlying t=some (.slice e)) (a:Addr) (n c:Nat) (w:World):(binOp .eql t (.slice (some a) n c) (.slice none 0 0)).run P w=.ok (.bool false) w:=by
 have heq:∀ k,(Op.equalIn (k + 1) t (.slice (some a) n c) (.slice none 0 0)).run P w=.ok false w:=fun n=>by simp [Op.equalIn,run_underlying hu]
 simp [binOp,Op.equal,Op.maxDepth,heq]
set_option maxRecDepth 100000
theorem clone_nilI (w:World):Calls Try.prog 28 #[.slice none 0 0] w fun e w'=>e=.returned (.slice none 0 0) ∧ w'=w:=by
 have h1:=snil_nil (P:=Try.prog) Try.underlying23
 go_enter Try.func28,Try.ntmps28
 go_wp2
 go_ret
 exact ⟨rfl,rfl⟩
theorem clone_empI (w:World) (a:Addr) (c:Nat):Calls Try.prog 28 #[.slice (some a) 0 c] w fun e w'=>e=.returned (.slice (some ⟨w.heap.size,0,none⟩) 0 0) ∧ Grew w w':=by
 have h1:=snil_some (P:=Try.prog) Try.underlying23 a 0 c
 go_enter Try.func28,Try.ntmps28
 go_wp2
 go_ret
 exact ⟨rfl,grew_push w _ w.drawn⟩
theorem clone_nilW (w:World):Calls Try.prog 29 #[.slice none 0 0] w fun e w'=>e=.returned (.slice none 0 0) ∧ w'=w:=by
 have h1:=snil_nil (P:=Try.prog) Try.underlying43
 go_enter Try.func29,Try.ntmps29
 go_wp2
 go_ret
 exact ⟨rfl,rfl⟩
theorem clone_empW (w:World) (a:Addr) (c:Nat):Calls Try.prog 29 #[.slice (some a) 0 c] w fun e w'=>e=.returned (.slice (some ⟨w.heap.size,0,none⟩) 0 0) ∧ Grew w w':=by
 have h1:=snil_some (P:=Try.prog) Try.underlying43 a 0 c
 go_enter Try.func29,Try.ntmps29
 go_wp2
 go_ret
 exact ⟨rfl,grew_push w _ w.drawn⟩
end Go.Sim.Vm
namespace Go.Sim.W
open Go Go.Sim Go.Proofs Go.Lib Go.RowKit Go.Shelf
theorem run_overlaps_mut {P:Program} (w:World) (tS tR e:TypeId) (ht:P.underlying tS=some (.slice e)) (size:Nat) (hz:∀ w,(Go.sizeOf e).run P w=.ok size w)
 (a b:Addr) (la ca lb cb:Nat) (hne:a.block ≠ b.block) (tA tB:TypeId) (kA kB:Nat)
 (hsa:w.shape? a.block=some (tA,kA)) (hsb:w.shape? b.block=some (tB,kB)) (hkA:kA ≠ 0)
 (hfb:w.frozen? b=false) (hfe:w.frozen? { block:=b.block,off:=kB }=false) :
 (Extern.SlicesOverlaps.overlaps #[tS,tS] #[tR] #[.slice (some a) la ca,.slice (some b) lb cb]).run P w=.ok (.bool false) w:=by
 have hnb:(a.block != b.block)=true:=by simpa using hne
 have hnb':(a.block == b.block)=false:=by simpa using hne
 change Sem.run P (α:=Value) (do
  let some t:=(#[tS,tS]:Array TypeId)[0]? | stuck "slices.overlaps: no parameter types"
  let .slice elem ← underlying t | stuck "slices.overlaps: slice type expected"
  let size ← sizeOf elem
  match (some a:Option Addr),(some b:Option Addr) with
  | some a,some b =>
    if la=0 ∨ lb=0 ∨ size=0 then pure (Value.bool false)
    else if a.block != b.block && (← frozen a) && (← frozen b) then unsupported .addressObserved
    else do
     if a.block != b.block then do
      noView a;noView b
      if ← mayBeOne a b then return Value.bool ((← choose (.extern "sameAddr.stringBytes" 2)) == 1)
     pure (Value.bool (a.block == b.block && a.off < b.off + lb * size && b.off < a.off + la * size))
  | _,_=>pure (Value.bool false)) w=_
 by_cases h0:la=0 ∨ lb=0 ∨ size=0
 ·simp [run_underlying ht,hz,h0]
 cases kA with
 | zero=>exact absurd rfl hkA
 | succ kA =>
   cases hfa:w.frozen? a <;> cases hfx:w.frozen? { block:=a.block,off:=kA + 1 } <;>
    simp [run_underlying ht,hz,h0,hnb,hnb',frozen,noView,viewAt,mayBeOne,stringish,shape,Sem.run,hsa,hsb,hfa,hfx,hfb,hfe]
set_option maxHeartbeats 4000000 in
set_option maxRecDepth 100000 in
theorem ins_end (b c:Nat) (xa:Addr) (xc:Nat) (w w':World) (x:Value) (hrun:(Builtin.append_ #[43,43] 43 #[.slice (some ⟨b,0,none⟩) 0 c,.slice (some xa) 1 xc]).run Try.prog w=.ok x w') :
 Calls Try.prog N76_ #[.slice (some ⟨b,0,none⟩) 0 c,.int .i64 0,.slice (some xa) 1 xc] w fun e w2=>e=.returned x ∧ w2=w':=by
 show Calls Try.prog 76 _ _ _
 go_enter Try.func76,Try.ntmps76
 go_wp2_with (at_builtin;refine Lib.wpList_append_run _ rfl _ _ _ _ rfl _ _ rfl rfl _ _ hrun ?_)
 all_goals (go_ret;exact ⟨rfl,rfl⟩)
set_option maxHeartbeats 4000000 in
set_option maxRecDepth 100000 in
theorem ins_shift (b n c:Nat) (xa:Addr) (xc:Nat) (w w1 w2:World) (r1 r2:Value) (hn:0 < n) (hroom:n + 1 ≤ c) (hbig:(n + 1) * 16 ≤ 140737488355328)
 (hov:∀ lb cb,(callFunc 83 #[.slice (some xa) 1 xc,.slice (some ⟨b,2,none⟩) lb cb]).run Try.prog w=.ok (.value (.bool false)) w)
 (hcp1:∀ ty dc sc,(Builtin.copy_ #[43,43] ty #[.slice (some ⟨b,2,none⟩) n dc,.slice (some ⟨b,0,none⟩) (n + 1) sc]).run Try.prog w.drew=.ok r1 w1)
 (hcp2:∀ ty dc,(Builtin.copy_ #[43,43] ty #[.slice (some ⟨b,0,none⟩) (n + 1) dc,.slice (some xa) 1 xc]).run Try.prog w1=.ok r2 w2) :
 Calls Try.prog N76_ #[.slice (some ⟨b,0,none⟩) n c,.int .i64 0,.slice (some xa) 1 xc] w fun e w'=>e=.returned (.slice (some ⟨b,0,none⟩) (n + 1) c) ∧ w'=w2:=by
 show Calls Try.prog 76 _ _ _
 have hz2:¬ ((0:Int)=(n:Int)):=by omega
 have hb2:¬ (c=1):=by omega
 have hb3:(0:Int) ≤ (n:Int) + 1:=by omega
 have hb4:¬ (c=0):=by omega
 have hw1:IntKind.i64.wrap 1=1:=by decide
 have hw2:IntKind.i64.wrap ((n:Int) + 1)=(n:Int) + 1:=by rw [IntKind.wrap_i64];omega
 have hb1:(1:Int) ≤ (n:Int) + 1:=by omega
 have htn:(1:Int).toNat=1:=rfl
 have mixed:Try.prog.follows .mixedOrders=true:=by kernel_rfl
 go_enter Try.func76,Try.ntmps76
 go_wp2_with (simp only [hov])
 go_region_law_o (refine step_copy_runI rfl _ _ 43 43 rfl _ _ (by simp [Act.eval,Act.put]) (by simp [Act.eval,Act.put]) (hcp1 _ _ _) ?_)
 go_wp2_with (at_builtin;refine wpList_copy_runI _ rfl _ _ 43 43 rfl _ _ rfl rfl (hcp2 _ _) ?_)
 go_ret
 exact ⟨rfl,rfl⟩
set_option maxHeartbeats 4000000 in
set_option maxRecDepth 100000 in
theorem ins_grow (b n c N G:Nat) (xa:Addr) (xc:Nat) (w W0 W1 W2:World) (rA rB:Value) (hn:0 < n) (hnc:n ≤ c) (hroom:c < n + 1) (hG:n + 1 ≤ G) (hbig:(n + 1) * 16 ≤ 140737488355328)
 (hrz:∀ ty,(Builtin.append_ #[43,3] ty #[.slice (some ⟨b,0,none⟩) 0 c,.int .i64 ((n:Int) + 1)]).run Try.prog w=.ok (.slice (some ⟨N,0,none⟩) (n + 1) G) W0)
 (hcpA:∀ ty dc,(Builtin.copy_ #[43,43] ty #[.slice (some ⟨N,0,none⟩) (n + 1) dc,.slice (some xa) 1 xc]).run Try.prog W0=.ok rA W1)
 (hcpB:∀ ty dc sc,(Builtin.copy_ #[43,43] ty #[.slice (some ⟨N,2,none⟩) n dc,.slice (some ⟨b,0,none⟩) n sc]).run Try.prog W1.drew=.ok rB W2) :
 Calls Try.prog N76_ #[.slice (some ⟨b,0,none⟩) n c,.int .i64 0,.slice (some xa) 1 xc] w fun e w'=>e=.returned (.slice (some ⟨N,0,none⟩) (n + 1) G) ∧ w'=W2:=by
 show Calls Try.prog 76 _ _ _
 have hz2:¬ ((0:Int)=(n:Int)):=by omega
 have hz3:(c:Int) < (n:Int) + 1:=by omega
 have hGi:¬ (G=0):=by omega
 have hGim:¬ (G=1):=by omega
 have hci:¬ (c=0):=by omega
 have hw1:IntKind.i64.wrap 1=1:=by decide
 have hw2:IntKind.i64.wrap ((n:Int) + 1)=(n:Int) + 1:=by rw [IntKind.wrap_i64];omega
 have hb1:(1:Int) ≤ (n:Int) + 1:=by omega
 have hb3:(0:Int) ≤ (n:Int):=by omega
 have htn:(1:Int).toNat=1:=rfl
 have mixed:Try.prog.follows .mixedOrders=true:=by kernel_rfl
 go_enter Try.func76,Try.ntmps76
 go_wp2_with (first
  | (at_builtin;refine Lib.wpList_append_run _ rfl _ _ _ _ rfl _ _ rfl rfl _ _ (hrz _) ?_)
  | (at_builtin;refine wpList_copy_runI _ rfl _ _ 43 43 rfl _ _ rfl rfl (hcpA _ _) ?_))
 go_region_law_o (refine step_copy_runI rfl _ _ 43 43 rfl (.slice (some ⟨N,2,none⟩) n (G - 1)) (.slice (some ⟨b,0,none⟩) n c) (by simp [Act.eval,Act.put]) (by simp [Act.eval,Act.put]) (hcpB 3 (G - 1) c) ?_)
 go_wp2
 go_ret
 exact ⟨rfl,rfl⟩
theorem enters_ins:Enters Try.prog N76_:=⟨_,Try.func76,by kernel_rfl,Odt (by kernel_rfl)⟩
theorem cpyB {P:Program} {w:World} {b off dlen k:Nat} {cells us:List Value} {ad:Addr} {t t2 e sz:Nat} (hu:P.underlying t=some (.slice e)) (hs:szOf P e=some sz) (hB:BL w b cells) (hm:us.length=min k dlen * sz)
 (hp:ad.spot=none) (hsrc:∀ (j:Nat) u,us[j]?=some u → w.cell? (ad.add j)=some u) (hle:off + us.length ≤ cells.length) (hV:∀ v ∈ us,cellV v) :
 ∃ w',(∀ ty dc sc,(Builtin.copy_ #[t,t2] ty #[.slice (some ⟨b,off,none⟩) dlen dc,.slice (some ad) k sc]).run P w=.ok (.int .i64 (min k dlen:Nat)) w') ∧ Only w w' b ∧ BL w' b (cells.take off ++ us ++ cells.drop (off + us.length)):=by
 obtain ⟨w',g1,g2,g3⟩:=run_storeCells0 (P:=P) (o:=off) hB hle hV
 refine ⟨w',fun ty dc sc=>?_,g2,g3⟩
 obtain ⟨pb,po,ps⟩:=ad
 obtain rfl:ps=none:=hp
 have hload:(Builtin.firstCells sz (min k dlen) (.slice (some ⟨pb,po,none⟩) k sc)).run P w=.ok us.toArray w :=
  run_loadCells _ hm fun j x hx=>by
   have:=hsrc j x hx
   rwa [add_plain] at this
 simp only [Builtin.copy_,List.getElem?_toArray,List.getElem?_cons_zero,List.getElem?_cons_succ]
 simp [run_underlying hu,Builtin.lenOf,run_szOf hs,hload,g1,goInt]
theorem post_of {G G':Gh} {w w':World} {fr:Fr} {a:Act} {av:AV} {x:Value} (hR:RR w G G' fr a w') (hV:VR G' av x) (hn:av.nt=true):Post G w fr.sg [av] (.returned x) w':=by
 refine ⟨[x],G'.base,rfl,hR.wi.base,base_Base,?_,by simp only [AV.nts,hn,Bool.and_self],hR.pres.to_base⟩
 refine VRs_mono' base_le _ _ (.inr (by simp only [AV.nts,hn,Bool.and_self])) ?_
 simp only [VRs]
 exact ⟨_,_,rfl,hV,rfl⟩
theorem shape_cell {w:World} {a:Addr} {v:Value} (h:w.cell? a=some v):∃ t k,w.shape? a.block=some (t,k) ∧ k ≠ 0:=by
 unfold World.cell? at h
 unfold World.shape?
 split at h
 ·rename_i c el fr e
  split at h
  ·cases h
  refine ⟨el,c.size,J,fun hz=>?_⟩
  rw [Array.getElem?_eq_none (by omega)] at h
  cases h
 cases h
theorem wordInfo:∃ i0,Try.prog.info? 60=some i0 ∧ ∃ z,i0.zero=some z ∧ i0.size=2 ∧ i0.bytes=16 ∧ z.cells.size=2:=by
 have h:mApp Try.prog 43 2 16=true:=by kernel_rfl
 unfold mApp at h
 split at h
 ·rename_i e hu
  rw [Try.underlying43] at hu
  obtain rfl:e=60:=by cases hu;rfl
  split at h
  ·rename_i ie hie
   simp only [Bae,beq_iff_eq,Dte] at h
   obtain ⟨⟨⟨h1,h2⟩,_⟩,hz⟩:=h
   split at hz
   ·rename_i z hz0
    simp only [beq_iff_eq] at hz
    exact ⟨ie,hie,z,hz0,h1,h2,hz⟩
   cases hz
  cases h
 cases h
theorem szWord:szOf Try.prog 60=some 2:=by kernel_rfl
set_option maxRecDepth 100000 in
theorem insert_ok:OvOK Try.prog N76_ insertOv:=by
 intro args s res s' he G w vs hw hB hv hn
 unfold insertOv at he
 split at he
 ·rename_i g len o x
  obtain ⟨cs,hcs,he⟩:=Obe.1 he
  split at he
  ·rename_i hc
   obtain ⟨c1,c2,c3⟩:=hc
   simp only [Oie,Pie] at he
   obtain ⟨rfl,rfl⟩:=he
   refine ⟨enters_ins,?_⟩
   have hR0:=(RR.start (n:=0) (args:=[]) (vs:=[]) hw hB rfl (Nat.le_refl 0)).1
   simp only [VRs] at hv
   obtain ⟨v1,r1,rfl,h1,v2,r2,rfl,h2,v3,r3,rfl,h3,rfl⟩:=hv
   have hsrc:srcOf 2 s (.slice o 2 [x])=some (1,x.cells):=by simp [srcOf,flat]
   obtain ⟨ad,xcap,us,rfl,s1,s2,s3,s4,s5,s6,s7⟩:=src_vals hw hsrc h3
   have h1':=h1
   simp only [VR] at h1 h2
   obtain ⟨rfl,_⟩:=h2
   obtain ⟨b,room,cap,rfl,d1,d2,d3⟩:=h1
   obtain ⟨b',room',vs0,rest,k1,k2,k3,k4,k5,k6,k7⟩:=hw.mus g cs hcs
   obtain ⟨rfl,rfl⟩:b=b' ∧ room=room':=by rw [d1] at k1;simpa using k1
   obtain ⟨p,rfl⟩:∃ p,ad=some p:=by
    cases ad with
    | none=>exact absurd (s6 rfl) (by decide)
    | some p=>exact ⟨p,rfl⟩
   obtain ⟨q1,q2⟩:=s7 p rfl
   obtain ⟨pb,po,ps⟩:=p
   obtain rfl:ps=none:=q1.resolve_left (by decide)
   have hno:∀ o c,¬ G.K b o c:=fun o c hk=>by have:=hw.kow b o c hk;rw [k2] at this;exact this
   have hul:us.length=2:=by rw [VRs_length s5,s2]
   have hvl:vs0.length=len * 2:=by rw [VRs_length k4,c1]
   have hpb:pb ≠ b:=by
    simp only [VR] at h3
    obtain ⟨a',cap',e,_,_,l3,_⟩:=h3
    simp only [Value.slice.injEq] at e
    obtain ⟨rfl,_,rfl⟩:=e
    obtain ⟨c,hcx⟩:∃ c,(flat [x])[0]?=some c:=⟨_,List.getElem?_eq_getElem (by simp [flat,c2])⟩
    intro e
    exact hno _ _ (e ▸ l3.2 0 c hcx)
   by_cases h0:len=0
   ·subst h0
    have hcs0:cs=[]:=List.length_eq_zero_iff.1 (by rw [c1])
    obtain ⟨xv,w',hrun,G',hR,hV⟩:=sim_appm hR0 (t:=43) (ty:=43) (sz:=2) (by_:=16) (by kernel_rfl) (s':={ s with mu:=upd (upd s.mu g none) s.mn (some (x.cells ++ cs)),mn:=s.mn + 1 }) (av:=.ms s.mn 0 (0 + 1) 2) h1' h3 (by
     show appmOf 2 16 s (.slice o 2 [x]) (.ms g 0 0 2)=_
     simp only [appmOf,hsrc,hcs,Obs,hcs0]
     rw [if_pos ⟨trivial,trivial⟩,if_pos ⟨rfl,by decide⟩,if_neg (by decide)]
     simp)
    refine (ins_end b cap ⟨pb,po,none⟩ xcap w w' xv hrun).mono ?_
    rintro e w2 ⟨rfl,rfl⟩
    exact post_of hR hV rfl
   have hc2:len * 2 + 2 ≤ cap * 2 ∨ cap < len + 1:=by omega
   have hnn:AV.nts (x.cells ++ cs)=true:=by rw [AV.nts_iff] at k5 s3 ⊢;intro c hc;exact (List.mem_append.1 hc).elim (s3 c) (k5 c)
   have hcc:(x.cells ++ cs).all AV.isCell=true:=by simp only [List.all_append,k6,s4];rfl
   have hmu:∀ g' cs',upd s.mu g none g'=some cs' → s.mu g'=some cs' ∧ g' ≠ g:=fun g' cs' hg=>by
    by_cases e:g'=g
    ·subst e;rw [upd_same] at hg;cases hg
    rw [upd_ne _ _ e] at hg;exact ⟨hg,e⟩
   by_cases hroom:len + 1 ≤ cap
   ·have hlr:len * 2 + 2 ≤ (vs0 ++ rest).length:=by rw [k7];omega
    have k3d:BL w.drew b (vs0 ++ rest):=k3
    obtain ⟨w1,m1,m2,m3⟩:=cpyB (P:=Try.prog) (t2:=43) (off:=2) (dlen:=len) (k:=len + 1) (ad:=⟨b,0,none⟩) (us:=vs0) Try.underlying43 szWord k3d (by rw [hvl,Nat.min_eq_right (Nat.le_succ _)]) rfl
     (fun j u hj=>by
       rw [add_plain,k3d.cell,Nat.zero_add,List.getElem?_append_left]
       ·exact hj
       rcases Nat.lt_or_ge j vs0.length with h' | h'
       ·exact h'
       rw [List.getElem?_eq_none h'] at hj;cases hj) (by rw [hvl];omega) (VRs_cellV k4 k6)
    have m4:Only w w1 b:=⟨m2.os,m2.tape,m2.output,m2.size,m2.heap⟩
    obtain ⟨w2,n1,n2,n3⟩:=cpyB (P:=Try.prog) (t2:=43) (off:=0) (dlen:=len + 1) (k:=1) (ad:=⟨pb,po,none⟩) (us:=us) Try.underlying43 szWord m3 (by rw [hul,Nat.min_eq_left (by omega)]) rfl
     (fun j u hj=>(cell_of_heap (m4.heap _ (by rw [add_plain];exact hpb))).trans (q2 j u hj)) (by simp only [List.length_append,List.length_take,List.length_drop,hvl,hul] at hlr ⊢;omega) (VRs_cellV s5 s4)
    have o2:=m4.trans n2
    have el:((vs0 ++ rest).take 2 ++ vs0 ++ (vs0 ++ rest).drop (2 + vs0.length)).take 0 ++ us ++ ((vs0 ++ rest).take 2 ++ vs0 ++ (vs0 ++ rest).drop (2 + vs0.length)).drop (0 + us.length)=(us ++ vs0) ++ (vs0 ++ rest).drop (2 + vs0.length):=by
     have h2l:((vs0 ++ rest).take 2).length=2:=by rw [List.length_take];omega
     rw [List.take_zero,List.nil_append,Nat.zero_add,hul,List.append_assoc,List.drop_left' h2l,List.append_assoc]
    rw [el] at n3
    have hov:∀ lb cb,(callFunc 83 #[.slice (some ⟨pb,po,none⟩) 1 xcap,.slice (some ⟨b,2,none⟩) lb cb]).run Try.prog w=.ok (.value (.bool false)) w:=fun lb cb=>by
     obtain ⟨u0,hu0⟩:∃ u,us[0]?=some u:=⟨_,List.getElem?_eq_getElem (by omega)⟩
     obtain ⟨tA,kA,a1,a2⟩:=shape_cell (q2 0 u0 hu0)
     obtain ⟨el,hel⟩:=k3
     have hsb:w.shape? b=some (el,(vs0 ++ rest).toArray.size):=by unfold World.shape?;rw [hel]
     rw [run_callFunc_extern Try.func83 (by kernel_rfl) (by kernel_rfl) (by kernel_rfl) (e:=Extern.SlicesOverlaps.overlaps #[43,43] #[4]) (by kernel_rfl),
      run_overlaps_mut w 43 4 60 Try.underlying43 2 Try.sizeOf60 ⟨pb,po,none⟩ ⟨b,2,none⟩ 1 xcap lb cb hpb tA _ kA _ a1 hsb a2 (BL.frozen ⟨el,hel⟩ _) (BL.frozen ⟨el,hel⟩ _)]
     rfl
    refine (ins_shift b len cap ⟨pb,po,none⟩ xcap w w1 w2 _ _ (by omega) hroom (by omega) hov (fun ty dc sc=>m1 ty dc sc) (fun ty dc=>n1 ty dc xcap)).mono ?_
    rintro e w3 ⟨rfl,rfl⟩
    obtain ⟨G',r1,r2,r3,r4⟩:=hR0.mkmut (b:=b) (mu':=upd s.mu g none) (fun id e=>by rw [k2] at e;cases e) (fun i e=>by rw [k2] at e;cases e) (fun t x e=>by rw [k2] at e;cases e) (fun g x e=>by rw [k2] at e;cases e) hno
     (fun hb hf=>by rw [k2] at hf;cases hf) o2 n3 (VRs_append s5 k4) hnn hcc (fun g' cs' hg=>⟨(hmu g' cs' hg).1,by rw [k2];intro e;cases e;exact (hmu g cs' hg).2 rfl⟩)
    refine post_of r1 ?_ J
    simp only [VR]
    refine ⟨b,_,cap,J,r4,hroom,?_⟩
    simp only [List.length_append,List.length_drop,hul,hvl] at k7 ⊢
    omega
   have hgrow:cap < len + 1:=by omega
   obtain ⟨i0,hi0,z,hz0,hzs,hzb,hzc⟩:∃ i0,Try.prog.info? 60=some i0 ∧ ∃ z,i0.zero=some z ∧ i0.size=2 ∧ i0.bytes=16 ∧ z.cells.size=2:=wordInfo
   have hold:(Builtin.firstCells i0.size 0 (.slice (some ⟨b,0,none⟩) 0 cap)).run Try.prog w.drew=.ok ([]:List Value).toArray w.drew:=by simp [Builtin.firstCells,loadCells,loadCellsFrom]
   have hrun:=fun ty=>Lib.run_append_grow_zeros (P:=Try.prog) w 43 3 ty 60 i0 z .i64 .i64 Try.underlying43 Try.underlying3 hi0 hz0 (some ⟨b,0,none⟩) 0 cap [] hold (len + 1) (by omega) (by omega) (by omega) (by omega) (by rw [hzb];omega) (by rw [hzb];exact growslice_fits (by omega) (by omega))
   have hgc:=grownCap_ge w (0 + (len + 1)) cap 60
   rw [Nat.zero_add] at hrun hgc
   obtain ⟨gc,hgce⟩:∃ gc,grownCap w (len + 1) cap 60=gc:=⟨_,rfl⟩
   rw [hgce] at hrun hgc
   obtain ⟨ROW,hROW⟩:∃ ROW:List Value,(([]:List Value).toArray ++ Builtin.zeroCells z.cells (len + 1) ++ Builtin.zeroCells z.cells (gc - (len + 1)))=ROW.toArray:=⟨(([]:List Value).toArray ++ Builtin.zeroCells z.cells (len + 1) ++ Builtin.zeroCells z.cells (gc - (len + 1))).toList,by simp⟩
   have hRl:ROW.length=gc * 2:=by
    have:=congrArg Array.size hROW
    simp only [Array.size_append,size_zeroCells,hzc,List.size_toArray,List.length_nil] at this
    omega
   rw [hROW] at hrun
   obtain ⟨W0,hW0⟩:∃ W0,W0=w.drew.alloc (.cells ROW.toArray 60):=⟨_,rfl⟩
   rw [← hW0] at hrun
   have hg:Grew w W0:=by rw [hW0];exact grew_push w _ _
   have hB0:BL W0 w.heap.size ROW:=by rw [hW0];exact ⟨60,push_at w _ _⟩
   have hbl:b < w.heap.size:=k3.lt
   have hpl:pb < w.heap.size:=by
    obtain ⟨u0,hu0⟩:∃ u,us[0]?=some u:=⟨_,List.getElem?_eq_getElem (by omega)⟩
    exact block_lt_of_cell (q2 0 u0 hu0)
   obtain ⟨W1,m1,m2,m3⟩:=cpyB (P:=Try.prog) (t2:=43) (off:=0) (dlen:=len + 1) (k:=1) (ad:=⟨pb,po,none⟩) (us:=us) Try.underlying43 szWord hB0 (by rw [hul,Nat.min_eq_left (by omega)]) rfl
    (fun j u hj=>(cell_of_heap (hg.heap _ (by rw [add_plain];exact hpl))).trans (q2 j u hj)) (by omega) (VRs_cellV s5 s4)
   have hd1:Only W0 W1.drew w.heap.size:=⟨m2.os,m2.tape,m2.output,m2.size,m2.heap⟩
   have m3d:BL W1.drew w.heap.size (ROW.take 0 ++ us ++ ROW.drop (0 + us.length)):=m3
   have k3w:BL W1.drew b (vs0 ++ rest):=(k3.of_heap (hg.heap b hbl)).of_heap (hd1.heap b (by omega))
   obtain ⟨W2,n1,n2,n3⟩:=cpyB (P:=Try.prog) (t2:=43) (off:=2) (dlen:=len) (k:=len) (ad:=⟨b,0,none⟩) (us:=vs0) Try.underlying43 szWord m3d (by rw [hvl,Nat.min_self]) rfl
    (fun j u hj=>by
      rw [add_plain,k3w.cell,Nat.zero_add,List.getElem?_append_left]
      ·exact hj
      rcases Nat.lt_or_ge j vs0.length with h' | h'
      ·exact h'
      rw [List.getElem?_eq_none h'] at hj;cases hj) (by simp only [List.length_append,List.length_take,List.length_drop,hvl,hul];omega) (VRs_cellV k4 k6)
   have o2:=hd1.trans n2
   have el:(ROW.take 0 ++ us ++ ROW.drop (0 + us.length)).take 2 ++ vs0 ++ (ROW.take 0 ++ us ++ ROW.drop (0 + us.length)).drop (2 + vs0.length)=(us ++ vs0) ++ (ROW.drop 2).drop vs0.length:=by
    rw [List.take_zero,List.nil_append,Nat.zero_add,hul,List.take_left' hul,← List.drop_drop,List.drop_left' hul]
   rw [el] at n3
   refine (ins_grow b len cap w.heap.size gc ⟨pb,po,none⟩ xcap w W0 W1 W2 _ _ (by omega) d2 hgrow hgc (by omega) (fun ty=>hrun ty) (fun ty dc=>m1 ty dc xcap) (fun ty dc sc=>n1 ty dc sc)).mono ?_
   rintro e w3 ⟨rfl,rfl⟩
   obtain ⟨f1,f2⟩:=hw.nofree (Nat.le_refl w.heap.size)
   obtain ⟨G',r1,r2,r3,r4⟩:=(hR0.grow hg).mkmut (b:=w.heap.size) (mu':=upd s.mu g none) (fun id e=>by rw [f1] at e;cases e) (fun i e=>by rw [f1] at e;cases e) (fun t x e=>by rw [f1] at e;cases e) (fun g x e=>by rw [f1] at e;cases e) f2
    (fun hb=>absurd hb (Nat.lt_irrefl _)) o2 n3 (VRs_append s5 k4) hnn hcc (fun g' cs' hg=>⟨(hmu g' cs' hg).1,by rw [f1];simp⟩)
   refine post_of r1 ?_ J
   simp only [VR]
   refine ⟨w.heap.size,_,gc,J,r4,hgc,?_⟩
   simp only [List.length_append,List.length_drop,hul,hvl,hRl]
   omega
  cases he
 cases he
end Go.Sim.W
namespace Go.Proofs
open Go.Shelf Go.Sim
def Try.laysM144_ren:Go.Shelf.Ren:=⟨fun | 144=>78 | 143=>85 | 219=>87 | 217=>89 | 225=>90 | 224=>91 | 267=>92 | 266=>93 | 314=>94 | n=>n,fun | 9=>9 | 4=>4 | 3=>3 | 5=>5 | 46=>120 | 146=>122 | 51=>121 | n=>n,fun | 1=>0 | n=>n⟩
theorem Try.laysM144:Go.Proofs.LaysM.n144 Try.prog Try.laysM144_ren:={
 mixed:=by kernel_rfl
 f143:=Try.func85.trans (congrArg some (by kernel_rfl))
 f144:=Try.func78.trans (congrArg some (by kernel_rfl))
 f217:=Try.func89.trans (congrArg some (by kernel_rfl))
 f219:=Try.func87.trans (congrArg some (by kernel_rfl))
 f224:=Try.func91.trans (congrArg some (by kernel_rfl))
 f225:=Try.func90.trans (congrArg some (by kernel_rfl))
 f266:=Try.func93.trans (congrArg some (by kernel_rfl))
 f267:=Try.func92.trans (congrArg some (by kernel_rfl))
 f314:=Try.func94.trans (congrArg some (by kernel_rfl))
 t3:=Try.underlying3
 a3:=Try.isAgg3
 z3:=Try.sizeOf3
 v3:=Try.zeroValue3
 t4:=Try.underlying4
 a4:=Try.isAgg4
 z4:=Try.sizeOf4
 v4:=Try.zeroValue4
 t5:=Try.underlying5
 a5:=Try.isAgg5
 z5:=Try.sizeOf5
 v5:=Try.zeroValue5
 t9:=Try.underlying9
 a9:=Try.isAgg9
 z9:=Try.sizeOf9
 v9:=Try.zeroValue9
 t46:=Try.underlying120
 a46:=Try.isAgg120
 z46:=Try.sizeOf120
 v46:=Try.zeroValue120
 t51:=Try.underlying121
 a51:=Try.isAgg121
 z51:=Try.sizeOf121
 v51:=Try.zeroValue121
 t146:=Try.underlying122
 a146:=Try.isAgg122
 z146:=Try.sizeOf122
 v146:=Try.zeroValue122
 g1:=by kernel_rfl
 i3:=by kernel_rfl
 i4:=by kernel_rfl
 i5:=by kernel_rfl
 i9:=by kernel_rfl
 i46:=by kernel_rfl
 i51:=by kernel_rfl
 i146:=by kernel_rfl
 m1:=by kernel_rfl
 s1_3:=fun w h=>Go.Proofs.cell_of_shapedOpen_int (zero:=#[.int .i64 0]) (t:=3) h (Odt (by kernel_rfl)) (by kernel_rfl) rfl (by kernel_rfl) (by kernel_rfl) Try.underlying3 }
end Go.Proofs
namespace Go.Sim.W
open Go Go.Sim Go.Proofs
theorem maxLen_cell (w:World) (h:w.ShapedOpen Go.Proofs.Try.prog):∃ m,w.cell? ⟨0,0,none⟩=some (.int .i64 m):=Try.laysM144.s1_3 w h
theorem contains_calls (s sub:ByteArray) (m:Int) (w:World) (hs:s.size < 4294967281) (hm:w.cell? ⟨0,0,none⟩=some (.int .i64 m)) :
 Calls Go.Proofs.Try.prog N78_ #[.string s,.string sub] w fun e w'=>e=.returned (.bool (Lib.contains s.data.toList sub.data.toList)) ∧ w'=w :=
 Any.strings_Contains { Try.laysM144 with } s sub m w hs hm
theorem enters_contains:Enters Go.Proofs.Try.prog N78_:=⟨_,Try.func78,by kernel_rfl,Odt (by kernel_rfl)⟩
theorem contains_ok:OvOK Go.Proofs.Try.prog N78_ containsOv:=by
 intro args s res s' he G w vs hw hB hv hn
 unfold containsOv at he
 split at he
 ·rename_i a b
  split at he
  ·rename_i hc
   simp only [Oie,Pie] at he
   obtain ⟨rfl,rfl⟩:=he
   obtain ⟨hl,hq⟩:=hc
   have hm:∃ m,w.cell? ⟨0,0,none⟩=some (.int .i64 m):=by
    unfold hasInt at hq
    split at hq
    ·rename_i m hQ
     obtain ⟨⟨v,h1,h2⟩,_⟩:=hw.claim _ _ _ (hw.glb _ _ _ hQ)
     unfold VR at h2
     obtain ⟨rfl,_⟩:=h2
     exact ⟨m,h1⟩
    cases hq
   obtain ⟨m,hm⟩:=hm
   simp only [VRs] at hv
   obtain ⟨v1,r1,rfl,h1,v2,r2,rfl,h2,rfl⟩:=hv
   unfold VR at h1 h2
   obtain ⟨rfl,_⟩:=h1
   obtain ⟨rfl,_⟩:=h2
   refine ⟨enters_contains,(contains_calls a b m w hl hm).mono ?_⟩
   rintro e w' ⟨rfl,rfl⟩
   exact ⟨[.bool _],G,rfl,hw,hB,by simp only [VRs];exact ⟨_,[],rfl,(by unfold VR;exact ⟨rfl,rfl⟩),rfl⟩,rfl,Pres.refl _ _⟩
  cases he
 cases he
theorem all_ok:tab.all (fun x=>mF Try.prog x.1 x.2)=true:=by kernel_rfl
theorem mix_ok:Try.prog.follows .mixedOrders=true:=by kernel_rfl
theorem cloneI_ok:OvOK Try.prog N28_ (cloneOv 1 8):=clone_ok mix_ok (by kernel_rfl) (by kernel_rfl) Vm.clone_nilI Vm.clone_empI
theorem cloneW_ok:OvOK Try.prog N29_ (cloneOv 2 16):=clone_ok mix_ok (by kernel_rfl) (by kernel_rfl) Vm.clone_nilW Vm.clone_empW
theorem enters_has:Enters Try.prog N61_:=⟨_,Try.func61,by kernel_rfl,Odt (by kernel_rfl)⟩
theorem has_ok:OvOK Try.prog N61_ hasOv:=by
 intro args s res s' he G w vs hw hB hv hn
 unfold hasOv at he
 split at he
 ·rename_i nm f r
  split at he
  ·rename_i ha
   cases he
   refine ⟨enters_has,?_⟩
   simp only [VRs] at hv
   obtain ⟨v1,r1,rfl,h1,v2,r2,rfl,h2,rfl⟩:=hv
   simp only [VR] at h1 h2
   obtain ⟨us,rfl,h1,_⟩:=h1
   simp only [VRs,VR] at h1
   obtain ⟨u1,t1,rfl,⟨rfl,_⟩,u2,t2,rfl,⟨rfl,_⟩,rfl⟩:=h1
   obtain ⟨rfl,_⟩:=h2
   refine (Vm.has_walk nm f r (fun b hb=>Odt (List.all_eq_true.1 ha b hb)) w).mono ?_
   rintro e w' ⟨rfl,w1,g1,g2⟩
   have hR:=(((RR.start (n:=0) (args:=[]) (vs:=[]) hw hB rfl (Nat.le_refl 0)).1.grow g1).grow g2)
   exact ⟨[.bool _],G,rfl,hR.wi,hB,by simp only [VRs];exact ⟨_,[],rfl,(by unfold VR;exact ⟨rfl,rfl⟩),rfl⟩,rfl,hR.pres⟩
  cases he
 cases he
theorem pg_ok:PgOK Try.prog p:=by
 refine ⟨mix_ok,?_,?_⟩
 ·intro f fn h
  have h':fnOf f=some fn:=h
  unfold fnOf at h'
  obtain ⟨x,hx,rfl⟩:=Option.map_eq_some_iff.1 h'
  have h1:=List.find?_some hx
  have h2:=List.mem_of_find?_eq_some hx
  have e:x.1=f:=by simpa using h1
  rw [← e]
  exact .inl (List.all_eq_true.1 all_ok x h2)
 intro f g h
 have h':ov f=some g:=h
 unfold ov at h'
 split at h'
 ·rename_i e;subst e;cases h';exact contains_ok
 split at h'
 ·rename_i e;subst e;cases h';exact has_ok
 split at h'
 ·rename_i e;subst e;cases h';exact cloneI_ok
 split at h'
 ·rename_i e;subst e;cases h';exact cloneW_ok
 split at h'
 ·rename_i e;subst e;cases h';exact insert_ok
 cases h'
end Go.Sim.W
