/-
  A part of a proof: see the last text of this claim.
-/
import Derived.Test.YtfejjomhjeioaaaGreatDoorPB
import Derived.Test.YtfejjomhjeioaaaGreatDoorProg
import Derived.Tactics
import Derived.Tactics2
import Derived.StillTactics
import Derived.Laws.RangeString
import Derived.Laws.RangeAny
import Derived.Laws.Alloc2
import Derived.Laws.Cells
import Derived.Laws.Strings
import Derived.Laws.World
import Derived.Laws.Small
import Derived.Laws.Append
import Derived.Laws.AppendOwn
import Derived.Laws.Build
import Derived.Laws.Slices
import Derived.Laws.Pointers
import Derived.FnLit
import Derived.LoopTactic
import Derived.Shelf.LaysM
import Derived.Shelf.Strings.Shaped
import Derived.Test.YtfejjomhjeioaaaGreatDoorPD
set_option linter.unusedVariables false
set_option linter.unusedSimpArgs false
namespace Go.Sim.Du
open Go Go.Sim Go.Proofs
theorem snil_nil {P:Program} {t e:Nat} (hu:P.underlying t=some (.slice e)) (w:World):(binOp .eql t (.slice none 0 0) (.slice none 0 0)).run P w=.ok (.bool true) w:=by
 have heq:∀ n,(Op.equalIn (n + 1) t (.slice none 0 0) (.slice none 0 0)).run P w=.ok true w:=fun n=>by simp [Op.equalIn,run_underlying hu]
 simp [binOp,Op.equal,Op.maxDepth,heq]
theorem snil_some {P:Program} {t e:Nat} (hu:P.underlying t=some (.slice e)) (a:Addr) (n c:Nat) (w:World):(binOp .eql t (.slice (some a) n c) (.slice none 0 0)).run P w=.ok (.bool false) w:=by
 have heq:∀ k,(Op.equalIn (k + 1) t (.slice (some a) n c) (.slice none 0 0)).run P w=.ok false w:=fun n=>by simp [Op.equalIn,run_underlying hu]
 simp [binOp,Op.equal,Op.maxDepth,heq]
set_option maxRecDepth 100000
theorem clone_nilI (w:World):Calls Tryz.prog 29 #[.slice none 0 0] w fun e w'=>e=.returned (.slice none 0 0) ∧ w'=w:=by
 have h1:=snil_nil (P:=Tryz.prog) Tryz.underlying40
 go_enter Tryz.func29,Tryz.ntmps29
 go_wp2
 go_ret
 exact ⟨rfl,rfl⟩
theorem clone_empI (w:World) (a:Addr) (c:Nat):Calls Tryz.prog 29 #[.slice (some a) 0 c] w fun e w'=>e=.returned (.slice (some ⟨w.heap.size,0,none⟩) 0 0) ∧ Grew w w':=by
 have h1:=snil_some (P:=Tryz.prog) Tryz.underlying40 a 0 c
 go_enter Tryz.func29,Tryz.ntmps29
 go_wp2
 go_ret
 exact ⟨rfl,grew_push w _ w.drawn⟩
end Go.Sim.Du
namespace Go.Proofs
open Go.Shelf
def Tryz.laysM144_ren:Go.Shelf.Ren:=⟨fun | 144=>105 | 143=>147 | 219=>165 | 217=>171 | 225=>172 | 224=>173 | 267=>174 | 266=>180 | 314=>181 | n=>n,fun | 9=>9 | 4=>4 | 3=>3 | 5=>5 | 46=>200 | 146=>209 | 51=>208 | n=>n,fun | 1=>2 | n=>n⟩
theorem Tryz.laysM144:Go.Proofs.LaysM.n144 Tryz.prog Tryz.laysM144_ren:={
 mixed:=by kernel_rfl
 f143:=Tryz.func147.trans (congrArg some (by kernel_rfl))
 f144:=Tryz.func105.trans (congrArg some (by kernel_rfl))
 f217:=Tryz.func171.trans (congrArg some (by kernel_rfl))
 f219:=Tryz.func165.trans (congrArg some (by kernel_rfl))
 f224:=Tryz.func173.trans (congrArg some (by kernel_rfl))
 f225:=Tryz.func172.trans (congrArg some (by kernel_rfl))
 f266:=Tryz.func180.trans (congrArg some (by kernel_rfl))
 f267:=Tryz.func174.trans (congrArg some (by kernel_rfl))
 f314:=Tryz.func181.trans (congrArg some (by kernel_rfl))
 t3:=Tryz.underlying3
 a3:=Tryz.isAgg3
 z3:=Tryz.sizeOf3
 v3:=Tryz.zeroValue3
 t4:=Tryz.underlying4
 a4:=Tryz.isAgg4
 z4:=Tryz.sizeOf4
 v4:=Tryz.zeroValue4
 t5:=Tryz.underlying5
 a5:=Tryz.isAgg5
 z5:=Tryz.sizeOf5
 v5:=Tryz.zeroValue5
 t9:=Tryz.underlying9
 a9:=Tryz.isAgg9
 z9:=Tryz.sizeOf9
 v9:=Tryz.zeroValue9
 t46:=Tryz.underlying200
 a46:=Tryz.isAgg200
 z46:=Tryz.sizeOf200
 v46:=Tryz.zeroValue200
 t51:=Tryz.underlying208
 a51:=Tryz.isAgg208
 z51:=Tryz.sizeOf208
 v51:=Tryz.zeroValue208
 t146:=Tryz.underlying209
 a146:=Tryz.isAgg209
 z146:=Tryz.sizeOf209
 v146:=Tryz.zeroValue209
 g1:=by kernel_rfl
 i3:=by kernel_rfl
 i4:=by kernel_rfl
 i5:=by kernel_rfl
 i9:=by kernel_rfl
 i46:=by kernel_rfl
 i51:=by kernel_rfl
 i146:=by kernel_rfl
 m1:=by kernel_rfl
 s1_3:=fun w h=>Go.Proofs.cell_of_shapedOpen_int (zero:=#[.int .i64 0]) (t:=3) h (of_decide_eq_true (by kernel_rfl)) (by kernel_rfl) rfl (by kernel_rfl) (by kernel_rfl) Tryz.underlying3 }
end Go.Proofs
namespace Go.Sim.Du
open Go Go.Sim Go.Proofs
theorem maxLen_cell (w:World) (h:w.ShapedOpen Go.Proofs.Tryz.prog):∃ m,w.cell? ⟨2,0,none⟩=some (.int .i64 m):=Tryz.laysM144.s1_3 w h
theorem contains_calls (s sub:ByteArray) (m:Int) (w:World) (hs:s.size < 4294967281) (hm:w.cell? ⟨2,0,none⟩=some (.int .i64 m)) :
 Calls Go.Proofs.Tryz.prog N105_ #[.string s,.string sub] w fun e w'=>e=.returned (.bool (Lib.contains s.data.toList sub.data.toList)) ∧ w'=w :=
 Any.strings_Contains { Tryz.laysM144 with } s sub m w hs hm
theorem enters_contains:Enters Go.Proofs.Tryz.prog N105_:=⟨_,Tryz.func105,by kernel_rfl,of_decide_eq_true (by kernel_rfl)⟩
theorem contains_ok:OvOK Go.Proofs.Tryz.prog N105_ containsOv:=by
 intro args s res s' he G w vs hw hB hv hn
 unfold containsOv at he
 split at he
 ·rename_i a b
  split at he
  ·rename_i hc
   simp only [Option.some.injEq,Prod.mk.injEq] at he
   obtain ⟨rfl,rfl⟩:=he
   obtain ⟨hl,hq⟩:=hc
   have hm:∃ m,w.cell? ⟨2,0,none⟩=some (.int .i64 m):=by
    unfold hasInt at hq
    split at hq
    ·rename_i m hQ
     obtain ⟨⟨v,h1,h2⟩,_⟩:=hw.claim _ _ _ (hw.glb _ _ _ hQ)
     unfold VR at h2
     obtain ⟨rfl,_⟩:=h2
     exact ⟨m,h1⟩
    cases hq
   obtain ⟨m,hm⟩:=hm
   simp only [VRs] at hv
   obtain ⟨v1,r1,rfl,h1,v2,r2,rfl,h2,rfl⟩:=hv
   unfold VR at h1 h2
   obtain ⟨rfl,_⟩:=h1
   obtain ⟨rfl,_⟩:=h2
   refine ⟨enters_contains,(contains_calls a b m w hl hm).mono ?_⟩
   rintro e w' ⟨rfl,rfl⟩
   exact ⟨[.bool _],G,rfl,hw,hB,by simp only [VRs];exact ⟨_,[],rfl,(by unfold VR;exact ⟨rfl,rfl⟩),rfl⟩,rfl,Pres.refl _ _⟩
  cases he
 cases he
def handB (n:Nat):Bool:=n == N51_
theorem all_ok:tab.all (fun x=>handB x.1 || mF Tryz.prog x.1 x.2)=true:=by kernel_rfl
theorem mix_ok:Tryz.prog.follows .mixedOrders=true:=by kernel_rfl
theorem cloneI_ok:OvOK Tryz.prog N29_ (cloneOv 1 8):=clone_ok mix_ok (by kernel_rfl) (by kernel_rfl) clone_nilI clone_empI
theorem dv0_ok (np:Nat):DvOK Tryz.prog N51_ np:=handler_ok (by kernel_rfl)
theorem pg_ok:PgOK Tryz.prog p:=by
 refine ⟨mix_ok,?_,?_⟩
 ·intro f fn h
  have h':fnOf f=some fn:=h
  unfold fnOf at h'
  obtain ⟨x,hx,rfl⟩:=Option.map_eq_some_iff.1 h'
  have h1:=List.find?_some hx
  have h2:=List.mem_of_find?_eq_some hx
  have e:x.1=f:=by simpa using h1
  rw [← e]
  have h3:=List.all_eq_true.1 all_ok x h2
  by_cases hb:handB x.1=true
  ·refine .inr ?_
   have h4:x ∈ tab.filter (fun x=>handB x.1):=List.mem_filter.2 ⟨h2,hb⟩
   rw [show tab.filter (fun x=>handB x.1)=[(N51_,⟨2,.ret,[]⟩)] from rfl] at h4
   simp only [List.mem_cons,List.not_mem_nil,or_false] at h4
   subst h4
   exact ⟨rfl,rfl,dv0_ok _⟩
  rw [Bool.eq_false_iff.2 hb,Bool.false_or] at h3
  exact .inl h3
 intro f g h
 have h':ov f=some g:=h
 unfold ov at h'
 split at h'
 ·rename_i e;subst e;cases h';exact contains_ok
 skip
 split at h'
 ·rename_i e;subst e;cases h';exact cloneI_ok
 skip
 split at h'
 ·cases h';intro args s res s' he;cases he
 cases h'
end Go.Sim.Du
