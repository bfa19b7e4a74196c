/-
  A part of a proof: see the last text of this claim.
-/
import Derived.Shelf.LaysM
import Derived.Shelf.Strings.Shaped
import Derived.Test.YtponmhjjmbhocaaPC
import Derived.Test.YtponmhjjmbhocaaPD
import Derived.Test.YtponmhjjmbhocaaProg
import Derived.Tactics
import Derived.Tactics2
import Derived.StillTactics
import Derived.Laws.Alloc2
import Derived.Laws.Cells
import Derived.Laws.World
import Derived.Laws.Small
import Derived.Laws.Append
import Derived.Laws.AppendOwn
import Derived.Laws.Build
import Derived.Laws.Slices
import Derived.Laws.Pointers
import Derived.FnLit
import Derived.LoopTactic
set_option linter.unusedVariables false
set_option linter.unusedSimpArgs false
namespace Go.Proofs
open Go.Shelf Go.Sim
def Try.laysM144_ren:Go.Shelf.Ren:=⟨fun | 144=>48 | 143=>68 | 219=>77 | 217=>78 | 225=>79 | 224=>80 | 267=>81 | 266=>82 | 314=>83 | n=>n,fun | 9=>9 | 4=>4 | 3=>3 | 5=>5 | 46=>135 | 146=>137 | 51=>136 | n=>n,fun | 1=>0 | n=>n⟩
theorem Try.laysM144:Go.Proofs.LaysM.n144 Try.prog Try.laysM144_ren:={
 mixed:=by kernel_rfl
 f143:=Try.func68.trans (congrArg some (by kernel_rfl))
 f144:=Try.func48.trans (congrArg some (by kernel_rfl))
 f217:=Try.func78.trans (congrArg some (by kernel_rfl))
 f219:=Try.func77.trans (congrArg some (by kernel_rfl))
 f224:=Try.func80.trans (congrArg some (by kernel_rfl))
 f225:=Try.func79.trans (congrArg some (by kernel_rfl))
 f266:=Try.func82.trans (congrArg some (by kernel_rfl))
 f267:=Try.func81.trans (congrArg some (by kernel_rfl))
 f314:=Try.func83.trans (congrArg some (by kernel_rfl))
 t3:=Try.underlying3
 a3:=Try.isAgg3
 z3:=Try.sizeOf3
 v3:=Try.zeroValue3
 t4:=Try.underlying4
 a4:=Try.isAgg4
 z4:=Try.sizeOf4
 v4:=Try.zeroValue4
 t5:=Try.underlying5
 a5:=Try.isAgg5
 z5:=Try.sizeOf5
 v5:=Try.zeroValue5
 t9:=Try.underlying9
 a9:=Try.isAgg9
 z9:=Try.sizeOf9
 v9:=Try.zeroValue9
 t46:=Try.underlying135
 a46:=Try.isAgg135
 z46:=Try.sizeOf135
 v46:=Try.zeroValue135
 t51:=Try.underlying136
 a51:=Try.isAgg136
 z51:=Try.sizeOf136
 v51:=Try.zeroValue136
 t146:=Try.underlying137
 a146:=Try.isAgg137
 z146:=Try.sizeOf137
 v146:=Try.zeroValue137
 g1:=by kernel_rfl
 i3:=by kernel_rfl
 i4:=by kernel_rfl
 i5:=by kernel_rfl
 i9:=by kernel_rfl
 i46:=by kernel_rfl
 i51:=by kernel_rfl
 i146:=by kernel_rfl
 m1:=by kernel_rfl
 s1_3:=fun w h=>Go.Proofs.cell_of_shapedOpen_int (zero:=#[.int .i64 0]) (t:=3) h (of_decide_eq_true (by kernel_rfl)) (by kernel_rfl) rfl (by kernel_rfl) (by kernel_rfl) Try.underlying3 }
end Go.Proofs
namespace Go.Sim.Kd
open Go Go.Sim Go.Proofs
theorem maxLen_cell (w:World) (h:w.ShapedOpen Go.Proofs.Try.prog):∃ m,w.cell? ⟨0,0,none⟩=some (.int .i64 m):=Try.laysM144.s1_3 w h
theorem contains_calls (s sub:ByteArray) (m:Int) (w:World) (hs:s.size < 4294967281) (hm:w.cell? ⟨0,0,none⟩=some (.int .i64 m)) :
 Calls Go.Proofs.Try.prog N48_ #[.string s,.string sub] w fun e w'=>e=.returned (.bool (Lib.contains s.data.toList sub.data.toList)) ∧ w'=w :=
 Any.strings_Contains { Try.laysM144 with } s sub m w hs hm
theorem enters_contains:Enters Go.Proofs.Try.prog N48_:=⟨_,Try.func48,by kernel_rfl,of_decide_eq_true (by kernel_rfl)⟩
theorem contains_ok:OvOK Go.Proofs.Try.prog N48_ containsOv:=by
 intro args s res s' he G w vs hw hB hv hn
 unfold containsOv at he
 split at he
 ·rename_i a b
  split at he
  ·rename_i hc
   simp only [Option.some.injEq,Prod.mk.injEq] at he
   obtain ⟨rfl,rfl⟩:=he
   obtain ⟨hl,hq⟩:=hc
   have hm:∃ m,w.cell? ⟨0,0,none⟩=some (.int .i64 m):=by
    unfold hasInt at hq
    split at hq
    ·rename_i m hQ
     obtain ⟨⟨v,h1,h2⟩,_⟩:=hw.claim _ _ _ (hw.glb _ _ _ hQ)
     unfold VR at h2
     obtain ⟨rfl,_⟩:=h2
     exact ⟨m,h1⟩
    cases hq
   obtain ⟨m,hm⟩:=hm
   simp only [VRs] at hv
   obtain ⟨v1,r1,rfl,h1,v2,r2,rfl,h2,rfl⟩:=hv
   unfold VR at h1 h2
   obtain ⟨rfl,_⟩:=h1
   obtain ⟨rfl,_⟩:=h2
   refine ⟨enters_contains,(contains_calls a b m w hl hm).mono ?_⟩
   rintro e w' ⟨rfl,rfl⟩
   exact ⟨[.bool _],G,rfl,hw,hB,by simp only [VRs];exact ⟨_,[],rfl,(by unfold VR;exact ⟨rfl,rfl⟩),rfl⟩,rfl,Pres.refl _ _⟩
  cases he
 cases he
theorem snil_nil {P:Program} {t e:Nat} (hu:P.underlying t=some (.slice e)) (w:World):(binOp .eql t (.slice none 0 0) (.slice none 0 0)).run P w=.ok (.bool true) w:=by
 have heq:∀ n,(Op.equalIn (n + 1) t (.slice none 0 0) (.slice none 0 0)).run P w=.ok true w:=fun n=>by simp [Op.equalIn,run_underlying hu]
 simp [binOp,Op.equal,Op.maxDepth,heq]
theorem snil_some {P:Program} {t e:Nat} (hu:P.underlying t=some (.slice e)) (a:Addr) (n c:Nat) (w:World):(binOp .eql t (.slice (some a) n c) (.slice none 0 0)).run P w=.ok (.bool false) w:=by
 have heq:∀ k,(Op.equalIn (k + 1) t (.slice (some a) n c) (.slice none 0 0)).run P w=.ok false w:=fun n=>by simp [Op.equalIn,run_underlying hu]
 simp [binOp,Op.equal,Op.maxDepth,heq]
set_option maxRecDepth 100000
theorem clone_nilI (w:World):Calls Try.prog 72 #[.slice none 0 0] w fun e w'=>e=.returned (.slice none 0 0) ∧ w'=w:=by
 have h1:=snil_nil (P:=Try.prog) Try.underlying26
 go_enter Try.func72,Try.ntmps72
 go_wp2
 go_ret
 exact ⟨rfl,rfl⟩
theorem clone_empI (w:World) (a:Addr) (c:Nat):Calls Try.prog 72 #[.slice (some a) 0 c] w fun e w'=>e=.returned (.slice (some ⟨w.heap.size,0,none⟩) 0 0) ∧ Grew w w':=by
 have h1:=snil_some (P:=Try.prog) Try.underlying26 a 0 c
 go_enter Try.func72,Try.ntmps72
 go_wp2
 go_ret
 exact ⟨rfl,grew_push w _ w.drawn⟩
theorem clone_nilB (w:World):Calls Try.prog 73 #[.slice none 0 0] w fun e w'=>e=.returned (.slice none 0 0) ∧ w'=w:=by
 have h1:=snil_nil (P:=Try.prog) Try.underlying76
 go_enter Try.func73,Try.ntmps73
 go_wp2
 go_ret
 exact ⟨rfl,rfl⟩
theorem clone_empB (w:World) (a:Addr) (c:Nat):Calls Try.prog 73 #[.slice (some a) 0 c] w fun e w'=>e=.returned (.slice (some ⟨w.heap.size,0,none⟩) 0 0) ∧ Grew w w':=by
 have h1:=snil_some (P:=Try.prog) Try.underlying76 a 0 c
 go_enter Try.func73,Try.ntmps73
 go_wp2
 go_ret
 exact ⟨rfl,grew_push w _ w.drawn⟩
theorem all_ok:tab.all (fun x=>mF Try.prog x.1 x.2)=true:=by kernel_rfl
theorem mix_ok:Try.prog.follows .mixedOrders=true:=by kernel_rfl
theorem cloneI_ok:OvOK Try.prog N72_ (cloneOv 1 8):=clone_ok mix_ok (by kernel_rfl) (by kernel_rfl) clone_nilI clone_empI
theorem cloneB_ok:OvOK Try.prog N73_ (cloneOv 1 1):=clone_ok mix_ok (by kernel_rfl) (by kernel_rfl) clone_nilB clone_empB
theorem pg_ok:PgOK Try.prog p:=by
 refine ⟨mix_ok,?_,?_⟩
 ·intro f fn h
  have h':fnOf f=some fn:=h
  unfold fnOf at h'
  obtain ⟨x,hx,rfl⟩:=Option.map_eq_some_iff.1 h'
  have h1:=List.find?_some hx
  have h2:=List.mem_of_find?_eq_some hx
  have e:x.1=f:=by simpa using h1
  rw [← e]
  exact .inl (List.all_eq_true.1 all_ok x h2)
 intro f g h
 have h':ov f=some g:=h
 unfold ov at h'
 split at h'
 ·rename_i e;subst e;cases h';exact contains_ok
 split at h'
 ·rename_i e;subst e;cases h';exact cloneI_ok
 split at h'
 ·rename_i e;subst e;cases h';exact cloneB_ok
 cases h'
end Go.Sim.Kd
