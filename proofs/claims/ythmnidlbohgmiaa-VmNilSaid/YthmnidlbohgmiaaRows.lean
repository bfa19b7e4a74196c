/-
  NARROWER THAN 'FOR EVERY INPUT', by the rows' own cells (each row's printed sentence says how): KindForms: loops · KindTypes: loops · KindOwn: loops · KindSubst: loops.
  DERIVED. THE GIVEN ROWS OF THIS SEAT. 7 by the template 'for every input the law returns true; each argument reads behind the call as it read before'; 0 by the template 'total and deterministic' (their statements: YthmnidlbohgmiaaTotals.lean).
  GIVEN WITH THE SEED: the statements are not yours to turn. If you find one false, say at which input.
  Laid BY PROGRAM, IN A SANDBOX (cutbox-rows.mjs): the forced cells as the released guide's own fill.sh prints them over the translation 67396137ced8fbab… (all of the seat's roots in one cut). By AI agents, Wed Nov 11 2026. No macro, syntax, notation, axiom, sorry.
-/
import Derived.Test.YthmnidlbohgmiaaChecked
import GoSem.Claim
import GoSem.ClaimJoined
import GoSem.ClaimMapViews
import Derived.JoinedTies
import Derived.KernelRfl
namespace Go.Proofs.Ythmnidlbohgmiaa
/- THE CELL 'sum', in the pinned program and in every row, IS THE sha256 OF THE DUMP (.gsa) THAT YthmnidlbohgmiaaProg.lean LOADS. Nothing in Lean hashes anything: it is a label: what it is worth is what the hold of that sum in a sandbox is worth. -/
noncomputable def Try.pinned : Pinned := { name := "ythmnidlbohgmiaa", sum := "67396137ced8fbab4a5f12561900776a2d07dbb5e4f35a790e708af37606f6ea", checked := Try.checked }
namespace Rows
def none {H : Type} : Left H := { results := [], args := [] }

/-- 'chiasmuslaw07.KindForms': WHATEVER THE INPUT: true; the input reads as it did. -/
def kindFormsSpec : ChangeSpec := { name := "kindForms", fn := fun _ => fun
  | [d] => { results := [.lit (.bool true)], args := [d] }
  | _ => none }
def kindFormsRow : OpenClaim := { program := "ythmnidlbohgmiaa", sum := "67396137ced8fbab4a5f12561900776a2d07dbb5e4f35a790e708af37606f6ea", func := "chiasmus/chiasmuslaw07.KindForms", spec := "kindForms", inPlace := ["internal/bytealg.IndexByteString", "internal/bytealg.IndexString"], unfollowed := true, recurses := true, named := ["internal/bytealg.MaxLen"], loops := true, plainKeys := false, apart := false }
def KindFormsSaid : Prop := kindFormsRow.holds Try.pinned (OpenSpec.ofChange kindFormsSpec)

/-- ITS FALSE NEIGHBOUR: 'it returns false'. Refute it at one input. -/
def kindFormsWrong : ChangeSpec := { name := "kindForms", fn := fun _ => fun
  | [d] => { results := [.lit (.bool false)], args := [d] }
  | _ => none }
def KindFormsWrongFalsely : Prop := kindFormsRow.holds Try.pinned (OpenSpec.ofChange kindFormsWrong)

/-- 'chiasmuslaw07.KindTypes': WHATEVER THE INPUT: true; the input reads as it did. -/
def kindTypesSpec : ChangeSpec := { name := "kindTypes", fn := fun _ => fun
  | [d1, d2, d3, d4, d5] => { results := [.lit (.bool true)], args := [d1, d2, d3, d4, d5] }
  | _ => none }
def kindTypesRow : OpenClaim := { program := "ythmnidlbohgmiaa", sum := "67396137ced8fbab4a5f12561900776a2d07dbb5e4f35a790e708af37606f6ea", func := "chiasmus/chiasmuslaw07.KindTypes", spec := "kindTypes", inPlace := ["internal/bytealg.IndexByteString", "internal/bytealg.IndexString"], unfollowed := true, recurses := true, named := ["internal/bytealg.MaxLen"], loops := true, plainKeys := false, apart := false }
def KindTypesSaid : Prop := kindTypesRow.holds Try.pinned (OpenSpec.ofChange kindTypesSpec)

/-- ITS FALSE NEIGHBOUR: 'it returns false'. Refute it at one input. -/
def kindTypesWrong : ChangeSpec := { name := "kindTypes", fn := fun _ => fun
  | [d1, d2, d3, d4, d5] => { results := [.lit (.bool false)], args := [d1, d2, d3, d4, d5] }
  | _ => none }
def KindTypesWrongFalsely : Prop := kindTypesRow.holds Try.pinned (OpenSpec.ofChange kindTypesWrong)

/-- 'chiasmuslaw07.KindOwn': WHATEVER THE INPUT: true; the input reads as it did. -/
def kindOwnSpec : ChangeSpec := { name := "kindOwn", fn := fun _ => fun
  | [d1, d2, d3, d4, d5] => { results := [.lit (.bool true)], args := [d1, d2, d3, d4, d5] }
  | _ => none }
def kindOwnRow : OpenClaim := { program := "ythmnidlbohgmiaa", sum := "67396137ced8fbab4a5f12561900776a2d07dbb5e4f35a790e708af37606f6ea", func := "chiasmus/chiasmuslaw07.KindOwn", spec := "kindOwn", inPlace := ["internal/bytealg.IndexByteString", "internal/bytealg.IndexString"], unfollowed := true, recurses := true, named := ["internal/bytealg.MaxLen"], loops := true, plainKeys := false, apart := false }
def KindOwnSaid : Prop := kindOwnRow.holds Try.pinned (OpenSpec.ofChange kindOwnSpec)

/-- ITS FALSE NEIGHBOUR: 'it returns false'. Refute it at one input. -/
def kindOwnWrong : ChangeSpec := { name := "kindOwn", fn := fun _ => fun
  | [d1, d2, d3, d4, d5] => { results := [.lit (.bool false)], args := [d1, d2, d3, d4, d5] }
  | _ => none }
def KindOwnWrongFalsely : Prop := kindOwnRow.holds Try.pinned (OpenSpec.ofChange kindOwnWrong)

/-- 'chiasmuslaw18.VmNil': WHATEVER THE INPUT: true; the input reads as it did. -/
def vmNilSpec : ChangeSpec := { name := "vmNil", fn := fun _ => fun
  | [] => { results := [.lit (.bool true)], args := [] }
  | _ => none }
def vmNilRow : OpenClaim := { program := "ythmnidlbohgmiaa", sum := "67396137ced8fbab4a5f12561900776a2d07dbb5e4f35a790e708af37606f6ea", func := "chiasmus/chiasmuslaw18.VmNil", spec := "vmNil", inPlace := ["slices.overlaps[chiasmus/api.Word]"], unfollowed := true, recurses := true, plainKeys := false, apart := false }
def VmNilSaid : Prop := vmNilRow.holds Try.pinned (OpenSpec.ofChange vmNilSpec)

/-- ITS FALSE NEIGHBOUR: 'it returns false'. Refute it at one input. -/
def vmNilWrong : ChangeSpec := { name := "vmNil", fn := fun _ => fun
  | [] => { results := [.lit (.bool false)], args := [] }
  | _ => none }
def VmNilWrongFalsely : Prop := vmNilRow.holds Try.pinned (OpenSpec.ofChange vmNilWrong)

/-- 'chiasmuslaw18.VmFuel': WHATEVER THE INPUT: true; the input reads as it did. -/
def vmFuelSpec : ChangeSpec := { name := "vmFuel", fn := fun _ => fun
  | [d1, d2, d3, d4, d5, d6] => { results := [.lit (.bool true)], args := [d1, d2, d3, d4, d5, d6] }
  | _ => none }
def vmFuelRow : OpenClaim := { program := "ythmnidlbohgmiaa", sum := "67396137ced8fbab4a5f12561900776a2d07dbb5e4f35a790e708af37606f6ea", func := "chiasmus/chiasmuslaw18.VmFuel", spec := "vmFuel", inPlace := ["internal/bytealg.IndexByteString", "internal/bytealg.IndexString", "slices.overlaps[chiasmus/api.Word]"], unfollowed := true, recurses := true, named := ["internal/bytealg.MaxLen"], plainKeys := false, apart := false }
def VmFuelSaid : Prop := vmFuelRow.holds Try.pinned (OpenSpec.ofChange vmFuelSpec)

/-- ITS FALSE NEIGHBOUR: 'it returns false'. Refute it at one input. -/
def vmFuelWrong : ChangeSpec := { name := "vmFuel", fn := fun _ => fun
  | [d1, d2, d3, d4, d5, d6] => { results := [.lit (.bool false)], args := [d1, d2, d3, d4, d5, d6] }
  | _ => none }
def VmFuelWrongFalsely : Prop := vmFuelRow.holds Try.pinned (OpenSpec.ofChange vmFuelWrong)

/-- 'chiasmuslaw07.KindSubst': WHATEVER THE INPUT: true; the input reads as it did. -/
def kindSubstSpec : ChangeSpec := { name := "kindSubst", fn := fun _ => fun
  | [d1, d2, d3, d4, d5, d6, d7] => { results := [.lit (.bool true)], args := [d1, d2, d3, d4, d5, d6, d7] }
  | _ => none }
def kindSubstRow : OpenClaim := { program := "ythmnidlbohgmiaa", sum := "67396137ced8fbab4a5f12561900776a2d07dbb5e4f35a790e708af37606f6ea", func := "chiasmus/chiasmuslaw07.KindSubst", spec := "kindSubst", inPlace := ["internal/bytealg.IndexByteString", "internal/bytealg.IndexString"], unfollowed := true, recurses := true, named := ["internal/bytealg.MaxLen"], loops := true, plainKeys := false, apart := false }
def KindSubstSaid : Prop := kindSubstRow.holds Try.pinned (OpenSpec.ofChange kindSubstSpec)

/-- ITS FALSE NEIGHBOUR: 'it returns false'. Refute it at one input. -/
def kindSubstWrong : ChangeSpec := { name := "kindSubst", fn := fun _ => fun
  | [d1, d2, d3, d4, d5, d6, d7] => { results := [.lit (.bool false)], args := [d1, d2, d3, d4, d5, d6, d7] }
  | _ => none }
def KindSubstWrongFalsely : Prop := kindSubstRow.holds Try.pinned (OpenSpec.ofChange kindSubstWrong)

/-- 'chiasmuslaw18.VmHidden': WHATEVER THE INPUT: true; the input reads as it did. -/
def vmHiddenSpec : ChangeSpec := { name := "vmHidden", fn := fun _ => fun
  | [d1, d2, d3, d4, d5, d6, d7, d8] => { results := [.lit (.bool true)], args := [d1, d2, d3, d4, d5, d6, d7, d8] }
  | _ => none }
def vmHiddenRow : OpenClaim := { program := "ythmnidlbohgmiaa", sum := "67396137ced8fbab4a5f12561900776a2d07dbb5e4f35a790e708af37606f6ea", func := "chiasmus/chiasmuslaw18.VmHidden", spec := "vmHidden", inPlace := ["internal/bytealg.IndexByteString", "internal/bytealg.IndexString", "slices.overlaps[chiasmus/api.Word]"], unfollowed := true, recurses := true, named := ["internal/bytealg.MaxLen"], plainKeys := false, apart := false }
def VmHiddenSaid : Prop := vmHiddenRow.holds Try.pinned (OpenSpec.ofChange vmHiddenSpec)

/-- ITS FALSE NEIGHBOUR: 'it returns false'. Refute it at one input. -/
def vmHiddenWrong : ChangeSpec := { name := "vmHidden", fn := fun _ => fun
  | [d1, d2, d3, d4, d5, d6, d7, d8] => { results := [.lit (.bool false)], args := [d1, d2, d3, d4, d5, d6, d7, d8] }
  | _ => none }
def VmHiddenWrongFalsely : Prop := vmHiddenRow.holds Try.pinned (OpenSpec.ofChange vmHiddenWrong)

/- THE SECOND FORM. 'bulk': how many values and letters a reading holds, each counted each time it is reached (what is shared counts as often as it is met; a slice's spare places count too). A statement '..UptoSaid' is the law's where the arguments, and the package variables that the reading takes, are together of bulk at most 1048576: NARROWER than '..Said'. Prove '..Said' where nothing that the law and all that it calls make is longer than what came in: it says more and counts as full. Else prove '..UptoSaid'. A law counts once. -/
mutual
def uptoBulk {H : Type} : DataW H → Nat
  | .lit (.string bytes) => bytes.length + 1
  | .lit _ => 1
  | .nil => 1
  | .ptr d => uptoBulk d + 1
  | .slice elems spare => uptoBulkAll elems + uptoBulkAll spare + 1
  | .agg parts => uptoBulkAll parts + 1
  | .iface _ d => uptoBulk d + 1
  | .map entries => uptoBulkEntries entries + 1
  | .held _ => 1
def uptoBulkAll {H : Type} : List (DataW H) → Nat
  | [] => 0
  | d :: r => uptoBulk d + uptoBulkAll r
def uptoBulkEntries {H : Type} : List (Lit × DataW H) → Nat
  | [] => 0
  | x :: r => uptoBulkEntry x + uptoBulkEntries r
def uptoBulkEntry {H : Type} : Lit × DataW H → Nat
  | (.string bytes, d) => bytes.length + uptoBulk d + 1
  | (_, d) => uptoBulk d + 1
 end
def uptoSmall : (H : Type) → List (DataW H) → Bool := fun _ ds => decide (uptoBulkAll ds ≤ 1048576)
def OpenSpec.upto (s : _root_.Go.ChangeSpec) : _root_.Go.OpenSpec := { _root_.Go.OpenSpec.ofChange s with cond := some uptoSmall }

/-- 'chiasmuslaw07.KindForms', WHERE WHAT IT READS IS OF BULK AT MOST 1048576: true; the input reads as it did. -/
def kindFormsUptoRow : OpenClaim := { program := "ythmnidlbohgmiaa", sum := "67396137ced8fbab4a5f12561900776a2d07dbb5e4f35a790e708af37606f6ea", func := "chiasmus/chiasmuslaw07.KindForms", spec := "kindForms", inPlace := ["internal/bytealg.IndexByteString", "internal/bytealg.IndexString"], unfollowed := true, recurses := true, named := ["internal/bytealg.MaxLen"], loops := true, plainKeys := false, apart := false, narrowed := true }
def KindFormsUptoSaid : Prop := kindFormsUptoRow.holds Try.pinned (OpenSpec.upto kindFormsSpec)

/-- 'chiasmuslaw07.KindTypes', WHERE WHAT IT READS IS OF BULK AT MOST 1048576: true; the input reads as it did. -/
def kindTypesUptoRow : OpenClaim := { program := "ythmnidlbohgmiaa", sum := "67396137ced8fbab4a5f12561900776a2d07dbb5e4f35a790e708af37606f6ea", func := "chiasmus/chiasmuslaw07.KindTypes", spec := "kindTypes", inPlace := ["internal/bytealg.IndexByteString", "internal/bytealg.IndexString"], unfollowed := true, recurses := true, named := ["internal/bytealg.MaxLen"], loops := true, plainKeys := false, apart := false, narrowed := true }
def KindTypesUptoSaid : Prop := kindTypesUptoRow.holds Try.pinned (OpenSpec.upto kindTypesSpec)

/-- 'chiasmuslaw07.KindOwn', WHERE WHAT IT READS IS OF BULK AT MOST 1048576: true; the input reads as it did. -/
def kindOwnUptoRow : OpenClaim := { program := "ythmnidlbohgmiaa", sum := "67396137ced8fbab4a5f12561900776a2d07dbb5e4f35a790e708af37606f6ea", func := "chiasmus/chiasmuslaw07.KindOwn", spec := "kindOwn", inPlace := ["internal/bytealg.IndexByteString", "internal/bytealg.IndexString"], unfollowed := true, recurses := true, named := ["internal/bytealg.MaxLen"], loops := true, plainKeys := false, apart := false, narrowed := true }
def KindOwnUptoSaid : Prop := kindOwnUptoRow.holds Try.pinned (OpenSpec.upto kindOwnSpec)

/-- 'chiasmuslaw18.VmNil', WHERE WHAT IT READS IS OF BULK AT MOST 1048576: true; the input reads as it did. -/
def vmNilUptoRow : OpenClaim := { program := "ythmnidlbohgmiaa", sum := "67396137ced8fbab4a5f12561900776a2d07dbb5e4f35a790e708af37606f6ea", func := "chiasmus/chiasmuslaw18.VmNil", spec := "vmNil", inPlace := ["slices.overlaps[chiasmus/api.Word]"], unfollowed := true, recurses := true, plainKeys := false, apart := false, narrowed := true }
def VmNilUptoSaid : Prop := vmNilUptoRow.holds Try.pinned (OpenSpec.upto vmNilSpec)

/-- 'chiasmuslaw18.VmFuel', WHERE WHAT IT READS IS OF BULK AT MOST 1048576: true; the input reads as it did. -/
def vmFuelUptoRow : OpenClaim := { program := "ythmnidlbohgmiaa", sum := "67396137ced8fbab4a5f12561900776a2d07dbb5e4f35a790e708af37606f6ea", func := "chiasmus/chiasmuslaw18.VmFuel", spec := "vmFuel", inPlace := ["internal/bytealg.IndexByteString", "internal/bytealg.IndexString", "slices.overlaps[chiasmus/api.Word]"], unfollowed := true, recurses := true, named := ["internal/bytealg.MaxLen"], plainKeys := false, apart := false, narrowed := true }
def VmFuelUptoSaid : Prop := vmFuelUptoRow.holds Try.pinned (OpenSpec.upto vmFuelSpec)

/-- 'chiasmuslaw07.KindSubst', WHERE WHAT IT READS IS OF BULK AT MOST 1048576: true; the input reads as it did. -/
def kindSubstUptoRow : OpenClaim := { program := "ythmnidlbohgmiaa", sum := "67396137ced8fbab4a5f12561900776a2d07dbb5e4f35a790e708af37606f6ea", func := "chiasmus/chiasmuslaw07.KindSubst", spec := "kindSubst", inPlace := ["internal/bytealg.IndexByteString", "internal/bytealg.IndexString"], unfollowed := true, recurses := true, named := ["internal/bytealg.MaxLen"], loops := true, plainKeys := false, apart := false, narrowed := true }
def KindSubstUptoSaid : Prop := kindSubstUptoRow.holds Try.pinned (OpenSpec.upto kindSubstSpec)

/-- 'chiasmuslaw18.VmHidden', WHERE WHAT IT READS IS OF BULK AT MOST 1048576: true; the input reads as it did. -/
def vmHiddenUptoRow : OpenClaim := { program := "ythmnidlbohgmiaa", sum := "67396137ced8fbab4a5f12561900776a2d07dbb5e4f35a790e708af37606f6ea", func := "chiasmus/chiasmuslaw18.VmHidden", spec := "vmHidden", inPlace := ["internal/bytealg.IndexByteString", "internal/bytealg.IndexString", "slices.overlaps[chiasmus/api.Word]"], unfollowed := true, recurses := true, named := ["internal/bytealg.MaxLen"], plainKeys := false, apart := false, narrowed := true }
def VmHiddenUptoSaid : Prop := vmHiddenUptoRow.holds Try.pinned (OpenSpec.upto vmHiddenSpec)

end Rows
end Go.Proofs.Ythmnidlbohgmiaa
