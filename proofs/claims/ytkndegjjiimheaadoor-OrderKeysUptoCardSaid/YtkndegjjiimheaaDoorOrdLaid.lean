/- What the rows' list of variables gives to package order; a world in which they lie. -/
import Derived.Test.YtkndegjjiimheaaDoorCards
import Derived.Test.YtkndegjjiimheaaDoorTie
import Derived.Test.YtkndegjjiimheaaDoorOrdCalls
import Derived.Lib.LaidIn
import Derived.Lib.LaidU8
import Derived.Lib.LaidTab
import Derived.LaidLaws
import Derived.Deep.DeepHandedRow
import Derived.Deep.DeepWitnessRowRef
import Derived.ProofKit
import Derived.SizedLaws
import Derived.OpenShut
import Derived.ShutString
import Derived.ChangeOld
namespace Go.Proofs.YtkndegjjiimheaaDoor.Laid
open Go.Shelf Go.ChangeShapes Go.WideShapes Go.ChangeAt Go.RowKit Go.Lib Go.Proofs.YtkndegjjiimheaaDoor.Ord

theorem own : ownKnob Tryd.prog.godebug = none := by kernel_rfl
abbrev laid : List (String × DataW Unit) := [("math/bits.deBruijn32tab", Rows.laid_math_bits_deBruijn32tab), ("math/bits.deBruijn64tab", Rows.laid_math_bits_deBruijn64tab), ("internal/strconv.uint64pow10", Rows.laid_internal_strconv_uint64pow10), ("strconv.ErrRange", Rows.laid_strconv_ErrRange), ("strconv.ErrSyntax", Rows.laid_strconv_ErrSyntax)]
set_option maxRecDepth 100000 in
theorem pow_is : Rows.laid_internal_strconv_uint64pow10 (H := Unit) = Lib.tabData .u64 Lib.pow10Tab := by kernel_rfl
theorem tb {W : World} (h : laidMet Tryd.prog laid W) : Tb W := by
  have h3 : VarReads Tryd.prog W "internal/strconv.uint64pow10" (Lib.tabData .u64 Lib.pow10Tab) := by rw [← pow_is]; exact Lib.laidMet.reads h (.tail _ (.tail _ (.head _)))
  have h2 : VarReads Tryd.prog W "strconv.ErrRange" Rows.laid_strconv_ErrRange := Lib.laidMet.reads h (.tail _ (.tail _ (.tail _ (.head _))))
  refine ⟨?_, ?_⟩
  · obtain ⟨g, t, cs, fuel, p, hg, ht, hv, hd⟩ := h3
    have e1 : Tryd.prog.globalNamed "internal/strconv.uint64pow10" = some 3 := by kernel_rfl
    obtain rfl := Option.some.inj (e1.symm.trans hg)
    have e2 : (Tryd.prog.globals[3]?).map (·.type) = some 124 := by kernel_rfl
    obtain rfl := Option.some.inj (e2.symm.trans ht)
    have := Lib.cells_of_tab (P := Tryd.prog) (n := 20) (e := 61) Tryd.underlying124 Tryd.underlying61 (by kernel_rfl) (by kernel_rfl) hd
    unfold TabIs
    rw [hv, ← this]
  · obtain ⟨g, t, cs, fuel, p, hg, ht, hv, hd⟩ := h2
    have e1 : Tryd.prog.globalNamed "strconv.ErrRange" = some 2 := by kernel_rfl
    obtain rfl := Option.some.inj (e1.symm.trans hg)
    have e2 : (Tryd.prog.globals[2]?).map (·.type) = some 55 := by kernel_rfl
    obtain rfl := Option.some.inj (e2.symm.trans ht)
    obtain ⟨f1, u, v, hcs, _⟩ := iface_of_trod Tryd.underlying55 hd
    refine ⟨u, v, ?_⟩
    rw [hv, ← hcs]

abbrev ranS : ByteArray := ⟨#[118, 97, 108, 117, 101, 32, 111, 117, 116, 32, 111, 102, 32, 114, 97, 110, 103, 101]⟩
abbrev synS : ByteArray := ⟨#[105, 110, 118, 97, 108, 105, 100, 32, 115, 121, 110, 116, 97, 120]⟩
noncomputable def low : Nat := (World.holding Tryd.prog default ⟨#[], #[], []⟩).heap.size
def bru (d : DataW Unit) : Array Value := match d with
  | .agg l => (l.map fun x => match x with | .lit (.int k z) => Value.int k z | _ => .nilIface).toArray
  | _ => #[]
/-- The settled world, the five variables holding what their initialisers lay. -/
noncomputable def laidWorld (os : Os) : World :=
  let w0 := World.holding Tryd.prog os ⟨#[.cells #[.string ranS] 130, .cells #[.string synS] 130], #[], []⟩
  let put (h : Array Obj) (g : Nat) (cs : Array Value) : Array Obj := h.modify g fun
    | .cells _ t frozen => .cells cs t frozen
    | o => o
  let h1 := put w0.heap 3 (bru Rows.laid_internal_strconv_uint64pow10)
  let h2 := put h1 4 (bru Rows.laid_math_bits_deBruijn32tab)
  let h3 := put h2 5 (bru Rows.laid_math_bits_deBruijn64tab)
  let h4 := put h3 2 #[.iface 128 (.pointer (some ⟨low, 0, none⟩))]
  let h5 := put h4 1 #[.iface 128 (.pointer (some ⟨low + 1, 0, none⟩))]
  { w0 with heap := h5 }
set_option maxRecDepth 100000 in
theorem laid_met (os : Os) (args : Array Value) : laidMet Tryd.prog laid ((laidWorld os).forCall (fun _ _ => 0) ⟨#[], args, []⟩).memory :=
  (LaidIn.of_run (l := laid) [4, 5, 3, 2, low, 1, low + 1] 8 (by kernel_rfl) (by kernel_rfl) (by kernel_rfl) (by kernel_rfl)).met
end Go.Proofs.YtkndegjjiimheaaDoor.Laid
