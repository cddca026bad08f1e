
/- A send window that came in. -/
import Derived.Test.YthdmnngmijbcbaaDoorS1
namespace Go.Proofs.YthdmnngmijbcbaaDoor
open Go.ChangeShapes Go.WideShapes Go.ChangeAt Go.RowKit Go.Joins Go.Deep
set_option maxRecDepth 100000 in
theorem open_sw {H : Type} {enc : TypeId × Value → H} {w : World} {v : Value} {d : DataW H} {p : List MemPlace} (hv : Value.okWide Tryd.prog w .any 0 24 v) (h : DataW.Trod enc Tryd.prog w 0 (fun _ => true) true 24 v d p) :
    ∃ (t z : Int) (A : Option Addr) (n c : Nat) (ss : List ByteArray), v = .agg #[.int .i64 t, .int .i64 z, .slice A n c] ∧ n ≤ c ∧ c ≤ maxLen ∧ fitS ss ∧ Rd w A n 1 (ss.map scell) := by
  obtain ⟨c0, c1, c2, y0, y1, y2, m, rfl, _, _, hy0, hy1, hy2⟩ := open_agg3 Tryd.underlying24 (by kernel_rfl) (by kernel_rfl) hv h
  obtain ⟨t, ht, _⟩ := DataW.trod_int Tryd.underlying3 hy0
  obtain ⟨z, hz, _⟩ := DataW.trod_int Tryd.underlying3 hy1
  obtain ⟨A, n, c, ss, hA, h1, h2, h3, h4⟩ := trod_strs Tryd.underlying22 (by kernel_rfl) Tryd.underlying9 hy2
  simp only [List.cons.injEq, and_true] at ht hz
  subst ht hz hA
  exact ⟨t, z, A, n, c, ss, rfl, h1, h2, h3, h4⟩
end Go.Proofs.YthdmnngmijbcbaaDoor
