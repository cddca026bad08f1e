
/- A packet that came in. -/
import Derived.Test.YthdmnngmijbcbaaDoorS1
import Derived.Test.YthdmnngmijbcbaaDoorK14
namespace Go.Proofs.YthdmnngmijbcbaaDoor
open Go.ChangeShapes Go.WideShapes Go.ChangeAt Go.RowKit Go.Joins Go.Deep
set_option maxRecDepth 100000 in
theorem open_packet {H : Type} {enc : TypeId × Value → H} {w : World} {v : Value} {d : DataW H} {p : List MemPlace} (hv : Value.okWide Tryd.prog w .any 0 41 v) (h : DataW.Trod enc Tryd.prog w 0 (fun _ => true) true 41 v d p) :
    ∃ (k nu tr le : Int) (s : ByteArray), v = .agg #[.int .i64 k, .int .i64 nu, .int .i64 tr, .int .i64 le, .string s] ∧ s.size ≤ maxLen := by
  obtain ⟨cs, rfl, hsz⟩ := okWide_struct Tryd.underlying41 hv
  have hC : Tryd.prog.cellsOf 41 = 5 := by kernel_rfl
  have cI : Tryd.prog.cellsOf 3 = 1 := by kernel_rfl
  have cS : Tryd.prog.cellsOf 9 = 1 := by kernel_rfl
  rw [hC] at hsz
  obtain ⟨l⟩ := cs
  match l, hsz with
  | [a0, a1, a2, a3, a4], _ =>
    obtain ⟨fuel, hf⟩ := h
    obtain ⟨xs, k, _, _, hl, hlen, hf2⟩ := DataW.trod_struct Tryd.underlying41 hf
    have h0 := hf2 0 _ rfl
    have h1 := hf2 1 _ rfl
    have h2 := hf2 2 _ rfl
    have h3 := hf2 3 _ rfl
    have h4 := hf2 4 _ rfl
    match xs, hlen with
    | [y0, y1, y2, y3, y4], _ =>
      simp [Value.cells, cI] at h0 h1 h2 h3
      simp [Value.cells, cI, cS] at h4
      obtain ⟨k, e0, _⟩ := DataW.trod_int Tryd.underlying3 h0
      obtain ⟨nu, e1, _⟩ := DataW.trod_int Tryd.underlying3 h1
      obtain ⟨tr, e2, _⟩ := DataW.trod_int Tryd.underlying3 h2
      obtain ⟨le, e3, _⟩ := DataW.trod_int Tryd.underlying3 h3
      obtain ⟨s, e4, _, hs⟩ := DataW.trod_string Tryd.underlying9 h4
      simp only [List.cons.injEq, and_true] at e0 e1 e2 e3 e4
      subst e0 e1 e2 e3 e4
      exact ⟨k, nu, tr, le, s, rfl, hs⟩
end Go.Proofs.YthdmnngmijbcbaaDoor
