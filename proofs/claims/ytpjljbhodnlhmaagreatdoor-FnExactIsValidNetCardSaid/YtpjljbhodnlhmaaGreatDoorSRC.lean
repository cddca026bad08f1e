
/- A source that came in. -/
import Derived.Test.YtpjljbhodnlhmaaGreatDoorS1
import Derived.Test.YtpjljbhodnlhmaaGreatDoorFT
namespace Go.Proofs.YtpjljbhodnlhmaaGreatDoor
open Go.ChangeShapes Go.WideShapes Go.ChangeAt Go.RowKit Go.Joins Go.Deep
theorem trod_three {H : Type} {enc : TypeId × Value → H} {P : Program} {w : World} {t : TypeId} {f0 f1 f2 : Field} {n : Nat} {a b c : Value} {x : DataW H × List MemPlace} {base : Nat} {spare : Nat → Bool} {held : Bool} (ht : P.underlying t = some (.struct #[f0, f1, f2])) (hone : oneCellFields P #[f0, f1, f2] = true) (h : DataW.trod enc P w base spare held n t [a, b, c] = some x) :
    ∃ (y0 y1 y2 : DataW H × List MemPlace) (m : Nat), DataW.trod enc P w base spare held m f0.type [a] = some y0 ∧ DataW.trod enc P w base spare held m f1.type [b] = some y1 ∧ DataW.trod enc P w base spare held m f2.type [c] = some y2 := by
  obtain ⟨xs, n, _, _, hl, hlen, hf⟩ := DataW.trod_struct ht h
  obtain ⟨o0, k0⟩ := hone_of hone 0 f0 rfl
  obtain ⟨o1, k1⟩ := hone_of hone 1 f1 rfl
  obtain ⟨o2, k2⟩ := hone_of hone 2 f2 rfl
  match xs, hlen with
  | [y0, y1, y2], _ => exact ⟨y0, y1, y2, n, by simpa [o0, k0] using hf 0 f0 rfl, by simpa [o1, k1] using hf 1 f1 rfl, by simpa [o2, k2] using hf 2 f2 rfl⟩
set_option maxRecDepth 100000 in
theorem open_source {H : Type} {enc : TypeId × Value → H} {w : World} {v : Value} {d : DataW H} {p : List MemPlace} (hv : Value.okWide Tryz.prog w .any 0 49 v) (h : DataW.Trod enc Tryz.prog w 0 (fun _ => true) true 49 v d p) :
    ∃ (t z : Int) (A : Option Addr) (n c : Nat) (ss : List ByteArray) (ck q : Int) (B : Option Addr) (m d : Nat) (hs : List Hold), v = .agg #[.int .i64 t, .int .i64 z, .slice A n c, .int .i64 ck, .int .i64 q, .slice B m d] ∧ n ≤ c ∧ c ≤ maxLen ∧ fitS ss ∧ Rd w A n 1 (ss.map scell) ∧ m ≤ d ∧ d ≤ maxLen ∧ Rd w B m 2 (hs.map Hold.cells) := by
  obtain ⟨cs, rfl, hsz⟩ := okWide_struct Tryz.underlying49 hv
  have hC : Tryz.prog.cellsOf 49 = 6 := by kernel_rfl
  have cW : Tryz.prog.cellsOf 46 = 3 := by kernel_rfl
  have cI : Tryz.prog.cellsOf 3 = 1 := by kernel_rfl
  have cH : Tryz.prog.cellsOf 47 = 1 := by kernel_rfl
  rw [hC] at hsz
  obtain ⟨l⟩ := cs
  match l, hsz with
  | [a0, a1, a2, a3, a4, a5], _ =>
    obtain ⟨fuel, hf⟩ := h
    obtain ⟨xs, k, _, _, hl, hlen, hf2⟩ := DataW.trod_struct Tryz.underlying49 hf
    have h0 := hf2 0 _ rfl
    have h1 := hf2 1 _ rfl
    have h2 := hf2 2 _ rfl
    have h3 := hf2 3 _ rfl
    match xs, hlen with
    | [y0, y1, y2, y3], _ =>
      simp [Value.cells, cW] at h0
      simp [Value.cells, cI] at h1 h2
      simp [Value.cells, cH] at h3
      obtain ⟨u0, u1, u2, k2, g0, g1, g2⟩ := trod_three Tryz.underlying46 (by kernel_rfl) h0
      obtain ⟨t, ht, _⟩ := DataW.trod_int Tryz.underlying3 g0
      obtain ⟨z, hz, _⟩ := DataW.trod_int Tryz.underlying3 g1
      obtain ⟨A, n, c, ss, hA, e1, e2, e3, e4⟩ := trod_strs Tryz.underlying27 (by kernel_rfl) Tryz.underlying9 g2
      obtain ⟨ck, hck, _⟩ := DataW.trod_int Tryz.underlying3 h1
      obtain ⟨q, hq, _⟩ := DataW.trod_int Tryz.underlying3 h2
      obtain ⟨B, m, d, hs, hB, f1, f2, f3⟩ := trod_rd (sz := 2) Hold.cells Tryz.underlying47 (by kernel_rfl) (by omega) (fun n cs x hx => trod_hold hx) h3
      simp only [List.cons.injEq, and_true] at ht hz hck hq
      subst ht hz hck hq hA hB
      exact ⟨t, z, A, n, c, ss, ck, q, B, m, d, hs, rfl, e1, e2, e3, e4, f1, f2, f3⟩
end Go.Proofs.YtpjljbhodnlhmaaGreatDoor
