
/- How an argument that came in reads: a struct of one field; a slice in a field. -/
import Derived.Test.YtpjljbhodnlhmaaGreatDoorK6
namespace Go.Proofs.YtpjljbhodnlhmaaGreatDoor
open Go.ChangeShapes Go.WideShapes Go.ChangeAt Go.RowKit Go.Joins Go.Deep
section
variable {H : Type} {enc : TypeId × Value → H} {P : Program} {w : World}
theorem trod_rd {T : Type} (en : T → List Value) {t e : TypeId} {sz : Nat} {v : Value} {fuel : Nat} {y : DataW H × List MemPlace} (ht : P.underlying t = some (.slice e)) (hC : P.cellsOf e = sz) (hsz : 0 < sz)
    (hR : ∀ n cs x, DataW.trod enc P w 0 (fun _ => true) true n e cs = some x → ∃ t : T, cs = en t)
    (hf : DataW.trod enc P w 0 (fun _ => true) true fuel t [v] = some y) :
    ∃ (A : Option Addr) (n c : Nat) (ts : List T), v = .slice A n c ∧ n ≤ c ∧ c ≤ maxLen ∧ Rd w A n sz (ts.map en) := by
  rcases open_slice ht hf with ⟨hcs, _⟩ | ⟨a, len0, cap0, m, n, D, Pl, hcs, _, hl, hm, hmm, _, hi⟩
  · simp at hcs
    subst hcs
    exact ⟨none, 0, 0, [], rfl, Nat.le_refl _, by unfold maxLen; omega, Rd.nil _ _ _⟩
  · simp at hcs
    subst hcs
    have hmc : m = cap0 := by simpa using hmm
    have key : ∀ i, i < len0 → ∃ t : T, (en t).length = sz ∧ ∀ j u, (en t)[j]? = some u → w.cell? (a.add (i * sz + j)) = some u := fun i hil => by
      obtain ⟨cs', hc, ht'⟩ := hi i (by omega)
      rw [hC] at hc
      obtain ⟨_, hcl, hat⟩ := World.cells?_some hc
      obtain ⟨t, rfl⟩ := hR _ _ _ ht'
      refine ⟨t, hcl, fun j u hj => ?_⟩
      have hjl : j < sz := by rw [← hcl]; exact (List.getElem?_eq_some_iff.1 hj).1
      rw [← hj, ← hat j hjl, Go.Deep.add_add]
    obtain ⟨ts, htl, hts⟩ := choose_list len0 key
    refine ⟨some a, len0, _, ts, rfl, hl, hm, by simpa using htl, fun hn => ?_⟩
    have h0 := hts 0 ts[0] (by simp)
    obtain ⟨u0, hu0⟩ : ∃ u, (en ts[0])[0]? = some u := ⟨(en ts[0])[0]'(by rw [h0.1]; exact hsz), List.getElem?_eq_getElem _⟩
    have hc0 := h0.2 0 u0 hu0
    obtain ⟨b, off, spot⟩ := a
    have hspot : spot = none := by simpa [Addr.add] using World.cell?_spot hc0
    subst hspot
    refine ⟨b, off, rfl, by simpa [Addr.add] using World.block_lt_of_cell? w _ hc0, fun k j cs u hk hj => ?_⟩
    simp only [List.getElem?_map, Option.map_eq_some_iff] at hk
    obtain ⟨t, ht', rfl⟩ := hk
    have := (hts k t ht').2 j u hj
    rw [← this]
    congr 1
    unfold Addr.add
    split
    · simp only [Addr.mk.injEq, and_true, true_and]; omega
    · simp only [Addr.mk.injEq, and_true, true_and]; omega
theorem open_agg1 {r : Reach} {b0 : Nat} {t : TypeId} {f0 : Field} {v : Value} {d : DataW H} {p : List MemPlace} {base : Nat} {spare : Nat → Bool} {held : Bool} (hs : P.underlying t = some (.struct #[f0])) (hone : oneCellFields P #[f0] = true) (hC : P.cellsOf t = 1)
    (hv : Value.okWide P w r b0 t v) (h : DataW.Trod enc P w base spare held t v d p) :
    ∃ (v0 : Value) (y0 : DataW H × List MemPlace) (n : Nat), v = .agg #[v0] ∧ DataW.trod enc P w base spare held n f0.type [v0] = some y0 := by
  obtain ⟨cs, rfl, hsz⟩ := okWide_struct hs hv
  have hc1 := hsz.trans hC
  obtain ⟨l⟩ := cs
  match l, hc1 with
  | [c0], _ =>
    obtain ⟨fuel, hf⟩ := h
    obtain ⟨xs, n, _, _, hl, hlen, hf2⟩ := DataW.trod_struct hs hf
    obtain ⟨o0, k0⟩ := hone_of hone 0 f0 rfl
    have h1 := hf2 0 f0 rfl
    match xs, hlen with
    | [y0], _ => exact ⟨c0, y0, n, rfl, by simpa [Value.cells, o0, k0] using h1⟩
theorem trod_icell {n : Nat} {cs : List Value} {e : TypeId} {x : DataW H × List MemPlace} {base : Nat} {spare : Nat → Bool} {held : Bool} (he : P.underlying e = some (.int .i64)) (h : DataW.trod enc P w base spare held n e cs = some x) : ∃ t : Int, cs = [.int .i64 t] := by
  obtain ⟨a, ha, _⟩ := DataW.trod_int he h
  exact ⟨a, ha⟩
end
end Go.Proofs.YtpjljbhodnlhmaaGreatDoor
