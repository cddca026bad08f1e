
/- How an argument that came in reads: slices of structs of numbers. -/
import Derived.Test.YtpjljbhodnlhmaaGreatDoorK3
import Derived.ProofKit
import Derived.OpenShut
import Derived.ShutString
import Derived.ChangeOld
import Derived.Lib.SmallJoins
import Derived.Deep.Slices
import Derived.Deep.Fields
namespace Go.Proofs.YtpjljbhodnlhmaaGreatDoor
open Go.ChangeShapes Go.WideShapes Go.ChangeAt Go.RowKit Go.Joins Go.Deep

theorem choose_list {T : Type} {p : Nat → T → Prop} : ∀ n : Nat, (∀ i, i < n → ∃ x, p i x) → ∃ xs : List T, xs.length = n ∧ ∀ i x, xs[i]? = some x → p i x
  | 0, _ => ⟨[], rfl, fun i x h => by simp at h⟩
  | n + 1, h => by
    obtain ⟨xs, hl, hx⟩ := choose_list n (fun i hi => h i (by omega))
    obtain ⟨y, hy⟩ := h n (by omega)
    refine ⟨xs ++ [y], by simp [hl], fun i x hi => ?_⟩
    rcases Nat.lt_trichotomy i n with h1 | h1 | h1
    · exact hx i x (by rwa [List.getElem?_append_left (by omega)] at hi)
    · subst h1
      rw [List.getElem?_append_right (by omega), hl, Nat.sub_self] at hi
      simp at hi; subst hi; exact hy
    · rw [List.getElem?_eq_none (by simp; omega)] at hi; cases hi
section
variable {H : Type} {enc : TypeId × Value → H} {P : Program} {w : World}
theorem trod_ints {e : TypeId} {fs : Array Field} {n : Nat} {cs : List Value} {x : DataW H × List MemPlace} {base : Nat} {spare : Nat → Bool} {held : Bool} (he : P.underlying e = some (.struct fs)) (hone : oneCellFields P fs = true) (hC : P.cellsOf e = fs.size)
    (hint : ∀ (i : Nat) (f : Field), fs[i]? = some f → P.underlying f.type = some (.int .i64)) (h : DataW.trod enc P w base spare held n e cs = some x) : ∃ l : List Int, l.length = fs.size ∧ cs = l.map (Value.int .i64) := by
  obtain ⟨ys, m, _, _, hlen, hyl, hf⟩ := DataW.trod_struct he h
  refine ⟨cs.map intOf, by rw [List.length_map, hlen, hC], ?_⟩
  apply List.ext_getElem?
  intro i
  rcases Nat.lt_or_ge i cs.length with hi | hi
  · have hif : i < fs.size := by omega
    have hfi : fs[i]? = some fs[i] := Array.getElem?_eq_getElem hif
    obtain ⟨ho, hk⟩ := hone_of hone i _ hfi
    have h1 := hf i _ hfi
    rw [ho, hk, List.getElem?_eq_getElem (by omega)] at h1
    obtain ⟨a, ha, _⟩ := DataW.trod_int (hint i _ hfi) h1
    have ha' : cs[i] = .int .i64 a := by
      have h2 := congrArg (fun l : List Value => l[0]?) ha
      simpa [hi] using h2
    rw [List.getElem?_eq_getElem hi, List.getElem?_map, List.getElem?_map, List.getElem?_eq_getElem hi, ha']
    rfl
  · rw [List.getElem?_eq_none hi, List.getElem?_eq_none (by simpa using hi)]
theorem open_rd {T : Type} (en : T → List Value) {t e : TypeId} {sz : Nat} {v : Value} {d : DataW H} {p : List MemPlace} (ht : P.underlying t = some (.slice e)) (hC : P.cellsOf e = sz) (hsz : 0 < sz)
    (hR : ∀ n cs x, DataW.trod enc P w 0 (fun _ => true) true n e cs = some x → ∃ t : T, cs = en t)
    (hv : Value.okWide P w .any 0 t v) (h : DataW.Trod enc P w 0 (fun _ => true) true t v d p) :
    ∃ (A : Option Addr) (n c : Nat) (ts : List T), v = .slice A n c ∧ n ≤ c ∧ c ≤ maxLen ∧ Rd w A n sz (ts.map en) := by
  obtain ⟨a0, len0, cap0, rfl⟩ := okWide_slice ht hv
  obtain ⟨fuel, hf⟩ := h
  rcases open_slice ht hf with ⟨hcs, _⟩ | ⟨a, len, cap, m, n, D, Pl, hcs, _, hl, hm, hmm, _, hi⟩
  · simp [Value.cells] at hcs
    obtain ⟨rfl, rfl, rfl⟩ := hcs
    exact ⟨none, 0, 0, [], rfl, Nat.le_refl _, by unfold maxLen; omega, Rd.nil _ _ _⟩
  · simp [Value.cells] at hcs
    obtain ⟨rfl, rfl, rfl⟩ := hcs
    have hmc : m = cap0 := by simpa using hmm
    have key : ∀ i, i < len0 → ∃ t : T, (en t).length = sz ∧ ∀ j u, (en t)[j]? = some u → w.cell? (a.add (i * sz + j)) = some u := fun i hil => by
      obtain ⟨cs', hc, ht'⟩ := hi i (by omega)
      rw [hC] at hc
      obtain ⟨_, hcl, hat⟩ := World.cells?_some hc
      obtain ⟨t, rfl⟩ := hR _ _ _ ht'
      refine ⟨t, hcl, fun j u hj => ?_⟩
      have hjl : j < sz := by rw [← hcl]; exact (List.getElem?_eq_some_iff.1 hj).1
      rw [← hj, ← hat j hjl, Go.Deep.add_add]
    obtain ⟨ts, htl, hts⟩ := choose_list len0 key
    refine ⟨some a, len0, _, ts, rfl, hl, hm, by simpa using htl, fun hn => ?_⟩
    have h0 := hts 0 ts[0] (by simp)
    obtain ⟨u0, hu0⟩ : ∃ u, (en ts[0])[0]? = some u := ⟨(en ts[0])[0]'(by rw [h0.1]; exact hsz), List.getElem?_eq_getElem _⟩
    have hc0 := h0.2 0 u0 hu0
    obtain ⟨b, off, spot⟩ := a
    have hspot : spot = none := by simpa [Addr.add] using World.cell?_spot hc0
    subst hspot
    refine ⟨b, off, rfl, by simpa [Addr.add] using World.block_lt_of_cell? w _ hc0, fun k j cs u hk hj => ?_⟩
    simp only [List.getElem?_map, Option.map_eq_some_iff] at hk
    obtain ⟨t, ht', rfl⟩ := hk
    have := (hts k t ht').2 j u hj
    rw [← this]
    congr 1
    unfold Addr.add
    split
    · simp only [Addr.mk.injEq, and_true, true_and]; omega
    · simp only [Addr.mk.injEq, and_true, true_and]; omega
end
end Go.Proofs.YtpjljbhodnlhmaaGreatDoor
