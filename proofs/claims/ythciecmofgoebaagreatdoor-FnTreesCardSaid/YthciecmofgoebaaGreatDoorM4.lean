
/- The drawn trees. -/
import Derived.Test.YthciecmofgoebaaGreatDoorCU2
import Derived.Test.YthciecmofgoebaaGreatDoorI2
import Derived.Test.YthciecmofgoebaaGreatDoorP1
import Derived.Test.YthciecmofgoebaaGreatDoorK15
import Derived.Deep.RegionLaw
namespace Go.Proofs.YthciecmofgoebaaGreatDoor
open Go.RowKit
theorem Row.litI (w : World) (lo : Nat) (hlo : lo ≤ w.heap.size) (xs : List Int) (cs : Array Value) (n : Nat) (hn : xs.length = n) (hs : cs.size = n) (hb : n ≤ 1000) (h : cs.toList = xs.map (.int .i64)) : Row (w.alloc (.cells cs 3)) lo 3 1 icell (some ⟨w.heap.size, 0, none⟩) n n xs := by
  refine ⟨?_, hn⟩
  have h1 := World.ownsRow_lit (base := lo) (e := 3) (size := 1) w cs n hlo (by unfold maxLen; omega) (by omega)
  have e : cs.toList = xs.flatMap icell := by
    rw [h]
    clear h hn hs hb h1
    induction xs with
    | nil => rfl
    | cons x r ih => simp [icell, ih]
  rw [e] at h1
  exact h1
/-- A tree in a box of the call's own, its parents in a row of the call's own. -/
structure TrB (w : World) (q lo : Nat) (A : Option Addr) (n c : Nat) (ts : List Int) : Prop where
  c0 : w.cell? ⟨q, 0, none⟩ = some (.slice A n c)
  ff : ∀ j, w.frozen? ⟨q, j, none⟩ = false
  row : Row w lo 3 1 icell A n c ts
  ne : ∀ x, A = some x → x.block ≠ q
section
variable {w w' : World} {q lo : Nat} {A : Option Addr} {n c : Nat} {ts : List Int}
theorem TrB.lt (h : TrB w q lo A n c ts) : q < w.heap.size := World.block_lt_of_cell? w ⟨q, 0, none⟩ h.c0
theorem TrB.keep (h : TrB w q lo A n c ts) (hb : Bw w w') : TrB w' q lo A n c ts :=
  ⟨hb.cellv h.c0, fun j => (hb.frz ⟨q, j, none⟩ h.lt).trans (h.ff j), h.row.keep hb, h.ne⟩
theorem TrB.cur (h : TrB w q lo A n c ts) {b : Nat} (hg : w.grownBy w' (some b)) (hb : b < lo) (hq : b ≠ q) : TrB w' q lo A n c ts :=
  ⟨hg.cell h.c0 (by simpa using fun e => hq e.symm), fun j => (hg.frozen_far ⟨q, j, none⟩ h.lt (by simpa using fun e => hq e.symm)).trans (h.ff j), h.row.grown hg (fun x hx he => by have := (h.row.lt x hx).1; simp only [Option.some.injEq] at he; omega), h.ne⟩
theorem TrB.mk0 (w : World) (lo : Nat) (t : TypeId) (h : Row w lo 3 1 icell A n c ts) : TrB (w.alloc (.cells #[.slice A n c] t)) w.heap.size lo A n c ts := by
  have hb := Box.mk' w #[.slice A n c] t
  exact ⟨hb.c1, hb.fz, h.keep ((Bw.refl w).alloc _), fun x hx => by have := (h.lt x hx).2; omega⟩
/-- What an append leaves is stored. -/
theorem TrB.push {A2 : Option Addr} {n2 c2 : Nat} {us : List Int} (h : TrB w q lo A n c ts) (hr : Row w' lo 3 1 icell A2 n2 c2 us) (hg : w.grownBy w' (Value.ownBlock (.slice A n c))) (hmv : ∃ x, A2 = some x ∧ (w.heap.size ≤ x.block ∨ ∃ y, A = some y ∧ x.block = y.block)) :
    TrB (w'.setCell ⟨q, 0, none⟩ (.slice A2 n2 c2)) q lo A2 n2 c2 us ∧ w'.cell? ⟨q, 0, none⟩ = some (.slice A n c) ∧ ∀ j, w'.frozen? ⟨q, j, none⟩ = false := by
  have hne : ∀ p : Nat, some (⟨q, p, none⟩ : Addr).block ≠ Value.ownBlock (.slice A n c) := fun p he => by
    cases A with
    | none => simp [Value.ownBlock] at he
    | some z => simp only [Value.ownBlock, Option.some.injEq] at he; exact h.ne z rfl he.symm
  have t0 := hg.cell h.c0 (hne 0)
  have f0 : ∀ j, w'.frozen? ⟨q, j, none⟩ = false := fun j => (hg.frozen_far ⟨q, j, none⟩ h.lt (hne j)).trans (h.ff j)
  have ne2 : ∀ x, A2 = some x → x.block ≠ q := by
    obtain ⟨x0, hx0, hh⟩ := hmv
    intro x hx
    rw [hx0] at hx; injection hx with hx; subst hx
    rcases hh with hh | ⟨y, hy, hh⟩
    · have := h.lt; omega
    · rw [hh]; exact h.ne y hy
  exact ⟨⟨World.cell?_setCell_same _ _ _ t0, fun j => (World.frozen?_setCell _ _ _ _).trans (f0 j), hr.grown (cu_setCell w' ⟨q, 0, none⟩ _) (fun x hx he => ne2 x hx (by simpa using he.symm)), ne2⟩, t0, f0⟩
end
theorem moved_of {w : World} {A A2 : Option Addr} (h : Moved w A A2) (hn : A2 ≠ none) : ∃ x, A2 = some x ∧ (w.heap.size ≤ x.block ∨ ∃ y, A = some y ∧ x.block = y.block) := by
  rcases h with h | ⟨x, hx, h | h⟩
  · cases A2 with
    | none => exact absurd rfl hn
    | some x => exact ⟨x, rfl, .inr ⟨x, h ▸ rfl, rfl⟩⟩
  · exact ⟨x, hx, .inl (by omega)⟩
  · exact ⟨x, hx, .inr h⟩
theorem goodP_snoc {ps : List Int} {x : Int} (hg : goodP ps = true) (h0 : 0 ≤ x) (h1 : x < ps.length) (h7 : ps.length ≤ 7) : goodP (ps ++ [x]) = true := by
  have ⟨⟨l2, l8⟩, hs⟩ := goodP_iff.1 hg
  have ap : ∀ j, j < ps.length → intAt (ps ++ [x]) j = intAt ps j := fun j h => by simp [intAt, List.getElem?_append_left h]
  have la : intAt (ps ++ [x]) ps.length = x := by simp [intAt]
  refine goodP_iff.2 ⟨by simp; omega, fun j hj => ?_⟩
  simp only [List.length_append, List.length_singleton] at hj
  rcases Nat.lt_succ_iff_lt_or_eq.1 hj with hj | rfl
  · have := hs j hj
    unfold stepP at this ⊢
    rw [ap j hj, ap 0 (by omega)]
    exact this
  · unfold stepP
    rw [if_neg (by omega), la]
    exact inR_mk (by omega)
section
variable (b : Nat) (A : Option Addr) (n c m : Nat)
set_option maxRecDepth 100000 in
set_option maxHeartbeats 1000000 in
theorem c_treeG (hm : m ≤ 800000) (hn : n ≤ 1000000) (w : World) (h : CurE b A n c m w) :
    Calls Tryz.prog 28 #[.pointer (some ⟨b, 0, none⟩)] w fun e w' => (∃ A' k d, ∃ ts : List Int, e = .returned (.agg #[.slice A' k d]) ∧ 2 ≤ k ∧ k ≤ 8 ∧ Row w' w.heap.size 3 1 icell A' k d ts ∧ goodP ts = true) ∧ CurE b A n c (m + 10) w' ∧ w.grownBy w' (some b) := by
  have hlt := h.lt
  have hA := h.code.lt
  obtain ⟨i0, hi, hz0, hz1, hz2⟩ := info_parts infoInt
  have Hi := Lib.hid hi
  have Hz0 := Lib.hid hz0
  have Hz1 := Lib.hid hz1
  have Hz2 := Lib.hid hz2
  clear hi hz0 hz1 hz2
  go_enter Tryz.func28, Tryz.ntmps28
  go_wp2_with fail
  have k0 : Bw w (w.alloc (.cells #[.slice none 0 0] 26)) := (Bw.refl w).alloc _
  have R0 := Box.mk' w #[.slice none 0 0] 26
  have L0 := Row.litI (w.alloc (.cells #[.slice none 0 0] 26)) (w.heap.size + 1) (by simp) [-1, 0] #[.int .i64 (-1), .int .i64 0] 2 rfl rfl (by omega) rfl
  have T0 := TrB.mk0 _ _ 26 L0
  simp only [World.size_alloc] at T0
  have hB3 : Bw w (((w.alloc (.cells #[.slice none 0 0] 26)).alloc (.cells #[.int .i64 (-1), .int .i64 0] 3)).alloc (.cells #[.slice (some ⟨w.heap.size + 1, 0, none⟩) 2 2] 26)) := by (repeat (first | with_reducible assumption | exact Bw.refl _ | (with_reducible refine Bw.setCell ?_ (by simp) _) | (with_reducible refine Bw.alloc ?_ _) | (with_reducible refine Bw.drew ?_) | (with_reducible refine Bw.drewN ?_ _)))
  refine (c_pickE b A n c _ 7 (by omega) (by omega) (by omega) hn _ (h.keep hB3)).mono ?_
  rintro e w1 ⟨⟨x1, rfl, l1⟩, h1, g1⟩
  have T1 := T0.cur g1 (by omega) (by omega)
  have R1 := (R0.keep (((Bw.refl _).alloc _).alloc _)).gcur g1 (by omega)
  have g01 := (hB3.gr (some b)).trans g1
  clear T0 L0 R0
  go_wp2_with fail
  go_loopw [4] (fun q wr => ∃ (A' : Option Addr) (k d : Nat) (ts : List Int) (j : Nat), q = .int .i64 j ∧ goodP ts = true ∧ 2 ≤ k ∧ k + j ≤ 8 ∧ TrB wr (w.heap.size + 2) (w.heap.size + 1) A' k d ts ∧ Box wr w.heap.size [.slice none 0 0] ∧ CurE b A n c (m + 1 + (6 - j)) wr ∧ w.grownBy wr (some b)) (fun q _ => (intOf q).toNat)
  case atStart => exact ⟨_, _, _, _, x1, rfl, by decide, by omega, by omega, T1, R1, h1.mono (by omega), g01⟩
  case round =>
    obtain ⟨A', k, d, ts, j, rfl, hgg, hk2, hkj, hT, hR, hcur, hg⟩ := hrel
    have HG := Lib.hid hgg
    have HTL := Lib.hid hT.row.len
    clear hgg
    have t0 := hT.c0
    by_cases hj : 0 < j
    · go_wp2_with fail
      go_region_law (first | ((refine step_append_rd (enc := icell) (by rfl) (.tmp 14) (.tmp 20) 24 (by rfl) (w.heap.size + 1) 3 i0 _ 1 8 Tryz.underlying24 Hi.out Hz0.out Hz1.out Hz2.out rfl (by decide) (fun _ => rfl) (by intro t u hu; simp [icell] at hu; subst hu; rfl) A' k d ts (by rfl) (hT2.row.keep ((Bw.refl _).alloc _)) _ 1 1 [(x2 : Int)] (by rfl) (Rd.one _ _ _ _ 1 rfl) (by unfold maxLen; omega) (by omega) (by have := hT2.lt; simp only [World.size_alloc]; omega) ?_); (intro A2 c2 w4 row4 hg4 hmv4 hnn4); (have hP := (hT2.keep ((Bw.refl _).alloc _)).push row4 hg4 (moved_of hmv4 (hnn4 (by omega)))); (have t4 := hP.2.1); (have f4 := hP.2.2 0)) | (go_simp; go_at_call 47; refine (c_pickE b A n c _ k (by omega) (by omega) (by omega) hn _ (hcur.keep (by (repeat (first | with_reducible assumption | exact Bw.refl _ | (with_reducible refine Bw.setCell ?_ (by simp) _) | (with_reducible refine Bw.alloc ?_ _) | (with_reducible refine Bw.drew ?_) | (with_reducible refine Bw.drewN ?_ _)))))).mono ?_; rintro e w2 ⟨⟨x2, rfl, l2⟩, h2, g2⟩; have hT2 := (hT.keep (by (repeat (first | with_reducible assumption | exact Bw.refl _ | (with_reducible refine Bw.setCell ?_ (by simp) _) | (with_reducible refine Bw.alloc ?_ _) | (with_reducible refine Bw.drew ?_) | (with_reducible refine Bw.drewN ?_ _))))).cur g2 (by omega) (by omega); have t2 := hT2.c0; have ta : ∀ o, (w2.alloc o).cell? ⟨w.heap.size + 1 + 1, 0, none⟩ = some (.slice A' k d) := fun o => (hT2.keep ((Bw.refl _).alloc o)).c0))
      all_goals
        have hlA : ∀ x, A' = some x → w.heap.size + 1 ≤ x.block := fun x hx => (hT.row.lt x hx).1
        have gq := hg.trans (((by (repeat (first | with_reducible assumption | exact Bw.refl _ | (with_reducible refine Bw.setCell ?_ (by simp) _) | (with_reducible refine Bw.alloc ?_ _) | (with_reducible refine Bw.drew ?_) | (with_reducible refine Bw.drewN ?_ _))) : Bw wr wr.drew).gr (some b)).trans g2)
        have gz := gr_set (gr_row (lo := w.heap.size) (gr_alloc gq _) hg4 (fun x hx => by have := hlA x hx; omega) (Nat.le_refl _)) (p := ⟨w.heap.size + 2, 0, none⟩) (by simp) (.slice A2 (k + 1) c2)
        have cz := ((h2.keep ((Bw.refl _).alloc _)).row hg4 (fun x hx => by have := hlA x hx; omega) hlt hA).set (lo := w.heap.size) (p := ⟨w.heap.size + 2, 0, none⟩) (by simp) hlt hA (.slice A2 (k + 1) c2)
        have rz := ((((hR.keep (by (repeat (first | with_reducible assumption | exact Bw.refl _ | (with_reducible refine Bw.setCell ?_ (by simp) _) | (with_reducible refine Bw.alloc ?_ _) | (with_reducible refine Bw.drew ?_) | (with_reducible refine Bw.drewN ?_ _))) : Bw wr wr.drew)).gcur g2 (by omega)).keep ((Bw.refl _).alloc _)).grown hg4 (fun he => by
          cases A' with
          | none => simp [Value.ownBlock] at he
          | some y => simp only [Value.ownBlock, Option.some.injEq] at he; have := hlA y rfl; omega)).grown (cu_setCell w4 ⟨w.heap.size + 2, 0, none⟩ (.slice A2 (k + 1) c2)) (by simp)
        have tz := hP.1
        clear hP
        go_wp2_with fail
        go_roundw
        case rel => exact ⟨A2, k + 1, c2, _, j - 1, by go_num, goodP_snoc HG.out (by omega) (by rw [HTL.out]; exact l2) (by rw [HTL.out]; omega), by omega, by omega, tz, rz, cz.mono (by omega), gz⟩
        case measure => simp [intOf]; omega
    · have r0 := hR.c1
      have rf := hR.fz 0
      have hrow := hT.row
      go_wp2
      refine bodyPost_ret (v := .agg #[.slice A' k d]) (by simp [results, Tryz.results28, go_sem, r0]) rfl ⟨⟨A', k, d, ts, rfl, hk2, by omega, (hrow.grown (cu_setCell _ _ _) (fun x hx he => by have := (hrow.lt x hx).1; simp at he; omega)).mono (by omega), HG.out⟩, (hcur.set (lo := w.heap.size) (by simp) hlt hA _).mono (by omega), gr_set hg (by simp) _⟩
theorem c_tree (hm : m ≤ 800000) (hn : n ≤ 1000000) (w : World) (h : CurE b A n c m w) :
    Calls Tryz.prog 28 #[.pointer (some ⟨b, 0, none⟩)] w fun e w' => (∃ A' k d, ∃ ts : List Int, e = .returned (.agg #[.slice A' k d]) ∧ 2 ≤ k ∧ k ≤ 8 ∧ Row w' w.heap.size 3 1 icell A' k d ts) ∧ CurE b A n c (m + 10) w' ∧ w.grownBy w' (some b) :=
  (c_treeG b A n c m hm hn w h).mono fun _ _ ⟨⟨A', k, d, ts, h1, h2, h3, h4, _⟩, h5, h6⟩ => ⟨⟨A', k, d, ts, h1, h2, h3, h4⟩, h5, h6⟩
end
end Go.Proofs.YthciecmofgoebaaGreatDoor
