
/- Which nodes a tree has. -/
import Derived.Test.YthciecmofgoebaaGreatDoorP2
import Derived.Test.YthciecmofgoebaaGreatDoorK12
namespace Go.Proofs.YthciecmofgoebaaGreatDoor
open Go.RowKit
def nodeP (ps : List Int) (x : Int) : Bool := goodP ps && inR x 0 ((ps.length : Int) - 1)
def notIn (n : Nat) (x : Int) : Bool := !inR x 0 ((n : Int) - 1)
def allIn (n : Nat) (xs : List Int) : Bool := !(decide (0 ≤ idxPI (notIn n) xs))
theorem c_l6Node (A : Option Addr) (n c : Nat) (ps : List Int) (x : Int) {r : Bool} (hr : nodeP ps x = r) (w : World) (hn : n ≤ 9223372036854775807) (h : Rd w A n 1 (ps.map icell)) :
    Calls Tryz.prog 35 #[.agg #[.slice A n c], .int .i64 x] w fun e w' => e = .returned (.bool r) ∧ Bw w w' := by
  subst hr
  have hl := Lib.hid h.ilen
  cases hg : goodP ps
  · have HR := Lib.hid (show nodeP ps x = false by simp [nodeP, hg])
    go_enter Tryz.func35, Tryz.ntmps35
    go_wp2_with (go_at_call 25; refine (c_l6Good _ _ _ ps hg _ hn (h.keep (Bw.alloc (Bw.refl _) _))).mono ?_; rintro e w1 ⟨rfl, hb1⟩)
    go_ret
    exact ⟨ret_bool HR.out.symm, Bw.trans (Bw.alloc (Bw.refl _) _) hb1⟩
  · have Hg := Lib.hid hg
    clear hg
    generalize hi : inR x 0 ((n : Int) - 1) = ri
    have HR := Lib.hid (show nodeP ps x = ri by simp [nodeP, Hg.out, hl.out, hi])
    go_enter Tryz.func35, Tryz.ntmps35
    go_wp2_with (first | (go_at_call 25; refine (c_l6Good _ _ _ ps Hg.out _ hn (h.keep (Bw.alloc (Bw.refl _) _))).mono ?_; rintro e w1 ⟨rfl, hb1⟩; have b0 := hb1.cellv (p := ⟨w.heap.size, 0, none⟩) (v := .slice A n c) (by go_simp)) | (go_at_call 45; refine (c_l1In _ _ _ hi _).mono ?_; rintro e w1 ⟨rfl, rfl⟩))
    go_ret
    exact ⟨ret_bool HR.out.symm, Bw.trans (Bw.alloc (Bw.refl _) _) hb1⟩
theorem c_has1 (x : Int) (q : Nat) (A : Option Addr) (n c : Nat) (hn : n ≤ 9223372036854775807) {r : Bool} (hr : notIn n x = r) (w : World) (hq : w.cell? ⟨q, 0, none⟩ = some (.slice A n c)) :
    Calls Tryz.prog 52 #[.int .i64 x, .pointer (some ⟨q, 0, none⟩)] w fun e w' => e = .returned (.bool r) ∧ w = w' := by
  generalize hi : inR x 0 ((n : Int) - 1) = ri
  have HR := Lib.hid (show (!ri) = r by rw [← hr, notIn, hi])
  go_enter Tryz.func52, Tryz.ntmps52
  go_wp2_with (go_at_call 27; refine (c_within _ _ _ hi _).mono ?_; rintro e w1 ⟨rfl, rfl⟩)
  go_ret
  exact ⟨ret_bool HR.out, rfl⟩
theorem c_IndexFuncNodes (q : Nat) (A0 : Option Addr) (n0 c0 : Nat) (hn0 : n0 ≤ 9223372036854775807) (A : Option Addr) (n c : Nat) (ts : List Int) {mm : Int} (hmm : idxPI (notIn n0) ts = mm) (w : World) (hm : n ≤ 1048576) (h : Rd w A n 1 (ts.map icell)) (hq : w.cell? ⟨q, 0, none⟩ = some (.slice A0 n0 c0)) :
    Calls Tryz.prog 65 #[.slice A n c, .func (.func 52) #[] #[.pointer (some ⟨q, 0, none⟩)]] w fun e w' => e = .returned (.int .i64 mm) ∧ w = w' := by
  subst hmm
  have hl := Lib.hid h.ilen
  go_enter Tryz.func65, Tryz.ntmps65
  go_wp2
  go_loop [8] (fun i => ∃ k : Nat, k ≤ n ∧ i = .int .i64 k ∧ ∀ j (hj : j < k) (hj2 : j < ts.length), notIn n0 ts[j] = false) (fun i => n - (intOf i).toNat)
  case atStart => exact ⟨0, Nat.zero_le _, rfl, fun j hj => absurd hj (by omega)⟩
  case round =>
    obtain ⟨k, hk, rfl, hst⟩ := hrel
    have Hst := Lib.hid hst
    clear hst
    by_cases hkn : k < n
    · obtain ⟨b, off, rfl, hb, hc⟩ := h.ints (by omega)
      have h0 := hc k hkn
      clear hc
      have hkt : k < ts.length := by rw [hl.out]; exact hkn
      have Ht := Lib.hid (intAt_lt hkt)
      cases hp : notIn n0 (intAt ts k)
      · go_wp2_with (go_at_call 52; refine (c_has1 _ _ _ _ _ hn0 hp _ hq).mono ?_; rintro e w1 ⟨rfl, rfl⟩)
        go_round
        case rel =>
          refine ⟨k + 1, by omega, by go_num, ?_⟩
          intro j hj hj2
          rcases Nat.lt_succ_iff_lt_or_eq.1 hj with h9 | h9
          · exact Hst.out j h9 hj2
          · subst h9; rw [← Ht.out]; exact hp
        case measure => simp [intOf]; omega
      · go_wp2_with (go_at_call 52; refine (c_has1 _ _ _ _ _ hn0 hp _ hq).mono ?_; rintro e w1 ⟨rfl, rfl⟩)
        go_ret
        have he := idxP_eq (p := notIn n0) (ts := ts) hkt (by rw [← Ht.out]; exact hp) (fun j hj => Hst.out j hj (by omega))
        exact ⟨ret_int (by simp [idxPI, he, hkt]), rfl⟩
    · go_wp2
      go_ret
      have he := idxP_none (p := notIn n0) (ts := ts) (fun j hj => Hst.out j (by rw [hl.out] at hj; omega) hj)
      exact ⟨ret_int (by simp [idxPI, he]), rfl⟩
theorem c_ContainsFuncNodes (q : Nat) (A0 : Option Addr) (n0 c0 : Nat) (hn0 : n0 ≤ 9223372036854775807) (A : Option Addr) (n c : Nat) (ts : List Int) {r : Bool} (hr : allIn n0 ts = r) (w : World) (hm : n ≤ 1048576) (h : Rd w A n 1 (ts.map icell)) (hq : w.cell? ⟨q, 0, none⟩ = some (.slice A0 n0 c0)) :
    Calls Tryz.prog 51 #[.slice A n c, .func (.func 52) #[] #[.pointer (some ⟨q, 0, none⟩)]] w fun e w' => e = .returned (.bool (!r)) ∧ w = w' := by
  subst hr
  generalize hm : idxPI (notIn n0) ts = mm
  have HR := Lib.hid (show allIn n0 ts = !(decide (0 ≤ mm)) by rw [allIn, hm])
  have HM := Lib.hid hm
  clear hm
  go_enter Tryz.func51, Tryz.ntmps51
  go_wp2_with (go_at_call 65; refine (c_IndexFuncNodes _ _ _ _ hn0 _ _ _ ts HM.out _ hm h hq).mono ?_; rintro e w1 ⟨rfl, rfl⟩)
  go_ret
  exact ⟨ret_bool (by rw [HR.out]; simp), rfl⟩
theorem c_hasNodes (A : Option Addr) (n c : Nat) (ps : List Int) (V : Option Addr) (m cv : Nat) (xs : List Int) {r : Bool} (hr : (goodP ps && allIn n xs) = r) (w : World) (hn : n ≤ 9223372036854775807) (hm : m ≤ 1048576) (h : Rd w A n 1 (ps.map icell)) (hv : Rd w V m 1 (xs.map icell)) :
    Calls Tryz.prog 33 #[.agg #[.slice A n c], .slice V m cv] w fun e w' => e = .returned (.bool r) ∧ Bw w w' := by
  subst hr
  cases hg : goodP ps
  · go_enter Tryz.func33, Tryz.ntmps33
    go_wp2_with (go_at_call 9; refine (c_IsValidTree _ _ _ ps hg _ hn (h.keep (Bw.alloc (Bw.refl _) _))).mono ?_; rintro e w1 ⟨rfl, hb1⟩)
    go_ret
    exact ⟨rfl, Bw.trans (Bw.alloc (Bw.refl _) _) hb1⟩
  · have Hg := Lib.hid hg
    clear hg
    generalize hi : allIn n xs = ri
    go_enter Tryz.func33, Tryz.ntmps33
    go_wp2_with (first | (go_at_call 9; refine (c_IsValidTree _ _ _ ps Hg.out _ hn (h.keep (Bw.alloc (Bw.refl _) _))).mono ?_; rintro e w1 ⟨rfl, hb1⟩; have b0 := hb1.cellv (p := ⟨w.heap.size, 0, none⟩) (v := .slice A n c) (by go_simp)) | (go_at_call 51; refine (c_ContainsFuncNodes _ _ _ _ hn _ _ _ xs hi _ hm (hv.keep (Bw.trans (Bw.alloc (Bw.refl _) _) hb1)) b0).mono ?_; rintro e w2 ⟨rfl, rfl⟩))
    go_ret
    exact ⟨ret_bool (by simp), Bw.trans (Bw.alloc (Bw.refl _) _) hb1⟩
theorem allIn_iff {n : Nat} {xs : List Int} : allIn n xs = true ↔ ∀ x ∈ xs, inR x 0 ((n : Int) - 1) = true := by
  have h1 : allIn n xs = true ↔ ¬ idxP (notIn n) xs < xs.length := by
    unfold allIn idxPI
    split
    · rename_i h; simp [h]
    · rename_i h; simp [h]
  rw [h1]
  unfold idxP
  rw [List.findIdx_lt_length]
  constructor
  · intro h x hx
    cases he : inR x 0 ((n : Int) - 1)
    · exact absurd ⟨x, hx, by simp [notIn, he]⟩ h
    · rfl
  · rintro h ⟨x, hx, he⟩
    simp [notIn, h x hx] at he
theorem allIn_one (n : Nat) (a : Int) : allIn n [a] = inR a 0 ((n : Int) - 1) := by
  rw [Bool.eq_iff_iff, allIn_iff]; simp
theorem allIn_two (n : Nat) (a b : Int) : allIn n [a, b] = (inR a 0 ((n : Int) - 1) && inR b 0 ((n : Int) - 1)) := by
  rw [Bool.eq_iff_iff, allIn_iff]; simp
end Go.Proofs.YthciecmofgoebaaGreatDoor
