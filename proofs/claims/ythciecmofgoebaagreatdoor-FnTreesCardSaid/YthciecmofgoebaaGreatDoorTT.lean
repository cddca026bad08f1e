
/- The text of a tree: both sides. -/
import Derived.Test.YthciecmofgoebaaGreatDoorJ
import Derived.Test.YthciecmofgoebaaGreatDoorP1
namespace Go.Proofs.YthciecmofgoebaaGreatDoor
open Go.RowKit
theorem joinT_one (x : Int) (sep : ByteArray) : joinT [x] sep = numT x.toNat := by
  simp [joinT, numW, Lib.join_one]
theorem joinT_succ {ts : List Int} {sep : ByteArray} {k : Nat} (h1 : 1 ≤ k) (hk : k < ts.length) : joinT (ts.take (k + 1)) sep = joinT (ts.take k) sep ++ sep ++ numT (intAt ts k).toNat := by
  obtain ⟨m, rfl⟩ : ∃ m, k = m + 1 := ⟨k - 1, by omega⟩
  cases ts with
  | nil => simp at hk
  | cons x r =>
    have hm : m < r.length := by simpa using hk
    have e : intAt (x :: r) (m + 1) = r[m] := by simp [intAt, hm]
    have hg : ((r.map fun x => numT x.toNat).map (·.data.toList))[m]? = some (numT (intAt (x :: r) (m + 1)).toNat).data.toList := by
      rw [e]; simp [hm]
    have h := Lib.joinTail_take_succ sep.data.toList _ m _ hg
    apply ByteArray.ext
    apply Array.toList_inj.1
    simp only [joinT, numW, List.take_succ_cons, List.map_cons, Lib.join_cons, ByteArray.data_append, Array.toList_append]
    rw [List.append_assoc, List.append_assoc]
    congr 1
    rw [← List.append_assoc]
    simp only [List.map_take]
    exact h
theorem joinT_size {ts : List Int} {sep : ByteArray} (hs : sep.size ≤ 1) (hv : ∀ k, k < ts.length → intAt ts k ≤ 100) : ∀ k, k ≤ ts.length → (joinT (ts.take k) sep).size ≤ k * 102 := by
  intro k
  induction k with
  | zero => intro _; simp [joinT, numW, Lib.join_nil, ByteArray.size]
  | succ k ih =>
    intro hk
    have hz := numT_size (intAt ts k).toNat
    have hvk := hv k (by omega)
    rcases Nat.eq_zero_or_pos k with rfl | h1
    · have e : ts.take 1 = [intAt ts 0] := by
        cases ts with
        | nil => simp at hk
        | cons x r => simp [intAt]
      rw [Nat.zero_add, e, joinT_one]; omega
    · rw [joinT_succ h1 (by omega)]
      have := ih (by omega)
      simp only [ByteArray.size_append]
      omega
/-- The text of a tree's nodes behind the first. -/
def treeT (ps : List Int) (k : Nat) : ByteArray := joinT ((ps.drop 1).take (k - 1)) ⟨#[32]⟩
theorem drop_at (ps : List Int) (k : Nat) : intAt (ps.drop 1) k = intAt ps (k + 1) := by
  simp [intAt, List.getD, List.getElem?_drop, Nat.add_comm]
theorem treeT_two {ps : List Int} (h : 2 ≤ ps.length) : treeT ps 2 = numT (intAt ps 1).toNat := by
  match ps, h with
  | a :: b :: r, _ => simp [treeT, joinT_one, intAt]
theorem treeT_succ {ps : List Int} {k : Nat} (h2 : 2 ≤ k) (hk : k < ps.length) : treeT ps (k + 1) = treeT ps k ++ ⟨#[32]⟩ ++ numT (intAt ps k).toNat := by
  have := joinT_succ (ts := ps.drop 1) (sep := ⟨#[32]⟩) (k := k - 1) (by omega) (by simp; omega)
  rw [drop_at, show k - 1 + 1 = k by omega] at this
  exact this
theorem treeT_all (ps : List Int) : treeT ps ps.length = joinT (ps.drop 1) ⟨#[32]⟩ := by
  unfold treeT; rw [List.take_of_length_le (by simp)]
theorem treeT_size {ps : List Int} (hg : goodP ps = true) (k : Nat) (hk : k ≤ ps.length) : (treeT ps k).size ≤ 1000 := by
  have h8 := (goodP_iff.1 hg).1.2
  have := joinT_size (ts := ps.drop 1) (sep := ⟨#[32]⟩) (by decide) (fun j hj => by
    rw [drop_at]
    have h1 : j + 1 < ps.length := by simp at hj; omega
    have := (goodP_lt hg h1).2
    omega) (k - 1) (by simp; omega)
  have h9 : (k - 1) * 102 ≤ 7 * 102 := Nat.mul_le_mul_right _ (by omega)
  unfold treeT
  omega
theorem goodP_at {ps : List Int} (hg : goodP ps = true) {k : Nat} (h1 : 1 ≤ k) (hk : k < ps.length) : 0 ≤ intAt ps k ∧ intAt ps k ≤ 7 := by
  have h := (goodP_iff.1 hg).2 k hk
  have h8 := (goodP_iff.1 hg).1.2
  simp only [stepP, show ¬ k = 0 by omega, if_false] at h
  have := inR_iff.1 h
  omega
theorem Rd.drop1 {w : World} {b off n : Nat} {ts : List Int} (h : Rd w (some ⟨b, off, none⟩) n 1 (ts.map icell)) (hn : 1 ≤ n) : Rd w (some ⟨b, off + 1, none⟩) (n - 1) 1 ((ts.drop 1).map icell) := by
  have hl := h.ilen
  refine ⟨by simp [hl], fun hn1 => ?_⟩
  obtain ⟨b', off', hA, hb, hc⟩ := h.ints (by omega)
  simp only [Option.some.injEq, Addr.mk.injEq, and_true] at hA
  obtain ⟨rfl, rfl⟩ := hA
  refine ⟨b, off + 1, rfl, hb, fun k j l u hk hj => ?_⟩
  rw [List.getElem?_map, List.getElem?_drop] at hk
  cases hx : ts[1 + k]? with
  | none => rw [hx] at hk; cases hk
  | some x =>
    rw [hx] at hk
    simp only [Option.map_some, Option.some.injEq] at hk
    subst hk
    obtain ⟨h1, h2⟩ := List.getElem?_eq_some_iff.1 hx
    match j with
    | 0 =>
      simp [icell] at hj; subst hj
      have := hc (1 + k) (by omega)
      rw [intAt_lt h1, h2] at this
      simpa [Nat.add_assoc] using this
    | j + 1 => simp [icell] at hj
def nodesT (ps : List Int) : ByteArray := joinT (ps.drop 1) ⟨#[32]⟩
set_option maxRecDepth 100000 in
theorem c_l6Text (A : Option Addr) (n c : Nat) (ps : List Int) (hg : goodP ps = true) (w : World) (hm : n ≤ 9223372036854775807) (h : Rd w A n 1 (ps.map icell)) :
    Calls Tryz.prog 26 #[.agg #[.slice A n c]] w fun e w' => e = .returned (.string (nodesT ps)) ∧ Bw w w' := by
  have hl := Lib.hid h.ilen
  have ⟨h2, h8⟩ := (goodP_iff.1 hg).1
  rw [hl.out] at h2 h8
  have hbx := (Bw.refl w).alloc (.cells #[.slice A n c] 26)
  have HG := Lib.hid hg
  clear hg
  obtain ⟨b, off, rfl, hb, hc⟩ := h.ints (by omega)
  have q1 := hc 1 (by omega)
  clear hc
  have ⟨v0, v1⟩ := goodP_at HG.out (k := 1) (by omega) (by rw [hl.out]; omega)
  have HT := Lib.hid (treeT_two (ps := ps) (by rw [hl.out]; omega))
  generalize intAt ps 1 = x at q1 v0 v1 HT
  obtain ⟨u, rfl⟩ : ∃ u : Nat, x = u := ⟨x.toNat, by omega⟩
  have hu : u ≤ 100000 := by omega
  go_enter Tryz.func26, Tryz.ntmps26
  go_wp2_with (go_at_call 46; refine (c_l1Num u hu _).mono ?_; rintro e w1 ⟨rfl, hb1⟩)
  go_loopw [3, 4] (fun v i wr => ∃ k : Nat, 2 ≤ k ∧ k ≤ n ∧ i = .int .i64 k ∧ v = .string (treeT ps k) ∧ Bw (w.alloc (.cells #[.slice (some ⟨b, off, none⟩) n c] 26)) wr) (fun _ i _ => n - (intOf i).toNat)
  case atStart => exact ⟨2, Nat.le_refl _, by omega, rfl, by rw [HT.out]; rfl, hb1⟩
  case round =>
    obtain ⟨k, hk2, hk, rfl, rfl, hbl⟩ := hrel
    have b0 := hbl.cellv (p := ⟨w.heap.size, 0, none⟩) (v := .slice (some ⟨b, off, none⟩) n c) (by go_simp)
    by_cases hlt : k < n
    · obtain ⟨b', off', hA, hb', hc⟩ := (h.keep (hbx.trans hbl)).ints (by omega)
      simp only [Option.some.injEq, Addr.mk.injEq, and_true] at hA
      obtain ⟨rfl, rfl⟩ := hA
      have q0 := hc k hlt
      clear hc
      have ⟨y0, y1⟩ := goodP_at HG.out (k := k) (by omega) (by rw [hl.out]; omega)
      have HS := Lib.hid (treeT_succ (ps := ps) hk2 (by rw [hl.out]; omega))
      have hz := treeT_size HG.out k (by rw [hl.out]; omega)
      generalize treeT ps k = acc at *
      generalize intAt ps k = y at q0 y0 y1 HS
      obtain ⟨m, rfl⟩ : ∃ m : Nat, y = m := ⟨y.toNat, by omega⟩
      have hmm : m ≤ 100000 := by omega
      have hn := numT_size m
      have z1 : (⟨#[32]⟩ : ByteArray).size = 1 := rfl
      have r1 := fun (W : World) => run_string_add (P := Tryz.prog) W acc ⟨#[32]⟩ (by omega) (by omega)
      have r2 := fun (W : World) => run_string_add (P := Tryz.prog) W (acc ++ ⟨#[32]⟩) (numT m) (by simp only [ByteArray.size_append]; omega) (by omega)
      clear z1 hz hn
      go_wp2_with (go_at_call 46; refine (c_l1Num m hmm _).mono ?_; rintro e w2 ⟨rfl, hb2⟩)
      all_goals
        go_roundw
        case rel => exact ⟨k + 1, by omega, by omega, by go_num, by rw [HS.out]; rfl, hbl.trans hb2⟩
        case measure => simp [intOf]; omega
    · obtain rfl : k = n := by omega
      go_wp2
      go_ret
      have e := treeT_all ps
      rw [hl.out] at e
      rw [nodesT, ← e]
      exact ⟨rfl, hbx.trans hbl⟩
def ttxT (ps : List Int) : ByteArray := if goodP ps = true then nodesT ps else ⟨#[]⟩
set_option maxRecDepth 100000 in
theorem c_sTreeText (A : Option Addr) (n c : Nat) (ps : List Int) (w : World) (hm : n ≤ 9223372036854775807) (h : Rd w A n 1 (ps.map icell)) :
    Calls Tryz.prog 8 #[.agg #[.slice A n c]] w fun e w' => e = .returned (.tuple #[.string (ttxT ps), .bool (goodP ps)]) ∧ Bw w w' := by
  have hl := h.ilen
  have hbx := (Bw.refl w).alloc (.cells #[.slice A n c] 26)
  cases hg : goodP ps
  · have HR := Lib.hid (show ttxT ps = ⟨#[]⟩ by simp [ttxT, hg])
    go_enter Tryz.func8, Tryz.ntmps8
    go_wp2_with (go_at_call 25; refine (c_l6Good _ _ _ ps (by first | exact hg | exact HG.out) _ hm (h.keep hbx)).mono ?_; rintro e w1 ⟨rfl, hb1⟩)
    go_ret2
    rw [HR.out]
    exact ⟨rfl, hbx.trans hb1⟩
  · have ⟨h2, h8⟩ := (goodP_iff.1 hg).1
    rw [hl] at h2 h8
    obtain ⟨b, off, rfl, hb, hc⟩ := h.ints (by omega)
    clear hc
    have HR := Lib.hid (show ttxT ps = nodesT ps by simp [ttxT, hg])
    have HL := Lib.hid hl
    have HG := Lib.hid hg
    skip
    clear hl hg
    go_enter Tryz.func8, Tryz.ntmps8
    go_wp2_with (first | (go_at_call 25; refine (c_l6Good _ _ _ ps (by first | exact hg | exact HG.out) _ hm (h.keep hbx)).mono ?_; rintro e w1 ⟨rfl, hb1⟩; have d0 := hb1.cellv (p := ⟨w.heap.size, 0, none⟩) (v := .slice (some ⟨b, off, none⟩) n c) (by go_simp)) | (go_at_call 26; refine (c_l6Text _ _ _ ps HG.out _ hm ((h.keep hbx).keep hb1)).mono ?_; rintro e w2 ⟨rfl, hb2⟩))
    go_ret2
    rw [HR.out]
    exact ⟨rfl, (hbx.trans hb1).trans hb2⟩
set_option maxRecDepth 100000 in
theorem c_iTreeText (A : Option Addr) (n c : Nat) (ps : List Int) (w : World) (hcap : n ≤ c) (ht : Tab10 w) (hm : n ≤ 9223372036854775807) (h : Rd w A n 1 (ps.map icell)) :
    Calls Tryz.prog 6 #[.agg #[.slice A n c]] w fun e w' => e = .returned (.tuple #[.string (ttxT ps), .bool (goodP ps)]) ∧ Bw w w' := by
  have hl := h.ilen
  have hbx := (Bw.refl w).alloc (.cells #[.slice A n c] 26)
  cases hg : goodP ps
  · have HR := Lib.hid (show ttxT ps = ⟨#[]⟩ by simp [ttxT, hg])
    go_enter Tryz.func6, Tryz.ntmps6
    go_wp2_with (go_at_call 9; refine (c_IsValidTree _ _ _ ps (by first | exact hg | exact HG.out) _ hm (h.keep hbx)).mono ?_; rintro e w1 ⟨rfl, hb1⟩)
    go_ret2
    rw [HR.out]
    exact ⟨rfl, hbx.trans hb1⟩
  · have ⟨h2, h8⟩ := (goodP_iff.1 hg).1
    rw [hl] at h2 h8
    obtain ⟨b, off, rfl, hb, hc⟩ := h.ints (by omega)
    clear hc
    have HR := Lib.hid (show ttxT ps = nodesT ps by simp [ttxT, hg])
    have HL := Lib.hid hl
    have HG := Lib.hid hg
    (have rd1 := h.drop1 (by omega)); (have c1 : c ≠ 1 := by omega); (have c2 : 1 < c := by omega); (have c3 : ¬ c - 1 = 0 := by omega); (have HJ := Lib.hid (fun (W : World) (ht' : Tab10 W) (hr : Rd W (some ⟨b, off + 1, none⟩) (n - 1) 1 ((ps.drop 1).map icell)) => show Calls Tryz.prog 22 #[.slice (some ⟨b, off + 1, none⟩) (n - 1) (c - 1), .string ⟨#[32]⟩] W (fun e w' => e = .returned (.string (nodesT ps)) ∧ Bw W w') from c_joinInts _ _ _ (ps.drop 1) _ (fun k hk => by rw [drop_at]; have := goodP_at HG.out (k := k + 1) (by omega) (by simp at hk; omega); omega) (by have := treeT_size HG.out _ (Nat.le_refl _); rw [treeT_all] at this; omega) W ht' (by omega) hr))
    clear hl hg
    go_enter Tryz.func6, Tryz.ntmps6
    go_wp2_with (first | (go_at_call 9; refine (c_IsValidTree _ _ _ ps (by first | exact hg | exact HG.out) _ hm (h.keep hbx)).mono ?_; rintro e w1 ⟨rfl, hb1⟩; have d0 := hb1.cellv (p := ⟨w.heap.size, 0, none⟩) (v := .slice (some ⟨b, off, none⟩) n c) (by go_simp)) | (go_at_call 22; refine (HJ.out _ ((ht.keep hbx).keep hb1) ((rd1.keep hbx).keep hb1)).mono ?_; rintro e w2 ⟨rfl, hb2⟩))
    go_ret2
    rw [HR.out]
    exact ⟨rfl, (hbx.trans hb1).trans hb2⟩
end Go.Proofs.YthciecmofgoebaaGreatDoor
