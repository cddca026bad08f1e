
/- The drawn texts; the drawn trees of the other laws. -/
import Derived.Test.YthciecmofgoebaaGreatDoorM6
import Derived.Test.YthciecmofgoebaaGreatDoorQ9
namespace Go.Proofs.YthciecmofgoebaaGreatDoor
open Go.RowKit Go.Shelf
theorem nodesT_size {ps : List Int} (hg : goodP ps = true) : 1 ≤ (nodesT ps).size ∧ (nodesT ps).size ≤ 100 := by
  have ⟨h2, h8⟩ := (goodP_iff.1 hg).1
  constructor
  · unfold nodesT
    cases hd : ps.drop 1 with
    | nil => have := congrArg List.length hd; simp at this; omega
    | cons x r =>
      have h1 := decDigits_ne x.toNat
      have e : (joinT (x :: r) ⟨#[32]⟩).data.toList = Lib.decDigits x.toNat ++ Lib.joinTail [32] ((r.map fun x => numT x.toNat).map (·.data.toList)) := by
        simp [joinT, numW, Lib.join_cons, numT]
      have h3 := congrArg List.length e
      simp only [List.length_append, Array.length_toList, ByteArray.size_data] at h3
      omega
  · have hv : ∀ k, k < (ps.drop 1).length → intAt (ps.drop 1) k ≤ 9 := fun k hk => by
      rw [drop_at]
      have := goodP_at hg (k := k + 1) (by omega) (by simp at hk; omega)
      omega
    have h := joinT_size2 (ts := ps.drop 1) (sep := ⟨#[32]⟩) (by decide) hv (ps.drop 1).length (Nat.le_refl _)
    rw [List.take_length] at h
    have hl : (ps.drop 1).length = ps.length - 1 := by simp
    rw [hl] at h
    unfold nodesT
    omega
section
variable (b : Nat) (A : Option Addr) (n c m : Nat)
set_option maxRecDepth 100000 in
theorem c_spoilt (t s : ByteArray) (ht1 : 1 ≤ t.size) (ht2 : t.size ≤ 200) (hs1 : 1 ≤ s.size) (hs2 : s.size ≤ 200) (hm : m ≤ 800000) (hn : n ≤ 1000000) (w : World) (h : CurE b A n c m w) :
    Calls Tryz.prog 30 #[.pointer (some ⟨b, 0, none⟩), .string t, .string s] w fun e w' => (∃ u : ByteArray, e = .returned (.string u) ∧ u.size ≤ 1000) ∧ CurE b A n c (m + 3) w' ∧ w.grownBy w' (some b) := by
  have hne : ¬ t.toList = [] := fun e => by
    have h1 : t.data.toList.length = 0 := by rw [← Lib.toList_data, e]; rfl
    have h2 : t.data.toList.length = t.size := by simp
    omega
  have hne2 : (t.toList == []) = false := by simpa using hne
  go_enter Tryz.func30, Tryz.ntmps30
  go_wp2_with fail
  refine (c_pickE b A n c m t.size (by omega) (by omega) (by omega) hn _ h).mono ?_
  rintro e w1 ⟨⟨x1, rfl, l1⟩, h1, g1⟩
  go_wp2_with fail
  refine (c_pickE b A n c _ s.size (by omega) (by omega) (by omega) hn _ h1).mono ?_
  rintro e w2 ⟨⟨x2, rfl, l2⟩, h2, g2⟩
  have z1 : (s.extract x2 s.size).size = s.size - x2 := by simp [ByteArray.size_extract]
  have z2 : (1 : Int) ≤ ((s.extract x2 s.size).size : Int) := by omega
  have hx2 : (x2 : Int) ≤ s.size := by omega
  have hx1 : (x1 : Int) ≤ t.size := by omega
  have hx3 : (x1 : Int) + 1 ≤ t.size := by omega
  have hw1 := IntWalk.i64_in ((x1 : Int) + 1) (by omega)
  have hn1 : ((x1 : Int) + 1).toNat = x1 + 1 := by omega
  go_wp2_with fail
  refine (c_pickE b A n c _ 3 (by omega) (by omega) (by omega) hn _ h2).mono ?_
  rintro e w3 ⟨⟨x3, rfl, l3⟩, h3, g3⟩
  have g13 := (g1.trans g2).trans g3
  obtain ⟨y, hy⟩ : ∃ y, (s.extract x2 s.size).extract 0 1 = y := ⟨_, rfl⟩
  have hyz : y.size ≤ 1 := by rw [← hy]; simp only [ByteArray.size_extract]; omega
  obtain ⟨p, hp⟩ : ∃ p, t.extract 0 x1 = p := ⟨_, rfl⟩
  obtain ⟨q, hq⟩ : ∃ q, t.extract x1 t.size = q := ⟨_, rfl⟩
  obtain ⟨r, hr⟩ : ∃ r, t.extract (x1 + 1) t.size = r := ⟨_, rfl⟩
  have hpz : p.size ≤ 200 := by rw [← hp]; simp only [ByteArray.size_extract]; omega
  have hqz : q.size ≤ 200 := by rw [← hq]; simp only [ByteArray.size_extract]; omega
  have hrz : r.size ≤ 200 := by rw [← hr]; simp only [ByteArray.size_extract]; omega
  have a1 := fun (W : World) => run_string_add (P := Tryz.prog) W p y (by omega) (by omega)
  have a2 := fun (W : World) => run_string_add (P := Tryz.prog) W (p ++ y) q (by simp only [ByteArray.size_append]; omega) (by omega)
  have a3 := fun (W : World) => run_string_add (P := Tryz.prog) W (p ++ y) r (by simp only [ByteArray.size_append]; omega) (by omega)
  have a4 := fun (W : World) => run_string_add (P := Tryz.prog) W p r (by omega) (by omega)
  have e1 : (p ++ y ++ q).size ≤ 1000 := by simp only [ByteArray.size_append]; omega
  have e2 : (p ++ y ++ r).size ≤ 1000 := by simp only [ByteArray.size_append]; omega
  have e3 : (p ++ r).size ≤ 1000 := by simp only [ByteArray.size_append]; omega
  clear hpz hqz hrz hyz z1 z2
  cases q0 : ((x3 : Int) == 0)
  · cases q1 : ((x3 : Int) == 1)
    · go_wp2_with fail
      go_region
      go_wp2
      go_ret
      exact ⟨⟨_, rfl, e3⟩, h3.keep (by (repeat (first | with_reducible assumption | exact Bw.refl _ | (with_reducible refine Bw.setCell ?_ (by simp) _) | (with_reducible refine Bw.alloc ?_ _) | (with_reducible refine Bw.drew ?_) | (with_reducible refine Bw.drewN ?_ _)))), g13.trans ((by (repeat (first | with_reducible assumption | exact Bw.refl _ | (with_reducible refine Bw.setCell ?_ (by simp) _) | (with_reducible refine Bw.alloc ?_ _) | (with_reducible refine Bw.drew ?_) | (with_reducible refine Bw.drewN ?_ _))) : Bw w3 _).gr _)⟩
    · go_wp2_with fail
      go_region
      go_wp2
      go_ret
      exact ⟨⟨_, rfl, e2⟩, h3.keep (by (repeat (first | with_reducible assumption | exact Bw.refl _ | (with_reducible refine Bw.setCell ?_ (by simp) _) | (with_reducible refine Bw.alloc ?_ _) | (with_reducible refine Bw.drew ?_) | (with_reducible refine Bw.drewN ?_ _)))), g13.trans ((by (repeat (first | with_reducible assumption | exact Bw.refl _ | (with_reducible refine Bw.setCell ?_ (by simp) _) | (with_reducible refine Bw.alloc ?_ _) | (with_reducible refine Bw.drew ?_) | (with_reducible refine Bw.drewN ?_ _))) : Bw w3 _).gr _)⟩
  · go_wp2_with fail
    go_region
    go_wp2
    go_ret
    exact ⟨⟨_, rfl, e1⟩, h3.keep (by (repeat (first | with_reducible assumption | exact Bw.refl _ | (with_reducible refine Bw.setCell ?_ (by simp) _) | (with_reducible refine Bw.alloc ?_ _) | (with_reducible refine Bw.drew ?_) | (with_reducible refine Bw.drewN ?_ _)))), g13.trans ((by (repeat (first | with_reducible assumption | exact Bw.refl _ | (with_reducible refine Bw.setCell ?_ (by simp) _) | (with_reducible refine Bw.alloc ?_ _) | (with_reducible refine Bw.drew ?_) | (with_reducible refine Bw.drewN ?_ _))) : Bw w3 _).gr _)⟩
end
section
variable (A : Option Addr) (n c : Nat)
set_option maxRecDepth 100000 in
theorem c_DrawParseTree (hn : n ≤ 1000000) (w : World) (h : Code8 w A n) :
    Calls Tryz.prog 11 #[.slice A n c] w fun e w' => (∃ u : ByteArray, e = .returned (.string u) ∧ u.size ≤ 1000) ∧ Bw w w' := by
  have k1 : Bw w (w.alloc (.cells #[.slice A n c, .int .i64 0, .int .u64 0] 52)) := (Bw.refl w).alloc _
  have c0 := CurE.new w A n c 52 h
  go_enter Tryz.func11, Tryz.ntmps11
  go_wp2_with fail
  refine (c_treeG _ A n c 0 (by omega) hn _ c0).mono ?_
  rintro e w1 ⟨⟨A', k, d, ts, rfl, hk2, hk8, row1, hg⟩, h1, g1⟩
  have b1 := k1.cur g1 (Nat.le_refl _)
  have hz := nodesT_size hg
  go_wp2_with fail
  refine (c_l6Text A' k d ts hg _ (by omega) (row1.rd (fun _ => rfl))).mono ?_
  rintro e w2 ⟨rfl, hb2⟩
  have h2 := h1.keep hb2
  have b2 := b1.trans hb2
  generalize nodesT ts = t at *
  go_wp2_with fail
  refine (c_oneE _ A n c _ 4 (by omega) (by omega) (by omega) hn _ h2).mono ?_
  rintro e w3 ⟨⟨x3, rfl⟩, h3, g3⟩
  have b3 := b2.cur g3 (Nat.le_refl _)
  cases x3
  · go_wp2
    go_ret
    exact ⟨⟨_, rfl, by omega⟩, b3⟩
  · go_wp2_with fail
    refine (c_spoilt _ A n c _ t _ hz.1 (by omega) (by decide) (by decide) (by omega) hn _ h3).mono ?_
    rintro e w4 ⟨⟨u, rfl, hu⟩, h4, g4⟩
    go_wp2
    go_ret
    exact ⟨⟨_, rfl, hu⟩, b3.cur g4 (Nat.le_refl _)⟩
set_option maxRecDepth 100000 in
theorem c_DrawIsValidTree (hn : n ≤ 1000000) (w : World) (h : Code8 w A n) :
    Calls Tryz.prog 21 #[.slice A n c] w fun e w' => (∃ A' k d, ∃ (ts : List Int), e = .returned (.agg #[.slice A' k d]) ∧ k ≤ 9 ∧ Row w' w.heap.size 3 1 icell A' k d ts) ∧ Bw w w' := by
  have k0 : Bw w (w.alloc (.cells #[.slice none 0 0] 26)) := (Bw.refl w).alloc _
  have R0 := Box.mk' w #[.slice none 0 0] 26
  have c0 := CurE.new (w.alloc (.cells #[.slice none 0 0] 26)) A n c 52 (h.keep k0)
  have k1 : Bw w ((w.alloc (.cells #[.slice none 0 0] 26)).alloc (.cells #[.slice A n c, .int .i64 0, .int .u64 0] 52)) := k0.alloc _
  simp only [World.size_alloc] at c0
  go_enter Tryz.func21, Tryz.ntmps21
  go_wp2_with fail
  refine (c_anyTree _ A n c 0 (by omega) hn _ c0).mono ?_
  rintro e w1 ⟨⟨A', k, d, ts, rfl, hk, row1⟩, h1, g1⟩
  have R1 := (R0.keep ((Bw.refl _).alloc _)).gcur g1 (by omega)
  have r1 := R1.c1
  have rf := R1.fz 0
  simp only [World.size_alloc] at row1
  go_wp2
  exact bodyPost_ret (v := .agg #[.slice A' k d]) (by simp [results, Tryz.results21, go_sem, r1]) rfl ⟨⟨A', k, d, ts, rfl, hk, (row1.grown (cu_setCell w1 ⟨w.heap.size, 0, none⟩ (.slice A' k d)) (fun x hx he => by have := (row1.lt x hx).1; simp at he; omega)).mono (by omega)⟩, (k1.cur g1 (by omega)).setCell (by simp) _⟩
theorem c_DrawTreeText (hn : n ≤ 1000000) (w : World) (h : Code8 w A n) :
    Calls Tryz.prog 5 #[.slice A n c] w fun e w' => (∃ A' k d, ∃ (ts : List Int), e = .returned (.agg #[.slice A' k d]) ∧ k ≤ 9 ∧ Row w' w.heap.size 3 1 icell A' k d ts) ∧ Bw w w' := by
  have k0 : Bw w (w.alloc (.cells #[.slice none 0 0] 26)) := (Bw.refl w).alloc _
  have R0 := Box.mk' w #[.slice none 0 0] 26
  go_enter Tryz.func5, Tryz.ntmps5
  go_wp2_with fail
  refine (c_DrawIsValidTree A n c hn _ (h.keep k0)).mono ?_
  rintro e w1 ⟨⟨A', k, d, ts, rfl, hk, row⟩, h1⟩
  have R1 := R0.keep h1
  have r1 := R1.c1
  have rf := R1.fz 0
  simp only [World.size_alloc] at row
  go_wp2
  exact bodyPost_ret (v := .agg #[.slice A' k d]) (by simp [results, Tryz.results5, go_sem, r1]) rfl ⟨⟨A', k, d, ts, rfl, hk, (row.grown (cu_setCell w1 ⟨w.heap.size, 0, none⟩ (.slice A' k d)) (fun x hx he => by have := (row.lt x hx).1; simp at he; omega)).mono (by omega)⟩, (k0.trans h1).setCell (by simp) _⟩
theorem c_DrawLeavesOf (hn : n ≤ 1000000) (w : World) (h : Code8 w A n) :
    Calls Tryz.prog 19 #[.slice A n c] w fun e w' => (∃ A' k d, ∃ (ts : List Int), e = .returned (.agg #[.slice A' k d]) ∧ k ≤ 9 ∧ Row w' w.heap.size 3 1 icell A' k d ts) ∧ Bw w w' := by
  have k0 : Bw w (w.alloc (.cells #[.slice none 0 0] 26)) := (Bw.refl w).alloc _
  have R0 := Box.mk' w #[.slice none 0 0] 26
  go_enter Tryz.func19, Tryz.ntmps19
  go_wp2_with fail
  refine (c_DrawIsValidTree A n c hn _ (h.keep k0)).mono ?_
  rintro e w1 ⟨⟨A', k, d, ts, rfl, hk, row⟩, h1⟩
  have R1 := R0.keep h1
  have r1 := R1.c1
  have rf := R1.fz 0
  simp only [World.size_alloc] at row
  go_wp2
  exact bodyPost_ret (v := .agg #[.slice A' k d]) (by simp [results, Tryz.results19, go_sem, r1]) rfl ⟨⟨A', k, d, ts, rfl, hk, (row.grown (cu_setCell w1 ⟨w.heap.size, 0, none⟩ (.slice A' k d)) (fun x hx he => by have := (row.lt x hx).1; simp at he; omega)).mono (by omega)⟩, (k0.trans h1).setCell (by simp) _⟩
theorem c_DrawAddLeaf (hn : n ≤ 1000000) (w : World) (h : Code8 w A n) :
    Calls Tryz.prog 13 #[.slice A n c] w fun e w' => (∃ A' k d, ∃ (ts : List Int) (x : Int), e = .returned (.tuple #[.agg #[.slice A' k d], .int .i64 x]) ∧ k ≤ 9 ∧ Row w' w.heap.size 3 1 icell A' k d ts) ∧ Bw w w' := by
  have k0 : Bw w (w.alloc (.cells #[.slice none 0 0] 26)) := (Bw.refl w).alloc _
  have R0 := Box.mk' w #[.slice none 0 0] 26
  go_enter Tryz.func13, Tryz.ntmps13
  go_wp2_with fail
  refine (c_DrawChildrenOf A n c hn _ (h.keep k0)).mono ?_
  rintro e w1 ⟨⟨A', k, d, ts, x, rfl, hk, row⟩, h1⟩
  have R1 := R0.keep h1
  have r1 := R1.c1
  have rf := R1.fz 0
  simp only [World.size_alloc] at row
  go_wp2
  exact bodyPost_ret (v := .tuple #[.agg #[.slice A' k d], .int .i64 x]) (by simp [results, Tryz.results13, go_sem, r1]) rfl ⟨⟨A', k, d, ts, x, rfl, hk, (row.grown (cu_setCell w1 ⟨w.heap.size, 0, none⟩ (.slice A' k d)) (fun x hx he => by have := (row.lt x hx).1; simp at he; omega)).mono (by omega)⟩, (k0.trans h1).setCell (by simp) _⟩
end
end Go.Proofs.YthciecmofgoebaaGreatDoor
