
/- FaceTo: both sides. -/
import Derived.Test.YthciecmofgoebaaM2
namespace Go.Proofs.Ythciecmofgoebaa
open Go.RowKit
theorem face_out {ps : List Int} {a b : Int} (hc : faceC ps a b = true) (h : ∀ j, j + 1 < (pathP ps b).length → intAt (pathP ps b) j ≠ a) : faceB ps a b = false := by
  cases hf : faceB ps a b
  · rfl
  · obtain ⟨k, hk⟩ := face_at hf
    exact absurd hk.at_ (h k hk.lt)
theorem face_in {ps : List Int} {a b : Int} (hc : faceC ps a b = true) {k : Nat} (hk : k + 1 < (pathP ps b).length) (he : intAt (pathP ps b) k = a) (hn : ∀ j, j < k → intAt (pathP ps b) j ≠ a) : faceB ps a b = true ∧ faceN ps a b = intAt (pathP ps b) (k + 1) := by
  have hf : faceB ps a b = true := by
    rw [faceB, hc, hasI_at (by omega) he]; rfl
  refine ⟨hf, ?_⟩
  rw [faceN, if_pos hf, idxI_at (by omega) he hn]; rfl
theorem faceC_no {ps : List Int} {a b : Int} (hc : faceC ps a b = false) : faceB ps a b = false ∧ faceN ps a b = 0 := by
  have : faceB ps a b = false := by simp [faceB, hc]
  exact ⟨this, face_no this⟩
set_option maxRecDepth 100000 in
theorem c_sFaceTo (A : Option Addr) (n c : Nat) (ps : List Int) (a b : Int) {m : Int} {r : Bool} (hmt : faceN ps a b = m) (hr : faceB ps a b = r) (w : World) (hn : n ≤ 9223372036854775807) (h : Rd w A n 1 (ps.map icell)) :
    Calls Try.prog 17 #[.agg #[.slice A n c], .int .i64 a, .int .i64 b] w fun e w' => e = .returned (.tuple #[.int .i64 m, .bool r]) ∧ Bw w w' := by
  have hl := Lib.hid h.ilen
  have hbx := (Bw.refl w).alloc (.cells #[.slice A n c] 26)
  cases ha : nodeP ps a
  · have HR := Lib.hid (show m = 0 ∧ r = false by rw [← hmt, ← hr]; have := faceC_no (ps := ps) (a := a) (b := b) (by simp [faceC, ha]); exact ⟨this.2, this.1⟩)
    clear hmt hr
    go_enter Try.func17, Try.ntmps17
    go_wp2_with (go_at_call 23; refine (c_l6Node _ _ _ ps a ha _ hn (h.keep hbx)).mono ?_; rintro e w1 ⟨rfl, hb1⟩)
    go_ret2
    rw [HR.out.1, HR.out.2]
    exact ⟨rfl, hbx.trans hb1⟩
  · cases hb : nodeP ps b
    · have HR := Lib.hid (show m = 0 ∧ r = false by rw [← hmt, ← hr]; have := faceC_no (ps := ps) (a := a) (b := b) (by simp [faceC, hb]); exact ⟨this.2, this.1⟩)
      have Ha := Lib.hid ha
      clear hmt hr ha
      go_enter Try.func17, Try.ntmps17
      go_wp2_with (go_at_call 23; first | (have hb1x := hb1; clear hb1x; refine (c_l6Node _ _ _ ps b hb _ hn (h.keep (hbx.trans hb1))).mono ?_; rintro e w2 ⟨rfl, hb2⟩) | (refine (c_l6Node _ _ _ ps a Ha.out _ hn (h.keep hbx)).mono ?_; rintro e w1 ⟨rfl, hb1⟩; have b0 := hb1.cellv (p := ⟨w.heap.size, 0, none⟩) (v := .slice A n c) (by go_simp)))
      go_ret2
      rw [HR.out.1, HR.out.2]
      exact ⟨rfl, hbx.trans (hb1.trans hb2)⟩
    · cases hab : (a == b)
      · have HC := Lib.hid (show faceC ps a b = true by simp [faceC, ha, hb, hab])
        have hgb := node_range hb
        have hne : b ≠ a := by intro e; subst e; simp at hab
        have ok := path_ok hgb.1 hgb.2.1 hgb.2.2
        have HI := Lib.hid (fun k h1 h2 h3 => face_in (k := k) HC.out h1 h2 h3)
        have HO := Lib.hid (face_out HC.out)
        have HRR := Lib.hid (show faceN ps a b = m ∧ faceB ps a b = r from ⟨hmt, hr⟩)
        have HFN := Lib.hid (fun h => face_no (ps := ps) (a := a) (b := b) h)
        have hlB := pathP_len ps b
        have hne0 := ok.ne
        rw [hl.out] at hgb
        generalize hpb : pathP ps b = pb at HI HO hlB hne0
        have HB := Lib.hid hpb
        have Ha := Lib.hid ha
        have Hb := Lib.hid hb
        clear hmt hr ha hb hpb ok hne HC
        go_enter Try.func17, Try.ntmps17
        go_wp2_with (go_at_call 23; first | (have hb1x := hb1; clear hb1x; refine (c_l6Node _ _ _ ps b Hb.out _ hn (h.keep (hbx.trans hb1))).mono ?_; rintro e w2 ⟨rfl, hb2⟩; have d2 := hb2.cellv d0) | (refine (c_l6Node _ _ _ ps a Ha.out _ hn (h.keep hbx)).mono ?_; rintro e w1 ⟨rfl, hb1⟩; have d0 := hb1.cellv (p := ⟨w.heap.size, 0, none⟩) (v := .slice A n c) (by go_simp)))
        have hbw2 : Bw w w2 := hbx.trans (hb1.trans hb2)
        refine (c_l6Path _ _ _ ps b hgb.1 hgb.2.1 hgb.2.2 _ (h.keep hbw2)).mono ?_
        rw [HB.out]
        rintro e w3 ⟨⟨A3, c3, rfl, row3⟩, hb3⟩
        have rd3 := row3.rd (fun _ => rfl)
        obtain ⟨g, off, rfl, hgl, hc⟩ := rd3.ints hne0
        have Hc := Lib.hid hc
        clear hc
        go_wp2_with fail
        go_loopw [9] (fun i wr => ∃ k : Nat, k + 1 ≤ pb.length ∧ i = .int .i64 k ∧ (∀ j, j < k → intAt pb j ≠ a) ∧ Bw w3 wr) (fun i _ => pb.length - (intOf i).toNat)
        case atStart => exact ⟨0, by omega, rfl, fun j hj => absurd hj (by omega), Bw.refl _⟩
        case round =>
          obtain ⟨k, hk, rfl, hno, hbl⟩ := hrel
          have Hno := Lib.hid hno
          clear hno
          have hbA := (hbw2.trans hb3).trans hbl
          by_cases hlt : k + 1 < pb.length
          · have q0 := hbl.cellv (Hc.out k (by omega))
            have q1 := hbl.cellv (Hc.out (k + 1) hlt)
            have q2 := q1
            rw [← Nat.add_assoc] at q2
            have hkk : ((k : Int) + 1).toNat = k + 1 := by omega
            by_cases he : intAt pb k = a
            · have he' : (intAt pb k == a) = true := by simpa using he
              have HF := Lib.hid (HI.out k hlt he Hno.out)
              clear he
              go_wp2
              go_ret2
              rw [← HRR.out.1, ← HRR.out.2, HF.out.1, HF.out.2]
              exact ⟨rfl, hbA⟩
            · have he' : (intAt pb k == a) = false := by simpa using he
              have HE := Lib.hid he
              clear he
              go_wp2
              go_roundw
              case rel => exact ⟨k + 1, by omega, by go_num, snoc_lt Hno.out HE.out, hbl⟩
              case measure => simp [intOf]; omega
          · have HF := Lib.hid (HO.out (fun j hj => Hno.out j (by omega)))
            have HG := Lib.hid (HFN.out HF.out)
            go_wp2
            go_ret2
            rw [← HRR.out.1, ← HRR.out.2, HF.out, HG.out]
            exact ⟨rfl, hbA⟩
      · have HR := Lib.hid (show m = 0 ∧ r = false by rw [← hmt, ← hr]; have := faceC_no (ps := ps) (a := a) (b := b) (by simp [faceC, hab]); exact ⟨this.2, this.1⟩)
        have Ha := Lib.hid ha
        have Hb := Lib.hid hb
        clear hmt hr ha hb
        go_enter Try.func17, Try.ntmps17
        go_wp2_with (go_at_call 23; first | (have hb1x := hb1; clear hb1x; refine (c_l6Node _ _ _ ps b Hb.out _ hn (h.keep (hbx.trans hb1))).mono ?_; rintro e w2 ⟨rfl, hb2⟩; have d2 := hb2.cellv d0) | (refine (c_l6Node _ _ _ ps a Ha.out _ hn (h.keep hbx)).mono ?_; rintro e w1 ⟨rfl, hb1⟩; have d0 := hb1.cellv (p := ⟨w.heap.size, 0, none⟩) (v := .slice A n c) (by go_simp)))
        go_ret2
        rw [HR.out.1, HR.out.2]
        exact ⟨rfl, hbx.trans (hb1.trans hb2)⟩
set_option maxRecDepth 100000 in
theorem c_iFaceTo (A : Option Addr) (n c : Nat) (ps : List Int) (a b : Int) {m : Int} {r : Bool} (hmt : faceN ps a b = m) (hr : faceB ps a b = r) (w : World) (hn : n ≤ 9223372036854775807) (h : Rd w A n 1 (ps.map icell)) :
    Calls Try.prog 11 #[.agg #[.slice A n c], .int .i64 a, .int .i64 b] w fun e w' => e = .returned (.tuple #[.int .i64 m, .bool r]) ∧ Bw w w' := by
  have hl := Lib.hid h.ilen
  have hbx := ((Bw.refl w).alloc (.cells #[.slice A n c] 26)).alloc (.cells #[.int .i64 a, .int .i64 b] 3)
  have hab := allIn_two n a b
  have hN : (goodP ps && allIn n [a, b]) = (nodeP ps a && nodeP ps b) := by
    rw [hab, ← meetC_nodes, meetC, hl.out]
  have HX := Lib.hid (fun r hr => c_hasNodes A n c ps (some ⟨w.heap.size + 1, 0, none⟩) 2 2 [a, b] (r := r) hr _ hn (by omega) (h.keep hbx) (by have := Rd.litI (w.alloc (.cells #[.slice A n c] 26)) [a, b] #[.int .i64 a, .int .i64 b] 3 2 rfl rfl; simpa using this))
  clear hab
  cases hC : (nodeP ps a && nodeP ps b)
  · have HR := Lib.hid (show m = 0 ∧ r = false by rw [← hmt, ← hr]; have := faceC_no (ps := ps) (a := a) (b := b) (by rw [faceC, ← Bool.and_assoc, hC]; rfl); exact ⟨this.2, this.1⟩)
    have HN := Lib.hid (hN.trans hC)
    clear hmt hr hN hC
    go_enter Try.func11, Try.ntmps11
    go_wp2_with (go_at_call 21; refine (HX.out _ HN.out).mono ?_; rintro e w1 ⟨rfl, hb1⟩)
    go_ret2
    rw [HR.out.1, HR.out.2]
    exact ⟨rfl, hbx.trans hb1⟩
  · have HN := Lib.hid (hN.trans hC)
    have hC2 := hC
    simp only [Bool.and_eq_true] at hC2
    have hgb := node_range hC2.2
    cases hab : (a == b)
    · have hc : faceC ps a b = true := by simp [faceC, hC2.1, hC2.2, hab]
      have HRR := Lib.hid (show faceN ps a b = m ∧ faceB ps a b = r from ⟨hmt, hr⟩)
      have hlB := pathP_len ps b
      cases hf : hasI (pathP ps b) a
      · have HR := Lib.hid (show m = 0 ∧ r = false by rw [← hmt, ← hr]; have : faceB ps a b = false := by simp [faceB, hf]
                                                      exact ⟨face_no this, this⟩)
        have hi : idxI (pathP ps b) a < 0 := by have := hasI_idx (pathP ps b) a; rw [hf] at this; simpa using this
        rw [hl.out] at hgb
        generalize hii : idxI (pathP ps b) a = ii at hi
        have HII := Lib.hid hii
        clear hmt hr hN hC hC2 hii hf hc HRR
        go_enter Try.func11, Try.ntmps11
        go_wp2_with (go_at_call 21; refine (HX.out _ HN.out).mono ?_; rintro e w1 ⟨rfl, hb1⟩; have d1 := hb1.cellv (p := ⟨w.heap.size, 0, none⟩) (v := .slice A n c) (by go_simp))
        have hbw1 := hbx.trans hb1
        refine (c_path _ _ _ ps b hgb.1 hgb.2.1 hgb.2.2 _ (h.keep hbw1)).mono ?_
        rintro e w2 ⟨⟨A2, c2, rfl, row2⟩, hb2⟩
        go_wp2_with (go_at_call 27; refine (c_Index _ _ _ _ a HII.out _ (by omega) (row2.rd (fun _ => rfl))).mono ?_; rintro e _ ⟨rfl, rfl⟩)
        go_ret2
        rw [HR.out.1, HR.out.2]
        exact ⟨rfl, hbw1.trans hb2⟩
      · have hfb : faceB ps a b = true := by simp [faceB, hc, hf]
        obtain ⟨k, hk⟩ := face_at hfb
        have hk1 := hk.lt
        have HII := Lib.hid hk.idx
        have HR := Lib.hid (show m = intAt (pathP ps b) (k + 1) ∧ r = true by rw [← hmt, ← hr]; exact ⟨hk.n, hfb⟩)
        have ok := path_ok hgb.1 hgb.2.1 hgb.2.2
        have hne0 := ok.ne
        rw [hl.out] at hgb
        generalize hpb : pathP ps b = pb at hlB HII HR hk1 hne0
        have HB := Lib.hid hpb
        clear hmt hr hN hC hC2 hf hc HRR hk ok hpb hfb
        go_enter Try.func11, Try.ntmps11
        go_wp2_with (go_at_call 21; refine (HX.out _ HN.out).mono ?_; rintro e w1 ⟨rfl, hb1⟩; have d1 := hb1.cellv (p := ⟨w.heap.size, 0, none⟩) (v := .slice A n c) (by go_simp))
        have hbw1 := hbx.trans hb1
        refine (c_path _ _ _ ps b hgb.1 hgb.2.1 hgb.2.2 _ (h.keep hbw1)).mono ?_
        rw [HB.out]
        rintro e w2 ⟨⟨A2, c2, rfl, row2⟩, hb2⟩
        have rd2 := row2.rd (fun _ => rfl)
        obtain ⟨g, off, rfl, hgl, hcc⟩ := rd2.ints hne0
        have q1 := hcc (k + 1) hk1
        have q2 := q1
        rw [← Nat.add_assoc] at q2
        have hkk : ((k : Int) + 1).toNat = k + 1 := by omega
        clear hcc
        go_wp2_with (go_at_call 27; refine (c_Index _ _ _ _ a HII.out _ (by omega) rd2).mono ?_; rintro e _ ⟨rfl, rfl⟩)
        go_ret2
        rw [HR.out.1, HR.out.2]
        exact ⟨rfl, hbw1.trans hb2⟩
    · have HR := Lib.hid (show m = 0 ∧ r = false by rw [← hmt, ← hr]; have := faceC_no (ps := ps) (a := a) (b := b) (by simp [faceC, hab]); exact ⟨this.2, this.1⟩)
      clear hmt hr hN hC hC2
      go_enter Try.func11, Try.ntmps11
      go_wp2_with (go_at_call 21; refine (HX.out _ HN.out).mono ?_; rintro e w1 ⟨rfl, hb1⟩)
      go_ret2
      rw [HR.out.1, HR.out.2]
      exact ⟨rfl, hbx.trans hb1⟩
end Go.Proofs.Ythciecmofgoebaa
