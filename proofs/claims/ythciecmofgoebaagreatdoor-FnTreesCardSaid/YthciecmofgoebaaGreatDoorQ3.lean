
/- The reference's reading of a number. -/
import Derived.Test.YthciecmofgoebaaGreatDoorQ2
namespace Go.Proofs.YthciecmofgoebaaGreatDoor
open Go.RowKit Go.Shelf
theorem ext_drop (s : ByteArray) (k : Nat) : (s.extract k s.size).data.toList = s.data.toList.drop k := by
  rw [ByteArray.data_extract, Array.toList_extract, List.extract_eq_take_drop]
  exact List.take_of_length_le (by simp)
theorem no_len {s : ByteArray} (h : ¬ (1 ≤ (tailN s).length ∧ (tailN s).length ≤ 6)) : rdB s = false ∧ rdV s = 0 :=
  rd_no fun u hu => h ⟨hu.tail.2.1, hu.tail.2.2.1⟩
theorem no_digit {s : ByteArray} {k : Nat} {b : UInt8} (hb : (tailN s)[k]? = some b) (h : b.toNat < 48 ∨ 57 < b.toNat) : rdB s = false ∧ rdV s = 0 :=
  rd_no fun u hu => by
    obtain ⟨d, hd⟩ := Lib.digit_of_decFrom _ _ _ hu.tail.1 k b hb
    have := Lib.digitVal_eq hd
    omega
theorem digit_step {l : List UInt8} {k m : Nat} {b : UInt8} (h : Lib.decFrom 0 (l.take k) = some m) (hb : l[k]? = some b) (h0 : 48 ≤ b.toNat) (h1 : b.toNat ≤ 57) : Lib.decFrom 0 (l.take (k + 1)) = some (m * 10 + (b.toNat - 48)) :=
  Lib.decFrom_take l k 0 m b _ h hb (by simp [Lib.digitVal, h0, h1])
theorem dec_bound {l : List UInt8} {k m : Nat} (h : Lib.decFrom 0 (l.take k) = some m) (hk : k ≤ 6) (hl : k ≤ l.length) : m < 10 ^ k := by
  have := Lib.decFrom_lt _ _ _ h
  rw [List.length_take, Nat.min_eq_left hl] at this
  omega
theorem dec_small {l : List UInt8} {k m : Nat} (h : Lib.decFrom 0 (l.take k) = some m) (hk : k ≤ 6) (hl : k ≤ l.length) : m ≤ 999999 := by
  have := dec_bound h hk hl
  have h2 : 10 ^ k ≤ 10 ^ 6 := Nat.pow_le_pow_right (by decide) hk
  omega
theorem dec_less {l : List UInt8} {k m : Nat} (h : Lib.decFrom 0 (l.take k) = some m) (hk : k < 6) (hl : k ≤ l.length) : m ≤ 99999 := by
  have := dec_bound h (by omega) hl
  have h2 : 10 ^ k ≤ 10 ^ 5 := Nat.pow_le_pow_right (by decide) (by omega)
  omega
theorem end_yes {s : ByteArray} {v : Int} {m : Nat} (hv : v.natAbs = m) (hm : m ≤ 999999) (he : numZ v = s) : rdB s = true ∧ rdV s = v := rd_yes ⟨by omega, by omega, he⟩
theorem end_no {s : ByteArray} {v : Int} {m : Nat} (hv : v.natAbs = m) (hd : Lib.decFrom 0 (tailN s) = some m) (hs : (1 < s.size ∧ s.data.toList.head? = some 45) → v ≤ 0) (hs2 : ¬ (1 < s.size ∧ s.data.toList.head? = some 45) → 0 ≤ v) (he : ¬ numZ v = s) : rdB s = false ∧ rdV s = 0 :=
  rd_no fun u hu => by
    have ⟨h1, _, _, h4⟩ := hu.tail
    rw [hd] at h1
    injection h1 with h1
    have : u = v := by
      by_cases hn : u < 0
      · have := hs (h4.2 hn); omega
      · have := hs2 (fun h => hn (h4.1 h)); omega
    subst this
    exact he hu.2.2
set_option maxRecDepth 100000 in
theorem c_l1Read_plain (s : ByteArray) (hs : s.size ≤ 1048576) (hn : ¬ (1 < s.size ∧ s.data.toList.head? = some 45)) (w : World) :
    Calls Tryz.prog 49 #[.string s] w fun e w' => e = .returned (.tuple #[.int .i64 (rdV s), .bool (rdB s)]) ∧ Bw w w' := by
  have HT := Lib.hid (show tailN s = s.data.toList by rw [tailN, if_neg hn])
  have HQ := Lib.hid hn
  by_cases h1 : 1 < s.size
  · have h0 : ((s[0].toNat : Int) == 45) = false := by
      rw [beq_eq_false_iff_ne]
      intro e
      refine hn ⟨h1, ?_⟩
      rw [List.head?_eq_getElem?, List.getElem?_eq_getElem (by simp; omega)]
      congr 1
      apply UInt8.toNat_inj.1
      have e2 : s[0].toNat = 45 := by omega
      exact e2
    clear hn
    cases h6 : inR (s.size : Int) 1 6
    · have HN := Lib.hid (no_len (s := s) (by rw [HT.out]; have := inR_not.1 h6; simp only [Array.length_toList, ByteArray.size_data]; omega))
      rw [HN.out.1, HN.out.2]
      go_enter Tryz.func49, Tryz.ntmps49
      go_wp2_with (go_at_call 45; refine (c_l1In _ _ _ h6 _).mono ?_; rintro e w1 ⟨rfl, rfl⟩)
      go_ret2
      exact ⟨rfl, Bw.refl _⟩
    · have ⟨l1, l6⟩ := inR_iff.1 h6
      have htl : s.data.toList.length = s.size := by simp
      have HL := Lib.hid htl
      clear htl
      go_enter Tryz.func49, Tryz.ntmps49
      go_wp2_with (go_at_call 45; refine (c_l1In _ _ _ h6 _).mono ?_; rintro e w1 ⟨rfl, rfl⟩)
      clear h6
      go_loop [5, 6] (fun v i => ∃ k m : Nat, k ≤ s.size ∧ i = .int .i64 k ∧ v = .int .i64 m ∧ Lib.decFrom 0 (s.data.toList.take k) = some m) (fun _ i => s.size - (intOf i).toNat)
      case atStart => exact ⟨0, 0, Nat.zero_le _, rfl, rfl, rfl⟩
      case round =>
        obtain ⟨k, m, hk, rfl, rfl, hst⟩ := hrel
        have Hst := Lib.hid hst
        clear hst
        by_cases hlt : k < s.size
        · have HB := Lib.hid (show s.data.toList[k]? = some s[k] by rw [List.getElem?_eq_getElem (by simpa using hlt)]; rfl)
          have hm5 := dec_less Hst.out (by omega) (by rw [HL.out]; omega)
          by_cases c1 : (s[k].toNat : Int) < 48
          · have HN := Lib.hid (no_digit (s := s) (k := k) (b := s[k]) (by rw [HT.out]; exact HB.out) (by omega))
            go_wp2
            go_ret2
            rw [HN.out.1, HN.out.2]
            exact ⟨rfl, Bw.refl _⟩
          · by_cases c2 : (57 : Int) < s[k].toNat
            · have HN := Lib.hid (no_digit (s := s) (k := k) (b := s[k]) (by rw [HT.out]; exact HB.out) (by omega))
              go_wp2
              go_ret2
              rw [HN.out.1, HN.out.2]
              exact ⟨rfl, Bw.refl _⟩
            · have HS := Lib.hid (digit_step Hst.out HB.out (by omega) (by omega))
              go_wp2
              go_round
              case rel => exact ⟨k + 1, m * 10 + (s[k].toNat - 48), by omega, by go_num, by congr 1; omega, HS.out⟩
              case measure => simp [intOf]; omega
        · obtain rfl : k = s.size := by omega
          have hst := Hst.out
          rw [List.take_of_length_le (by rw [HL.out]; omega), ← HT.out] at hst
          have hm6 := dec_small Hst.out (by omega) (by rw [HL.out]; omega)
          by_cases he : numZ ((m : Int)) = s
          · have HN := Lib.hid (end_yes (s := s) (v := (m : Int)) (m := m) (by omega) hm6 he)
            have HE := Lib.hid he
            have he2 : ((numZ ((m : Int))).toList == s.toList) = true := by rw [he]; simp
            clear he
            go_wp2_with (go_at_call 46; refine (c_l1NumZ _ (by omega) (by omega) _).mono ?_; rintro e w1 ⟨rfl, hb1⟩)
            go_ret2
            rw [HN.out.1, HN.out.2]
            exact ⟨rfl, hb1⟩
          · have HN := Lib.hid (end_no (s := s) (v := (m : Int)) (m := m) (by omega) hst (fun h => absurd h HQ.out) (fun _ => by omega) he)
            have he2 := text_ne he
            clear he
            go_wp2_with (go_at_call 46; refine (c_l1NumZ _ (by omega) (by omega) _).mono ?_; rintro e w1 ⟨rfl, hb1⟩)
            go_ret2
            rw [HN.out.1, HN.out.2]
            exact ⟨rfl, hb1⟩
  · clear hn
    cases h6 : inR (s.size : Int) 1 6
    · have HN := Lib.hid (no_len (s := s) (by rw [HT.out]; have := inR_not.1 h6; simp only [Array.length_toList, ByteArray.size_data]; omega))
      rw [HN.out.1, HN.out.2]
      go_enter Tryz.func49, Tryz.ntmps49
      go_wp2_with (go_at_call 45; refine (c_l1In _ _ _ h6 _).mono ?_; rintro e w1 ⟨rfl, rfl⟩)
      go_ret2
      exact ⟨rfl, Bw.refl _⟩
    · have ⟨l1, l6⟩ := inR_iff.1 h6
      have htl : s.data.toList.length = s.size := by simp
      have HL := Lib.hid htl
      clear htl
      go_enter Tryz.func49, Tryz.ntmps49
      go_wp2_with (go_at_call 45; refine (c_l1In _ _ _ h6 _).mono ?_; rintro e w1 ⟨rfl, rfl⟩)
      clear h6
      go_loop [5, 6] (fun v i => ∃ k m : Nat, k ≤ s.size ∧ i = .int .i64 k ∧ v = .int .i64 m ∧ Lib.decFrom 0 (s.data.toList.take k) = some m) (fun _ i => s.size - (intOf i).toNat)
      case atStart => exact ⟨0, 0, Nat.zero_le _, rfl, rfl, rfl⟩
      case round =>
        obtain ⟨k, m, hk, rfl, rfl, hst⟩ := hrel
        have Hst := Lib.hid hst
        clear hst
        by_cases hlt : k < s.size
        · have HB := Lib.hid (show s.data.toList[k]? = some s[k] by rw [List.getElem?_eq_getElem (by simpa using hlt)]; rfl)
          have hm5 := dec_less Hst.out (by omega) (by rw [HL.out]; omega)
          by_cases c1 : (s[k].toNat : Int) < 48
          · have HN := Lib.hid (no_digit (s := s) (k := k) (b := s[k]) (by rw [HT.out]; exact HB.out) (by omega))
            go_wp2
            go_ret2
            rw [HN.out.1, HN.out.2]
            exact ⟨rfl, Bw.refl _⟩
          · by_cases c2 : (57 : Int) < s[k].toNat
            · have HN := Lib.hid (no_digit (s := s) (k := k) (b := s[k]) (by rw [HT.out]; exact HB.out) (by omega))
              go_wp2
              go_ret2
              rw [HN.out.1, HN.out.2]
              exact ⟨rfl, Bw.refl _⟩
            · have HS := Lib.hid (digit_step Hst.out HB.out (by omega) (by omega))
              go_wp2
              go_round
              case rel => exact ⟨k + 1, m * 10 + (s[k].toNat - 48), by omega, by go_num, by congr 1; omega, HS.out⟩
              case measure => simp [intOf]; omega
        · obtain rfl : k = s.size := by omega
          have hst := Hst.out
          rw [List.take_of_length_le (by rw [HL.out]; omega), ← HT.out] at hst
          have hm6 := dec_small Hst.out (by omega) (by rw [HL.out]; omega)
          by_cases he : numZ ((m : Int)) = s
          · have HN := Lib.hid (end_yes (s := s) (v := (m : Int)) (m := m) (by omega) hm6 he)
            have HE := Lib.hid he
            have he2 : ((numZ ((m : Int))).toList == s.toList) = true := by rw [he]; simp
            clear he
            go_wp2_with (go_at_call 46; refine (c_l1NumZ _ (by omega) (by omega) _).mono ?_; rintro e w1 ⟨rfl, hb1⟩)
            go_ret2
            rw [HN.out.1, HN.out.2]
            exact ⟨rfl, hb1⟩
          · have HN := Lib.hid (end_no (s := s) (v := (m : Int)) (m := m) (by omega) hst (fun h => absurd h HQ.out) (fun _ => by omega) he)
            have he2 := text_ne he
            clear he
            go_wp2_with (go_at_call 46; refine (c_l1NumZ _ (by omega) (by omega) _).mono ?_; rintro e w1 ⟨rfl, hb1⟩)
            go_ret2
            rw [HN.out.1, HN.out.2]
            exact ⟨rfl, hb1⟩
set_option maxRecDepth 100000 in
theorem c_l1Read_minus (s : ByteArray) (hs : s.size ≤ 1048576) (hn : 1 < s.size ∧ s.data.toList.head? = some 45) (w : World) :
    Calls Tryz.prog 49 #[.string s] w fun e w' => e = .returned (.tuple #[.int .i64 (rdV s), .bool (rdB s)]) ∧ Bw w w' := by
  have HQ := Lib.hid hn
  obtain ⟨t, hd⟩ : ∃ t, s.extract 1 s.size = t := ⟨_, rfl⟩
  have HT := Lib.hid (show tailN s = t.data.toList by rw [tailN, if_pos hn, ← hd]; exact (ext_drop s 1).symm)
  have hts : t.size < s.size := by rw [← hd]; simp [ByteArray.size_extract]; omega
  have h1 := hn.1
  clear hn
  have h0 : ((s[0].toNat : Int) == 45) = true := by
    have h2 := HQ.out.2
    rw [List.head?_eq_getElem?, List.getElem?_eq_getElem (by simp; omega)] at h2
    injection h2 with h2
    have e2 : s[0] = 45 := h2
    rw [e2]; rfl
  cases h6 : inR (t.size : Int) 1 6
  · have HN := Lib.hid (no_len (s := s) (by rw [HT.out]; have := inR_not.1 h6; simp only [Array.length_toList, ByteArray.size_data]; omega))
    rw [HN.out.1, HN.out.2]
    go_enter Tryz.func49, Tryz.ntmps49
    go_wp2_with (go_at_call 45; refine (c_l1In _ _ _ h6 _).mono ?_; rintro e w1 ⟨rfl, rfl⟩)
    go_ret2
    exact ⟨rfl, Bw.refl _⟩
  · have ⟨l1, l6⟩ := inR_iff.1 h6
    have htl : t.data.toList.length = t.size := by simp
    have HL := Lib.hid htl
    clear htl
    go_enter Tryz.func49, Tryz.ntmps49
    go_wp2_with (go_at_call 45; refine (c_l1In _ _ _ h6 _).mono ?_; rintro e w1 ⟨rfl, rfl⟩)
    clear h6
    go_loop [5, 6] (fun v i => ∃ k m : Nat, k ≤ t.size ∧ i = .int .i64 k ∧ v = .int .i64 m ∧ Lib.decFrom 0 (t.data.toList.take k) = some m) (fun _ i => t.size - (intOf i).toNat)
    case atStart => exact ⟨0, 0, Nat.zero_le _, rfl, rfl, rfl⟩
    case round =>
      obtain ⟨k, m, hk, rfl, rfl, hst⟩ := hrel
      have Hst := Lib.hid hst
      clear hst
      by_cases hlt : k < t.size
      · have HB := Lib.hid (show t.data.toList[k]? = some t[k] by rw [List.getElem?_eq_getElem (by simpa using hlt)]; rfl)
        have hm5 := dec_less Hst.out (by omega) (by rw [HL.out]; omega)
        by_cases c1 : (t[k].toNat : Int) < 48
        · have HN := Lib.hid (no_digit (s := s) (k := k) (b := t[k]) (by rw [HT.out]; exact HB.out) (by omega))
          go_wp2
          go_ret2
          rw [HN.out.1, HN.out.2]
          exact ⟨rfl, Bw.refl _⟩
        · by_cases c2 : (57 : Int) < t[k].toNat
          · have HN := Lib.hid (no_digit (s := s) (k := k) (b := t[k]) (by rw [HT.out]; exact HB.out) (by omega))
            go_wp2
            go_ret2
            rw [HN.out.1, HN.out.2]
            exact ⟨rfl, Bw.refl _⟩
          · have HS := Lib.hid (digit_step Hst.out HB.out (by omega) (by omega))
            go_wp2
            go_round
            case rel => exact ⟨k + 1, m * 10 + (t[k].toNat - 48), by omega, by go_num, by congr 1; omega, HS.out⟩
            case measure => simp [intOf]; omega
      · obtain rfl : k = t.size := by omega
        have hst := Hst.out
        rw [List.take_of_length_le (by rw [HL.out]; omega), ← HT.out] at hst
        have hm6 := dec_small Hst.out (by omega) (by rw [HL.out]; omega)
        by_cases he : numZ (-(m : Int)) = s
        · have HN := Lib.hid (end_yes (s := s) (v := -(m : Int)) (m := m) (by omega) hm6 he)
          have HE := Lib.hid he
          have he2 : ((numZ (-(m : Int))).toList == s.toList) = true := by rw [he]; simp
          clear he
          go_wp2_with (go_at_call 46; refine (c_l1NumZ _ (by omega) (by omega) _).mono ?_; rintro e w1 ⟨rfl, hb1⟩)
          go_ret2
          rw [HN.out.1, HN.out.2]
          exact ⟨rfl, hb1⟩
        · have HN := Lib.hid (end_no (s := s) (v := -(m : Int)) (m := m) (by omega) hst (fun _ => by omega) (fun h => absurd HQ.out h) he)
          have he2 := text_ne he
          clear he
          go_wp2_with (go_at_call 46; refine (c_l1NumZ _ (by omega) (by omega) _).mono ?_; rintro e w1 ⟨rfl, hb1⟩)
          go_ret2
          rw [HN.out.1, HN.out.2]
          exact ⟨rfl, hb1⟩
theorem c_l1Read (s : ByteArray) (hs : s.size ≤ 1048576) (w : World) :
    Calls Tryz.prog 49 #[.string s] w fun e w' => e = .returned (.tuple #[.int .i64 (rdV s), .bool (rdB s)]) ∧ Bw w w' := by
  by_cases hn : 1 < s.size ∧ s.data.toList.head? = some 45
  · exact c_l1Read_minus s hs hn w
  · exact c_l1Read_plain s hs hn w
end Go.Proofs.YthciecmofgoebaaGreatDoor
