/- Sizes of networks: the law's own count, at any rest, Networks' lists copied by the law: elements, receivers, queues, Networks compared by the law: two that read alike, Networks compared and counted by the law, Networks copied by the law. -/
import Derived.Test.YtpjljbhodnlhmaaGreatDoorMN

namespace Go.Proofs.YtpjljbhodnlhmaaGreatDoor
open Go.RowKit
theorem c_szEntrySL (A : Option Addr) (n c : Nat) (es : List Ev) (ts : List Ent) (L0 : Int) (l0 : 0 ≤ L0) (l1 : L0 ≤ 1048576) (w : World) (hm : n ≤ 9223372036854775807) (h : RdE w A n es ts) :
    Calls Tryz.prog 112 #[.slice A n c, .int .i64 L0] w fun e w' => (∃ m : Int, e = .returned (.int .i64 m) ∧ -1 ≤ m ∧ m ≤ 1048576 ∧ (m < 0 ∨ n ≤ 1048576 ∧ ∀ k, k < n → (entAt ts k).n ≤ 1048576)) ∧ Bw w w' := by
  have hl := Lib.hid h.len
  go_enter Tryz.func112, Tryz.ntmps112
  by_cases hN : (n : Int) ≤ L0
  · go_wp2
    go_loopw [1, 5] (fun lv i wr => ∃ (k : Nat) (L : Int), k ≤ n ∧ i = .int .i64 k ∧ lv = .int .i64 L ∧ 0 ≤ L ∧ L ≤ 1048576 ∧ (∀ k', k' < k → (entAt ts k').n ≤ 1048576) ∧ Bw w wr) (fun _ i _ => n - (intOf i).toNat)
    case atStart => exact ⟨0, _, Nat.zero_le _, rfl, rfl, by omega, by omega, fun j hj => absurd hj (by omega), Bw.refl _⟩
    case round =>
      obtain ⟨k, L, hk, rfl, rfl, hL0, hL1, hj, hbl⟩ := hrel
      have HJ := Lib.hid hj
      clear hj
      by_cases hlt : k < n
      · (have hh := h.keep hbl; obtain ⟨b, off, rfl, hb, hc⟩ := hh.at_ (by omega); have ⟨h0, h1, h2⟩ := hc k hlt; have HFK := Lib.hid (hh.fs k hlt).2; clear hc; clear hh; generalize evAt es k = s at *)
        go_wp2_with (go_at_call 144; refine (c_szEntry _ _ _ _ _ L HFK.out hL0 hL1 _).mono ?_; rintro e w1 ⟨⟨m, rfl, hm0, hm1, hmm⟩, hb1⟩)
        · go_ret
          exact ⟨⟨_, rfl, by omega, by omega, .inl (by omega)⟩, hbl.trans hb1⟩
        · go_roundw
          case rel => exact ⟨k + 1, _, by omega, by go_num, rfl, by omega, by omega, snoc_lt HJ.out (by exact hmm.resolve_left (by omega)), hbl.trans hb1⟩
          case measure => simp [intOf]; omega
      · go_wp2
        go_ret
        exact ⟨⟨_, rfl, by omega, by omega, .inr ⟨by omega, fun j hj => HJ.out j (by omega)⟩⟩, hbl⟩
  · go_wp2
    go_ret
    exact ⟨⟨_, rfl, by omega, by omega, .inl (by omega)⟩, Bw.refl _⟩
theorem c_szElementL (t : Int) (A : Option Addr) (n c : Nat) (es : List Ev) (ts : List Ent) (L0 : Int) (l0 : 0 ≤ L0) (l1 : L0 ≤ 1048576) (hm : n ≤ 9223372036854775807) (w : World) (h : RdE w A n es ts) : Calls Tryz.prog 75 #[.agg #[.int .i64 t, .slice A n c], .int .i64 L0] w fun e w' => (∃ m : Int, e = .returned (.int .i64 m) ∧ -1 ≤ m ∧ m ≤ 1048576 ∧ (m < 0 ∨ n ≤ 1048576 ∧ ∀ k, k < n → (entAt ts k).n ≤ 1048576)) ∧ Bw w w' := by
  go_enter Tryz.func75, Tryz.ntmps75
  go_wp2_with (go_at_call 112; refine (c_szEntrySL _ _ _ es ts L0 l0 l1 _ hm (h.keep (Bw.alloc (Bw.refl _) _))).mono ?_; rintro e w1 ⟨⟨m, rfl, hmy, hmx, hmm⟩, hb1⟩; have HM := Lib.hid hmm; clear hmm)
  · go_ret
    exact ⟨⟨_, rfl, by omega, by omega, .inl (by omega)⟩, Bw.trans (Bw.alloc (Bw.refl _) _) hb1⟩
  · go_ret
    exact ⟨⟨_, rfl, by omega, by omega, HM.out⟩, Bw.trans (Bw.alloc (Bw.refl _) _) hb1⟩
/-- An element's lists are small. -/
def ElM.sm (e : ElM) : Prop := e.n ≤ 1048576 ∧ ∀ k, k < e.n → (entAt e.ts k).n ≤ 1048576
theorem c_szElementSL (A : Option Addr) (n c : Nat) (xs : List ElM) (L0 : Int) (l0 : 0 ≤ L0) (l1 : L0 ≤ 1048576) (w : World) (hm : n ≤ 9223372036854775807) (h : Rd w A n 2 (xs.map ElM.cells)) (ho : ∀ k, k < xs.length → (elAt xs k).ok w) :
    Calls Tryz.prog 42 #[.slice A n c, .int .i64 L0] w fun e w' => (∃ m : Int, e = .returned (.int .i64 m) ∧ -1 ≤ m ∧ m ≤ 1048576 ∧ (m < 0 ∨ n ≤ 1048576 ∧ ∀ k, k < n → (elAt xs k).sm)) ∧ Bw w w' := by
  have hl := Lib.hid (show xs.length = n by simpa using h.len); have HO := Lib.hid ho; clear ho
  go_enter Tryz.func42, Tryz.ntmps42
  by_cases hN : (n : Int) ≤ L0
  · go_wp2
    go_loopw [1, 5] (fun lv i wr => ∃ (k : Nat) (L : Int), k ≤ n ∧ i = .int .i64 k ∧ lv = .int .i64 L ∧ 0 ≤ L ∧ L ≤ 1048576 ∧ (∀ k', k' < k → (elAt xs k').sm) ∧ Bw w wr) (fun _ i _ => n - (intOf i).toNat)
    case atStart => exact ⟨0, _, Nat.zero_le _, rfl, rfl, by omega, by omega, fun j hj => absurd hj (by omega), Bw.refl _⟩
    case round =>
      obtain ⟨k, L, hk, rfl, rfl, hL0, hL1, hj, hbl⟩ := hrel
      have HJ := Lib.hid hj
      clear hj
      by_cases hlt : k < n
      · (obtain ⟨b, off, rfl, hb, hc⟩ := (h.keep hbl).els (by omega); have ⟨h0, h1⟩ := hc k hlt; have HFK := Lib.hid ((HO.out k (by rw [hl.out]; exact hlt)).keep hbl); have hcc := HFK.out.2.1; have hcd := HFK.out.1; clear hc; generalize hse : elAt xs k = s at *; have HSE := Lib.hid hse; clear hse; unfold maxLen at hcc)
        go_wp2_with (go_at_call 75; refine (c_szElementL _ _ _ _ s.es s.ts L hL0 hL1 (by omega) _ HFK.out.2.2).mono ?_; rintro e w1 ⟨⟨m, rfl, hm0, hm1, hmm⟩, hb1⟩)
        · go_ret
          exact ⟨⟨_, rfl, by omega, by omega, .inl (by omega)⟩, hbl.trans hb1⟩
        · go_roundw
          case rel => exact ⟨k + 1, _, by omega, by go_num, rfl, by omega, by omega, snoc_lt HJ.out (by rw [HSE.out]; exact hmm.resolve_left (by omega)), hbl.trans hb1⟩
          case measure => simp [intOf]; omega
      · go_wp2
        go_ret
        exact ⟨⟨_, rfl, by omega, by omega, .inr ⟨by omega, fun j hj => HJ.out j (by omega)⟩⟩, hbl⟩
  · go_wp2
    go_ret
    exact ⟨⟨_, rfl, by omega, by omega, .inl (by omega)⟩, Bw.refl _⟩
theorem c_szSlotSL (A : Option Addr) (n c : Nat) (ts : List Slot) (hf : fitL ts) (L0 : Int) (l0 : 0 ≤ L0) (l1 : L0 ≤ 1048576) (w : World) (hm : n ≤ 9223372036854775807) (h : Rd w A n 2 (ts.map Slot.cells)) :
    Calls Tryz.prog 145 #[.slice A n c, .int .i64 L0] w fun e w' => (∃ m : Int, e = .returned (.int .i64 m) ∧ -1 ≤ m ∧ m ≤ 1048576 ∧ (m < 0 ∨ n ≤ 1048576)) ∧ Bw w w' := by
  have hl := Lib.hid h.slotlen; have HF := Lib.hid hf; clear hf
  go_enter Tryz.func145, Tryz.ntmps145
  by_cases hN : (n : Int) ≤ L0
  · go_wp2
    go_loopw [1, 5] (fun lv i wr => ∃ (k : Nat) (L : Int), k ≤ n ∧ i = .int .i64 k ∧ lv = .int .i64 L ∧ 0 ≤ L ∧ L ≤ 1048576 ∧ Bw w wr) (fun _ i _ => n - (intOf i).toNat)
    case atStart => exact ⟨0, _, Nat.zero_le _, rfl, rfl, by omega, by omega, Bw.refl _⟩
    case round =>
      obtain ⟨k, L, hk, rfl, rfl, hL0, hL1, hbl⟩ := hrel
      by_cases hlt : k < n
      · (obtain ⟨b, off, rfl, hb, hc⟩ := (h.keep hbl).slots (by omega); have ⟨h0, h1⟩ := hc k hlt; have hfk := HF.out k (by rw [hl.out]; exact hlt); clear hc; generalize slotAt ts k = s at *; have HFK := Lib.hid hfk; clear hfk)
        go_wp2_with (go_at_call 166; refine (c_szSlot _ _ L HFK.out hL0 hL1 _).mono ?_; rintro e w1 ⟨⟨m, rfl, hm0, hm1⟩, hb1⟩; replace hb1 := hbl.trans hb1)
        · go_ret
          exact ⟨⟨_, rfl, by omega, by omega, .inl (by omega)⟩, by (repeat (first | with_reducible assumption | exact Bw.refl _ | (with_reducible refine Bw.setCell ?_ (by simp) _) | (with_reducible refine Bw.alloc ?_ _) | (with_reducible refine Bw.drew ?_) | (with_reducible refine Bw.drewN ?_ _)))⟩
        · go_roundw
          case rel => exact ⟨k + 1, _, by omega, by go_num, rfl, by omega, by omega, by (repeat (first | with_reducible assumption | exact Bw.refl _ | (with_reducible refine Bw.setCell ?_ (by simp) _) | (with_reducible refine Bw.alloc ?_ _) | (with_reducible refine Bw.drew ?_) | (with_reducible refine Bw.drewN ?_ _)))⟩
          case measure => simp [intOf]; omega
      · go_wp2
        go_ret
        exact ⟨⟨_, rfl, by omega, by omega, .inr (by omega)⟩, hbl⟩
  · go_wp2
    go_ret
    exact ⟨⟨_, rfl, by omega, by omega, .inl (by omega)⟩, Bw.refl _⟩
theorem c_szPacketL (k nu tr le : Int) (d : ByteArray) (hd : d.size ≤ maxLen) (x : Int) (h0 : 0 ≤ x) (h1 : x ≤ 1048576) (w : World) : Calls Tryz.prog 115 #[.agg #[.int .i64 k, .int .i64 nu, .int .i64 tr, .int .i64 le, .string d], .int .i64 x] w fun e w' => (∃ m : Int, e = .returned (.int .i64 m) ∧ -1 ≤ m ∧ m ≤ 1048576) ∧ Bw w w' := by
  unfold maxLen at hd
  go_enter Tryz.func115, Tryz.ntmps115
  go_wp2
  all_goals
    go_ret
    exact ⟨⟨_, rfl, by omega, by omega⟩, by (repeat (first | with_reducible assumption | exact Bw.refl _ | (with_reducible refine Bw.setCell ?_ (by simp) _) | (with_reducible refine Bw.alloc ?_ _) | (with_reducible refine Bw.drew ?_) | (with_reducible refine Bw.drewN ?_ _)))⟩
theorem c_szPacketSL (A : Option Addr) (n c : Nat) (ps : List Pk) (hf : fitP ps) (L0 : Int) (l0 : 0 ≤ L0) (l1 : L0 ≤ 1048576) (w : World) (hm : n ≤ 9223372036854775807) (h : Rd w A n 5 (ps.map Pk.cells)) :
    Calls Tryz.prog 77 #[.slice A n c, .int .i64 L0] w fun e w' => (∃ m : Int, e = .returned (.int .i64 m) ∧ -1 ≤ m ∧ m ≤ 1048576 ∧ (m < 0 ∨ n ≤ 1048576)) ∧ Bw w w' := by
  have hl := Lib.hid h.pklen; have HF := Lib.hid hf; clear hf
  go_enter Tryz.func77, Tryz.ntmps77
  by_cases hN : (n : Int) ≤ L0
  · go_wp2
    go_loopw [1, 5] (fun lv i wr => ∃ (k : Nat) (L : Int), k ≤ n ∧ i = .int .i64 k ∧ lv = .int .i64 L ∧ 0 ≤ L ∧ L ≤ 1048576 ∧ Bw w wr) (fun _ i _ => n - (intOf i).toNat)
    case atStart => exact ⟨0, _, Nat.zero_le _, rfl, rfl, by omega, by omega, Bw.refl _⟩
    case round =>
      obtain ⟨k, L, hk, rfl, rfl, hL0, hL1, hbl⟩ := hrel
      by_cases hlt : k < n
      · (obtain ⟨b, off, rfl, hb, hc⟩ := (h.keep hbl).pks (by omega); have ⟨h0, h1, h2, h3, h4⟩ := hc k hlt; have hfk := HF.out k (by rw [hl.out]; exact hlt); clear hc; generalize pkAt ps k = s at *; have HFK := Lib.hid hfk; clear hfk)
        go_wp2_with (go_at_call 115; refine (c_szPacketL _ _ _ _ _ HFK.out L hL0 hL1 _).mono ?_; rintro e w1 ⟨⟨m, rfl, hm0, hm1⟩, hb1⟩; replace hb1 := hbl.trans hb1)
        · go_ret
          exact ⟨⟨_, rfl, by omega, by omega, .inl (by omega)⟩, by (repeat (first | with_reducible assumption | exact Bw.refl _ | (with_reducible refine Bw.setCell ?_ (by simp) _) | (with_reducible refine Bw.alloc ?_ _) | (with_reducible refine Bw.drew ?_) | (with_reducible refine Bw.drewN ?_ _)))⟩
        · go_roundw
          case rel => exact ⟨k + 1, _, by omega, by go_num, rfl, by omega, by omega, by (repeat (first | with_reducible assumption | exact Bw.refl _ | (with_reducible refine Bw.setCell ?_ (by simp) _) | (with_reducible refine Bw.alloc ?_ _) | (with_reducible refine Bw.drew ?_) | (with_reducible refine Bw.drewN ?_ _)))⟩
          case measure => simp [intOf]; omega
      · go_wp2
        go_ret
        exact ⟨⟨_, rfl, by omega, by omega, .inr (by omega)⟩, hbl⟩
  · go_wp2
    go_ret
    exact ⟨⟨_, rfl, by omega, by omega, .inl (by omega)⟩, Bw.refl _⟩
theorem c_szStringSL (A : Option Addr) (n c : Nat) (ts : List ByteArray) (hf : fitS ts) (L0 : Int) (l0 : 0 ≤ L0) (l1 : L0 ≤ 1048576) (w : World) (hm : n ≤ 9223372036854775807) (h : Rd w A n 1 (ts.map scell)) :
    Calls Tryz.prog 111 #[.slice A n c, .int .i64 L0] w fun e w' => (∃ m : Int, e = .returned (.int .i64 m) ∧ -1 ≤ m ∧ m ≤ 1048576 ∧ (m < 0 ∨ n ≤ 1048576)) ∧ Bw w w' := by
  have hl := Lib.hid h.slen; have HF := Lib.hid hf; clear hf
  go_enter Tryz.func111, Tryz.ntmps111
  by_cases hN : (n : Int) ≤ L0
  · go_wp2
    go_loopw [1, 5] (fun lv i wr => ∃ (k : Nat) (L : Int), k ≤ n ∧ i = .int .i64 k ∧ lv = .int .i64 L ∧ 0 ≤ L ∧ L ≤ 1048576 ∧ Bw w wr) (fun _ i _ => n - (intOf i).toNat)
    case atStart => exact ⟨0, _, Nat.zero_le _, rfl, rfl, by omega, by omega, Bw.refl _⟩
    case round =>
      obtain ⟨k, L, hk, rfl, rfl, hL0, hL1, hbl⟩ := hrel
      by_cases hlt : k < n
      · (obtain ⟨b, off, rfl, hb, hc⟩ := (h.keep hbl).strs (by omega); have h0 := hc k hlt; have hfk := HF.out k (by rw [hl.out]; exact hlt); unfold maxLen at hfk; clear hc; generalize strAt ts k = s at *)
        go_wp2_with (fail)
        · go_ret
          exact ⟨⟨_, rfl, by omega, by omega, .inl (by omega)⟩, by (repeat (first | with_reducible assumption | exact Bw.refl _ | (with_reducible refine Bw.setCell ?_ (by simp) _) | (with_reducible refine Bw.alloc ?_ _) | (with_reducible refine Bw.drew ?_) | (with_reducible refine Bw.drewN ?_ _)))⟩
        · go_roundw
          case rel => exact ⟨k + 1, _, by omega, by go_num, rfl, by omega, by omega, by (repeat (first | with_reducible assumption | exact Bw.refl _ | (with_reducible refine Bw.setCell ?_ (by simp) _) | (with_reducible refine Bw.alloc ?_ _) | (with_reducible refine Bw.drew ?_) | (with_reducible refine Bw.drewN ?_ _)))⟩
          case measure => simp [intOf]; omega
      · go_wp2
        go_ret
        exact ⟨⟨_, rfl, by omega, by omega, .inr (by omega)⟩, hbl⟩
  · go_wp2
    go_ret
    exact ⟨⟨_, rfl, by omega, by omega, .inl (by omega)⟩, Bw.refl _⟩
theorem c_szReceiveWindowL (t : Int) (A : Option Addr) (n c : Nat) (ts : List Slot) (hf : fitL ts) (L0 : Int) (l0 : 0 ≤ L0) (l1 : L0 ≤ 1048576) (hm : n ≤ 9223372036854775807) (w : World) (h : Rd w A n 2 (ts.map Slot.cells)) : Calls Tryz.prog 113 #[.agg #[.int .i64 t, .slice A n c], .int .i64 L0] w fun e w' => (∃ m : Int, e = .returned (.int .i64 m) ∧ -1 ≤ m ∧ m ≤ 1048576 ∧ (m < 0 ∨ n ≤ 1048576)) ∧ Bw w w' := by
  go_enter Tryz.func113, Tryz.ntmps113
  go_wp2_with (go_at_call 145; refine (c_szSlotSL _ _ _ ts hf L0 l0 l1 _ hm (h.keep (Bw.alloc (Bw.refl _) _))).mono ?_; rintro e w1 ⟨⟨m, rfl, hmy, hmx, hmm⟩, hb1⟩)
  all_goals
    go_ret
    exact ⟨⟨_, rfl, by omega, by omega, by omega⟩, Bw.trans (Bw.alloc (Bw.refl _) _) hb1⟩
theorem c_szRequestSM (A : Option Addr) (n c : Nat) (L : Int) (h0 : 0 ≤ L) (h1 : L ≤ 1048576) (hm : n ≤ 9223372036854775807) (w : World) : Calls Tryz.prog 114 #[.slice A n c, .int .i64 L] w fun e w' => (∃ m : Int, e = .returned (.int .i64 m) ∧ -1 ≤ m ∧ m ≤ 1048576 ∧ (m < 0 ∨ n ≤ 1048576)) ∧ w = w' := by
  go_enter Tryz.func114, Tryz.ntmps114
  by_cases h : (n : Int) ≤ L
  all_goals
    go_wp2
    go_ret
    refine ⟨⟨_, rfl, by omega, by omega, by omega⟩, rfl⟩
theorem c_szHoldSM (A : Option Addr) (n c : Nat) (L : Int) (h0 : 0 ≤ L) (h1 : L ≤ 1048576) (hm : n ≤ 9223372036854775807) (w : World) : Calls Tryz.prog 74 #[.slice A n c, .int .i64 L] w fun e w' => (∃ m : Int, e = .returned (.int .i64 m) ∧ -1 ≤ m ∧ m ≤ 1048576 ∧ (m < 0 ∨ n ≤ 1048576)) ∧ w = w' := by
  go_enter Tryz.func74, Tryz.ntmps74
  by_cases h : (n : Int) ≤ L
  all_goals
    go_wp2
    go_ret
    refine ⟨⟨_, rfl, by omega, by omega, by omega⟩, rfl⟩
theorem c_szReceiverL (st : Bool) (ck t : Int) (A : Option Addr) (n c : Nat) (ts : List Slot) (hf : fitL ts) (B : Option Addr) (m d : Nat) (L0 : Int) (l0 : 0 ≤ L0) (l1 : L0 ≤ 1048576) (hn : n ≤ 9223372036854775807) (hm : m ≤ 9223372036854775807) (w : World) (h : Rd w A n 2 (ts.map Slot.cells)) : Calls Tryz.prog 76 #[.agg #[.bool st, .int .i64 ck, .int .i64 t, .slice A n c, .slice B m d], .int .i64 L0] w fun e w' => (∃ x : Int, e = .returned (.int .i64 x) ∧ -1 ≤ x ∧ x ≤ 1048576 ∧ (x < 0 ∨ (n ≤ 1048576 ∧ m ≤ 1048576))) ∧ Bw w w' := by
  have hbx : Bw w (w.alloc (.cells #[.bool st, .int .i64 ck, .int .i64 t, .slice A n c, .slice B m d] 117)) := Bw.alloc (Bw.refl _) _
  go_enter Tryz.func76, Tryz.ntmps76
  go_wp2_with (go_at_call 113; refine (c_szReceiveWindowL t _ _ _ ts hf L0 l0 l1 hn _ (h.keep hbx)).mono ?_; rintro e w1 ⟨⟨x, rfl, hmy, hmx, hmm⟩, hb1⟩; have b5 := hb1.cellv (p := ⟨w.heap.size, 4, none⟩) (v := .slice B m d) (by go_simp))
  · go_ret
    exact ⟨⟨_, rfl, by omega, by omega, by omega⟩, hbx.trans hb1⟩
  · refine (c_szRequestSM _ _ _ x (by omega) hmx hm _).mono ?_
    rintro e w2 ⟨⟨y, rfl, hyz, hyx, hyy⟩, rfl⟩
    go_wp2_with fail
    all_goals
      go_ret
      exact ⟨⟨_, rfl, by omega, by omega, by omega⟩, hbx.trans hb1⟩
/-- A receiver's lists are small. -/
def ReM.sm (r : ReM) : Prop := r.n ≤ 1048576 ∧ r.m ≤ 1048576
theorem c_szReceiverSL (A : Option Addr) (n c : Nat) (xs : List ReM) (L0 : Int) (l0 : 0 ≤ L0) (l1 : L0 ≤ 1048576) (w : World) (hm : n ≤ 9223372036854775807) (h : Rd w A n 5 (xs.map ReM.cells)) (ho : ∀ k, k < xs.length → (reAt xs k).ok w) :
    Calls Tryz.prog 43 #[.slice A n c, .int .i64 L0] w fun e w' => (∃ m : Int, e = .returned (.int .i64 m) ∧ -1 ≤ m ∧ m ≤ 1048576 ∧ (m < 0 ∨ n ≤ 1048576 ∧ ∀ k, k < n → (reAt xs k).sm)) ∧ Bw w w' := by
  have hl := Lib.hid (show xs.length = n by simpa using h.len); have HO := Lib.hid ho; clear ho
  go_enter Tryz.func43, Tryz.ntmps43
  by_cases hN : (n : Int) ≤ L0
  · go_wp2
    go_loopw [1, 5] (fun lv i wr => ∃ (k : Nat) (L : Int), k ≤ n ∧ i = .int .i64 k ∧ lv = .int .i64 L ∧ 0 ≤ L ∧ L ≤ 1048576 ∧ (∀ k', k' < k → (reAt xs k').sm) ∧ Bw w wr) (fun _ i _ => n - (intOf i).toNat)
    case atStart => exact ⟨0, _, Nat.zero_le _, rfl, rfl, by omega, by omega, fun j hj => absurd hj (by omega), Bw.refl _⟩
    case round =>
      obtain ⟨k, L, hk, rfl, rfl, hL0, hL1, hj, hbl⟩ := hrel
      have HJ := Lib.hid hj
      clear hj
      by_cases hlt : k < n
      · (obtain ⟨b, off, rfl, hb, hc⟩ := (h.keep hbl).res (by omega); have ⟨h0, h1, h2, h3, h4⟩ := hc k hlt; have HFK := Lib.hid ((HO.out k (by rw [hl.out]; exact hlt)).keep hbl); have hcc := HFK.out.2.1; have hcd := HFK.out.1; have hce := HFK.out.2.2.2.2.2.1; have hcf := HFK.out.2.2.2.2.1; clear hc; generalize hse : reAt xs k = s at *; have HSE := Lib.hid hse; clear hse; unfold maxLen at hcc hce)
        go_wp2_with (go_at_call 76; refine (c_szReceiverL _ _ _ _ _ _ s.ts HFK.out.2.2.1 _ _ _ L hL0 hL1 (by omega) (by omega) _ HFK.out.2.2.2.1).mono ?_; rintro e w1 ⟨⟨m, rfl, hm0, hm1, hmm⟩, hb1⟩)
        · go_ret
          exact ⟨⟨_, rfl, by omega, by omega, .inl (by omega)⟩, hbl.trans hb1⟩
        · go_roundw
          case rel => exact ⟨k + 1, _, by omega, by go_num, rfl, by omega, by omega, snoc_lt HJ.out (by rw [HSE.out]; exact hmm.resolve_left (by omega)), hbl.trans hb1⟩
          case measure => simp [intOf]; omega
      · go_wp2
        go_ret
        exact ⟨⟨_, rfl, by omega, by omega, .inr ⟨by omega, fun j hj => HJ.out j (by omega)⟩⟩, hbl⟩
  · go_wp2
    go_ret
    exact ⟨⟨_, rfl, by omega, by omega, .inl (by omega)⟩, Bw.refl _⟩
def QuM.sm (q : QuM) : Prop := q.n ≤ 1048576
theorem c_szPacketSSL (A : Option Addr) (n c : Nat) (xs : List QuM) (L0 : Int) (l0 : 0 ≤ L0) (l1 : L0 ≤ 1048576) (w : World) (hm : n ≤ 9223372036854775807) (h : Rd w A n 1 (xs.map QuM.cells)) (ho : ∀ k, k < xs.length → (quAt xs k).ok w) :
    Calls Tryz.prog 44 #[.slice A n c, .int .i64 L0] w fun e w' => (∃ m : Int, e = .returned (.int .i64 m) ∧ -1 ≤ m ∧ m ≤ 1048576 ∧ (m < 0 ∨ n ≤ 1048576 ∧ ∀ k, k < n → (quAt xs k).sm)) ∧ Bw w w' := by
  have hl := Lib.hid (show xs.length = n by simpa using h.len); have HO := Lib.hid ho; clear ho
  go_enter Tryz.func44, Tryz.ntmps44
  by_cases hN : (n : Int) ≤ L0
  · go_wp2
    go_loopw [1, 5] (fun lv i wr => ∃ (k : Nat) (L : Int), k ≤ n ∧ i = .int .i64 k ∧ lv = .int .i64 L ∧ 0 ≤ L ∧ L ≤ 1048576 ∧ (∀ k', k' < k → (quAt xs k').sm) ∧ Bw w wr) (fun _ i _ => n - (intOf i).toNat)
    case atStart => exact ⟨0, _, Nat.zero_le _, rfl, rfl, by omega, by omega, fun j hj => absurd hj (by omega), Bw.refl _⟩
    case round =>
      obtain ⟨k, L, hk, rfl, rfl, hL0, hL1, hj, hbl⟩ := hrel
      have HJ := Lib.hid hj
      clear hj
      by_cases hlt : k < n
      · (obtain ⟨b, off, rfl, hb, hc⟩ := (h.keep hbl).qus (by omega); have h0 := hc k hlt; have HFK := Lib.hid ((HO.out k (by rw [hl.out]; exact hlt)).keep hbl); have hcc := HFK.out.2.1; have hcd := HFK.out.1; clear hc; generalize hse : quAt xs k = s at *; have HSE := Lib.hid hse; clear hse; unfold maxLen at hcc)
        go_wp2_with (go_at_call 77; refine (c_szPacketSL _ _ _ s.ps HFK.out.2.2.1 L hL0 hL1 _ (by omega) HFK.out.2.2.2).mono ?_; rintro e w1 ⟨⟨m, rfl, hm0, hm1, hmm⟩, hb1⟩)
        · go_ret
          exact ⟨⟨_, rfl, by omega, by omega, .inl (by omega)⟩, hbl.trans hb1⟩
        · go_roundw
          case rel => exact ⟨k + 1, _, by omega, by go_num, rfl, by omega, by omega, snoc_lt HJ.out (by rw [HSE.out]; exact hmm.resolve_left (by omega)), hbl.trans hb1⟩
          case measure => simp [intOf]; omega
      · go_wp2
        go_ret
        exact ⟨⟨_, rfl, by omega, by omega, .inr ⟨by omega, fun j hj => HJ.out j (by omega)⟩⟩, hbl⟩
  · go_wp2
    go_ret
    exact ⟨⟨_, rfl, by omega, by omega, .inl (by omega)⟩, Bw.refl _⟩
theorem c_szSendWindowL (t z : Int) (A : Option Addr) (n c : Nat) (ss : List ByteArray) (hf : fitS ss) (L0 : Int) (l0 : 0 ≤ L0) (l1 : L0 ≤ 1048576) (hm : n ≤ 9223372036854775807) (w : World) (h : Rd w A n 1 (ss.map scell)) : Calls Tryz.prog 73 #[.agg #[.int .i64 t, .int .i64 z, .slice A n c], .int .i64 L0] w fun e w' => (∃ m : Int, e = .returned (.int .i64 m) ∧ -1 ≤ m ∧ m ≤ 1048576 ∧ (m < 0 ∨ n ≤ 1048576)) ∧ Bw w w' := by
  go_enter Tryz.func73, Tryz.ntmps73
  go_wp2_with (go_at_call 111; refine (c_szStringSL _ _ _ ss hf L0 l0 l1 _ hm (h.keep (Bw.alloc (Bw.refl _) _))).mono ?_; rintro e w1 ⟨⟨m, rfl, hmy, hmx, hmm⟩, hb1⟩)
  all_goals
    go_ret
    exact ⟨⟨_, rfl, by omega, by omega, by omega⟩, Bw.trans (Bw.alloc (Bw.refl _) _) hb1⟩
theorem c_szSourceL (t z : Int) (A : Option Addr) (n c : Nat) (ss : List ByteArray) (hf : fitS ss) (ck q : Int) (B : Option Addr) (m d : Nat) (L0 : Int) (l0 : 0 ≤ L0) (l1 : L0 ≤ 1048576) (hn : n ≤ 9223372036854775807) (hm : m ≤ 9223372036854775807) (w : World) (h : Rd w A n 1 (ss.map scell)) : Calls Tryz.prog 41 #[.agg #[.int .i64 t, .int .i64 z, .slice A n c, .int .i64 ck, .int .i64 q, .slice B m d], .int .i64 L0] w fun e w' => (∃ x : Int, e = .returned (.int .i64 x) ∧ -1 ≤ x ∧ x ≤ 1048576 ∧ (x < 0 ∨ (n ≤ 1048576 ∧ m ≤ 1048576))) ∧ Bw w w' := by
  have hbx : Bw w (w.alloc (.cells #[.int .i64 t, .int .i64 z, .slice A n c, .int .i64 ck, .int .i64 q, .slice B m d] 49)) := Bw.alloc (Bw.refl _) _
  go_enter Tryz.func41, Tryz.ntmps41
  go_wp2_with (go_at_call 73; refine (c_szSendWindowL t z _ _ _ ss hf L0 l0 l1 hn _ (h.keep hbx)).mono ?_; rintro e w1 ⟨⟨x, rfl, hmy, hmx, hmm⟩, hb1⟩; have b5 := hb1.cellv (p := ⟨w.heap.size, 5, none⟩) (v := .slice B m d) (by go_simp))
  · go_ret
    exact ⟨⟨_, rfl, by omega, by omega, by omega⟩, hbx.trans hb1⟩
  · refine (c_szHoldSM _ _ _ x (by omega) hmx hm _).mono ?_
    rintro e w2 ⟨⟨y, rfl, hyz, hyx, hyy⟩, rfl⟩
    go_wp2_with fail
    all_goals
      go_ret
      exact ⟨⟨_, rfl, by omega, by omega, by omega⟩, hbx.trans hb1⟩
theorem c_szTreeM (A : Option Addr) (n c : Nat) (hm : n ≤ 9223372036854775807) (w : World) : Calls Tryz.prog 5 #[.agg #[.slice A n c], .int .i64 1048576] w fun e w' => (∃ m : Int, e = .returned (.int .i64 m) ∧ -1 ≤ m ∧ m ≤ 1048576 ∧ (m < 0 ∨ n ≤ 1048576)) ∧ Bw w w' := by
  go_enter Tryz.func5, Tryz.ntmps5
  go_wp2_with (go_at_call 18; refine (c_szIntSL _ _ _ 1048576 (by unfold maxLen; exact hm) (by omega) (by omega) _).mono ?_; rintro e w1 ⟨⟨m, rfl, hmy, hmx, hmm⟩, rfl⟩)
  all_goals
    go_ret
    exact ⟨⟨_, rfl, by omega, by omega, by omega⟩, by (repeat (first | with_reducible assumption | exact Bw.refl _ | (with_reducible refine Bw.setCell ?_ (by simp) _) | (with_reducible refine Bw.alloc ?_ _) | (with_reducible refine Bw.drew ?_) | (with_reducible refine Bw.drewN ?_ _)))⟩
end Go.Proofs.YtpjljbhodnlhmaaGreatDoor

namespace Go.Proofs.YtpjljbhodnlhmaaGreatDoor
open Go.RowKit
/-- Rows that lie behind lo are as they were. -/
def Off (lo : Nat) (w w' : World) : Prop := ∀ (T : Type) (e : TypeId) (sz : Nat) (enc : T → List Value) (A : Option Addr) (n c : Nat) (ts : List T), Row w lo e sz enc A n c ts → Row w' lo e sz enc A n c ts
theorem Off.refl (lo : Nat) (w : World) : Off lo w w := fun _ _ _ _ _ _ _ _ h => h
theorem Off.trans {lo : Nat} {w w1 w2 : World} (h : Off lo w w1) (h' : Off lo w1 w2) : Off lo w w2 := fun T e sz enc A n c ts r => h' T e sz enc A n c ts (h T e sz enc A n c ts r)
theorem Off.bw {lo : Nat} {w w' : World} (h : Bw w w') : Off lo w w' := fun _ _ _ _ _ _ _ _ r => r.keep h
theorem Off.grown {lo g : Nat} {w w' : World} (h : w.grownBy w' (some g)) (hg : g < lo) : Off lo w w' := fun _ _ _ _ _ _ _ _ r => r.grown h (fun x hx he => by have := (r.lt x hx).1; have := Option.some.inj he; omega)
theorem Off.set {lo : Nat} {w : World} (p : Addr) (u : Value) (hg : p.block < lo) : Off lo w (w.setCell p u) := Off.grown (grown_setCell w p u) hg
theorem Off.store {lo : Nat} {w w' : World} (h : Off lo w w') (p : Addr) (u : Value) (hg : p.block < lo) : Off lo w (w'.setCell p u) := h.trans (Off.set p u hg)
def ElM.own (w : World) (lo : Nat) (e : ElM) : Prop := RowE w lo e.A e.n e.c e.es e.ts
theorem ElM.own.off {w w' : World} {lo : Nat} {e : ElM} (h : e.own w lo) (o : Off lo w w') : e.own w' lo := ⟨o _ _ _ _ _ _ _ _ h.row, h.vs, fun k hk => o _ _ _ _ _ _ _ _ (h.fs k hk), h.ne0, h.ne⟩
theorem ElM.own.low {w : World} {lo lo' : Nat} {e : ElM} (h : e.own w lo) (hl : lo' ≤ lo) : e.own w lo' := RowE.mono h hl
theorem ElM.own.ok {w : World} {lo : Nat} {e : ElM} (h : e.own w lo) : e.ok w := ⟨h.row.caps.1, h.row.caps.2, h.rd⟩
def ReM.own (w : World) (lo : Nat) (r : ReM) : Prop := fitL r.ts ∧ Row w lo 148 2 Slot.cells r.A r.n r.c r.ts ∧ Row w lo 151 4 Request.cells r.B r.m r.d r.rs
theorem ReM.own.off {w w' : World} {lo : Nat} {r : ReM} (h : r.own w lo) (o : Off lo w w') : r.own w' lo := ⟨h.1, o _ _ _ _ _ _ _ _ h.2.1, o _ _ _ _ _ _ _ _ h.2.2⟩
theorem ReM.own.low {w : World} {lo lo' : Nat} {r : ReM} (h : r.own w lo) (hl : lo' ≤ lo) : r.own w lo' := ⟨h.1, h.2.1.mono hl, h.2.2.mono hl⟩
theorem ReM.own.ok {w : World} {lo : Nat} {r : ReM} (h : r.own w lo) : r.ok w := ⟨h.2.1.caps.1, h.2.1.caps.2, h.1, h.2.1.rd (fun _ => rfl), h.2.2.caps.1, h.2.2.caps.2, h.2.2.rd (fun _ => rfl)⟩
def QuM.own (w : World) (lo : Nat) (q : QuM) : Prop := fitP q.ps ∧ Row w lo 133 5 Pk.cells q.A q.n q.c q.ps
theorem QuM.own.off {w w' : World} {lo : Nat} {q : QuM} (h : q.own w lo) (o : Off lo w w') : q.own w' lo := ⟨h.1, o _ _ _ _ _ _ _ _ h.2⟩
theorem QuM.own.low {w : World} {lo lo' : Nat} {q : QuM} (h : q.own w lo) (hl : lo' ≤ lo) : q.own w lo' := ⟨h.1, h.2.mono hl⟩
theorem QuM.own.ok {w : World} {lo : Nat} {q : QuM} (h : q.own w lo) : q.ok w := ⟨h.2.caps.1, h.2.caps.2, h.1, h.2.rd (fun _ => rfl)⟩
def ElM.sim (e e' : ElM) : Prop := e.ck = e'.ck ∧ e.es = e'.es
def ReM.sim (e e' : ReM) : Prop := e.st = e'.st ∧ e.ck = e'.ck ∧ e.t = e'.t ∧ e.ts = e'.ts ∧ e.rs = e'.rs
def QuM.sim (e e' : QuM) : Prop := e.ps = e'.ps
theorem elAt_set (ts : List ElM) (k j : Nat) (t : ElM) (hk : k < ts.length) : elAt (ts.set k t) j = if j = k then t else elAt ts j := by
  unfold elAt
  rw [List.getD_eq_getElem?_getD, List.getElem?_set]
  by_cases h : j = k
  · subst h; simp [hk]
  · simp [h, show ¬ k = j from fun e => h e.symm, List.getD_eq_getElem?_getD]
theorem reAt_set (ts : List ReM) (k j : Nat) (t : ReM) (hk : k < ts.length) : reAt (ts.set k t) j = if j = k then t else reAt ts j := by
  unfold reAt
  rw [List.getD_eq_getElem?_getD, List.getElem?_set]
  by_cases h : j = k
  · subst h; simp [hk]
  · simp [h, show ¬ k = j from fun e => h e.symm, List.getD_eq_getElem?_getD]
theorem quAt_set (ts : List QuM) (k j : Nat) (t : QuM) (hk : k < ts.length) : quAt (ts.set k t) j = if j = k then t else quAt ts j := by
  unfold quAt
  rw [List.getD_eq_getElem?_getD, List.getElem?_set]
  by_cases h : j = k
  · subst h; simp [hk]
  · simp [h, show ¬ k = j from fun e => h e.symm, List.getD_eq_getElem?_getD]
theorem infoPkt : (Tryz.prog.info? 133).map (fun i => (i.zero, i.size, i.bytes)) = some (some (.agg #[.int .i64 0, .int .i64 0, .int .i64 0, .int .i64 0, .string ByteArray.empty]), 5, 48) := by kernel_rfl
set_option maxHeartbeats 1000000 in
theorem c_toPacketS (A : Option Addr) (n c : Nat) (ts : List Pk) (w : World) (hm : n ≤ 1048576) (h : Rd w A n 5 (ts.map Pk.cells)) :
    Calls Tryz.prog 83 #[.slice A n c] w fun e w' => (∃ A' c', e = .returned (.slice A' n c') ∧ Row w' w.heap.size 133 5 Pk.cells A' n c' ts) ∧ Bw w w' := by
  have hl := Lib.hid h.pklen
  obtain ⟨i0, hi, hz0, hz1, hz2⟩ := info_parts infoPkt
  have hmk : ∀ W, (Instr.makeSlice 98 (.int .i64 (n : Int)) (.int .i64 (n : Int))).run Tryz.prog W = .ok (.slice (some ⟨W.heap.size, 0, none⟩) n n) (W.alloc (.cells (madeCells #[.int .i64 0, .int .i64 0, .int .i64 0, .int .i64 0, .string ByteArray.empty] (n * 5)) 133)) := fun W => by
    have := run_make (P := Tryz.prog) W 98 133 i0 _ Tryz.underlying98 hi hz0 .i64 .i64 n n (by omega) (by omega) (by rw [hz2]; omega) (by omega)
    rw [hz1] at this
    exact this
  clear hi hz0 hz1 hz2
  go_enter Tryz.func83, Tryz.ntmps83
  go_wp2
  go_loopw [4] (fun i wr => ∃ k : Nat, k ≤ n ∧ i = .int .i64 k ∧ Row wr w.heap.size 133 5 Pk.cells (some ⟨w.heap.size, 0, none⟩) n n (mix pk0 n k ts) ∧ Bw w wr) (fun i _ => n - (intOf i).toNat)
  case atStart =>
    refine ⟨0, Nat.zero_le _, rfl, ⟨?_, by simp [mix]⟩, (Bw.refl _).alloc _⟩
    have := World.ownsRow_lit (base := w.heap.size) (e := 133) (size := 5) w (madeCells #[.int .i64 0, .int .i64 0, .int .i64 0, .int .i64 0, .string ByteArray.empty] (n * 5)) n (Nat.le_refl _) (by unfold maxLen; omega) (size_madeCells _ _)
    have e1 := madeCells_flat #[.int .i64 0, .int .i64 0, .int .i64 0, .int .i64 0, .string ByteArray.empty] (by simp) n
    have e2 : (#[Value.int .i64 0, Value.int .i64 0, Value.int .i64 0, Value.int .i64 0, Value.string ByteArray.empty] : Array Value).size = 5 := rfl
    rw [e2] at e1
    rw [e1] at this
    rw [mix_zero, List.flatMap_replicate]
    exact this
  case round =>
    obtain ⟨k, hk, rfl, hrow, hbl⟩ := hrel
    by_cases hlt : k < n
    · obtain ⟨b, off, rfl, hb, hc⟩ := (h.keep hbl).pks (by omega)
      have ⟨h0, h1, h2, h3, h4⟩ := hc k hlt
      clear hc
      go_wp2_with (go_at_call 125; refine (c_toPacket _ _ _ _ _ _).mono ?_; rintro e w1 ⟨rfl, hb1⟩; have hrow1 := hrow.keep hb1; obtain ⟨g, off', hg', hgl', hcc⟩ := (hrow1.rd (fun _ => rfl)).pks (by omega); obtain ⟨rfl, rfl⟩ : w.heap.size = g ∧ 0 = off' := (by simpa using hg'); have ⟨q0, q1, q2, q3, q4⟩ := hcc k hlt; simp only [Nat.zero_add] at q0 q1 q2 q3 q4; have hfz := hrow1.frozen; clear hcc)
      go_roundw
      case rel =>
        have hs := hrow1.setN (t := pkAt ts k) (fun _ => rfl) hlt rfl
        refine ⟨k + 1, by omega, by go_num, ?_, (hbl.trans hb1).grown hs.2 (by simp)⟩
        rw [← mix_succ _ _ _ _ hl.out hlt]
        exact hs.1
      case measure => simp [intOf]; omega
    · go_wp2
      go_ret
      obtain rfl : k = n := by omega
      rw [mix_all _ _ _ hl.out] at hrow
      exact ⟨⟨_, _, rfl, hrow⟩, hbl⟩
theorem infoc_toElementS : (Tryz.prog.info? 89).map (fun i => (i.zero, i.size, i.bytes)) = some (some (.agg #[.int .i64 0, .slice none 0 0]), 2, 32) := by kernel_rfl
set_option maxHeartbeats 1000000 in
theorem c_toElementS (A : Option Addr) (n c : Nat) (xs : List ElM) (w : World) (hm : n ≤ 1048576) (h : Rd w A n 2 (xs.map ElM.cells)) (ho : ∀ k, k < xs.length → (elAt xs k).ok w) (hsm : ∀ k, k < n → (elAt xs k).sm) :
    Calls Tryz.prog 47 #[.slice A n c] w fun e w' => (∃ A' c' xs', e = .returned (.slice A' n c') ∧ Row w' w.heap.size 89 2 ElM.cells A' n c' xs' ∧ ∀ k, k < n → (elAt xs' k).own w' w.heap.size ∧ (elAt xs k).sim (elAt xs' k)) ∧ Bw w w' := by
  have hl := Lib.hid (show xs.length = n by simpa using h.len)
  have HO := Lib.hid ho
  have HS := Lib.hid hsm
  clear ho hsm
  obtain ⟨i0, hi, hz0, hz1, hz2⟩ := info_parts infoc_toElementS
  have hmk : ∀ W, (Instr.makeSlice 33 (.int .i64 (n : Int)) (.int .i64 (n : Int))).run Tryz.prog W = .ok (.slice (some ⟨W.heap.size, 0, none⟩) n n) (W.alloc (.cells (madeCells #[.int .i64 0, .slice none 0 0] (n * 2)) 89)) := fun W => by
    have := run_make (P := Tryz.prog) W 33 89 i0 _ Tryz.underlying33 hi hz0 .i64 .i64 n n (by omega) (by omega) (by rw [hz2]; omega) (by omega)
    rw [hz1] at this
    exact this
  clear hi hz0 hz1 hz2
  go_enter Tryz.func47, Tryz.ntmps47
  go_wp2
  go_loopw [4] (fun i wr => ∃ (k : Nat) (xs' : List ElM), k ≤ n ∧ i = .int .i64 k ∧ Row wr w.heap.size 89 2 ElM.cells (some ⟨w.heap.size, 0, none⟩) n n xs' ∧ (∀ j, j < k → (elAt xs' j).own wr (w.heap.size + 1) ∧ (elAt xs j).sim (elAt xs' j)) ∧ Bw w wr) (fun i _ => n - (intOf i).toNat)
  case atStart =>
    refine ⟨0, List.replicate n el0, Nat.zero_le _, rfl, ⟨?_, by simp⟩, fun j hj => absurd hj (by omega), (Bw.refl _).alloc _⟩
    have := World.ownsRow_lit (base := w.heap.size) (e := 89) (size := 2) w (madeCells #[.int .i64 0, .slice none 0 0] (n * 2)) n (Nat.le_refl _) (by unfold maxLen; omega) (size_madeCells _ _)
    have e1 := madeCells_flat #[.int .i64 0, .slice none 0 0] (by simp) n
    have e2 : (#[.int .i64 0, .slice none 0 0] : Array Value).size = 2 := rfl
    rw [e2] at e1
    rw [e1] at this
    rw [List.flatMap_replicate]
    try rw [Nat.mul_one] at this
    exact this
  case round =>
    obtain ⟨k, xs', hk, rfl, hrow, hj, hbl⟩ := hrel
    have HJ := Lib.hid hj
    clear hj
    by_cases hlt : k < n
    · obtain ⟨b, off, rfl, hb, hc⟩ := (h.keep hbl).els (by omega)
      have ⟨h0, h1⟩ := hc k hlt
      have HOk := Lib.hid ((HO.out k (by rw [hl.out]; exact hlt)).keep hbl)
      have HSk := Lib.hid (HS.out k hlt)
      clear hc
      have hs0 : w.heap.size + 1 ≤ wr.heap.size := by have := hrow.form (by omega); obtain ⟨g, hg, h1, h2⟩ := this; obtain rfl : w.heap.size = g := (by simpa using hg); omega
      generalize hs : elAt xs k = s at *
      have HSE := Lib.hid hs
      clear hs
      go_wp2_with (go_at_call 81; refine (c_toElement _ _ _ _ s.es s.ts _ HSk.out.1 HOk.out.2.2 HSk.out.2).mono ?_; rintro e w1 ⟨⟨A1, c1, ts1, rfl, row1⟩, hb1⟩; have hrow1 := hrow.keep hb1; obtain ⟨g, off', hg', hgl', hcc⟩ := (hrow1.rd (fun _ => rfl)).els (by omega); obtain ⟨rfl, rfl⟩ : w.heap.size = g ∧ 0 = off' := (by simpa using hg'); have ⟨q0, q1⟩ := hcc k hlt; simp only [Nat.zero_add] at q0 q1; have hfz := hrow1.frozen; clear hcc)
      go_roundw
      case rel =>
        have hs := hrow1.setN (t := (⟨s.ck, A1, s.n, c1, s.es, ts1⟩ : ElM)) (fun _ => rfl) hlt rfl
        have hof : Off (w.heap.size + 1) w1 _ := Off.grown hs.2 (by omega)
        have hlen := hrow1.len
        refine ⟨k + 1, _, by omega, by go_num, hs.1, fun j hj => ?_, (hbl.trans hb1).grown hs.2 (by simp)⟩
        rw [elAt_set _ _ _ _ (by omega)]
        split
        · rename_i he
          subst he
          refine ⟨(ElM.own.off (by exact row1.mono (by omega)) hof), ?_⟩
          rw [HSE.out]; simp [ElM.sim]
        · have hx := HJ.out j (by omega)
          exact ⟨(hx.1.off (Off.bw hb1)).off hof, hx.2⟩
      case measure => simp [intOf]; omega
    · go_wp2
      go_ret
      obtain rfl : k = n := by omega
      exact ⟨⟨_, _, _, rfl, hrow, fun j hj => ⟨(HJ.out j hj).1.low (by omega), (HJ.out j hj).2⟩⟩, hbl⟩
theorem infoc_toReceiverS : (Tryz.prog.info? 96).map (fun i => (i.zero, i.size, i.bytes)) = some (some (.agg #[.bool false, .int .i64 0, .int .i64 0, .slice none 0 0, .slice none 0 0]), 5, 72) := by kernel_rfl
set_option maxHeartbeats 1000000 in
theorem c_toReceiverS (A : Option Addr) (n c : Nat) (xs : List ReM) (w : World) (hm : n ≤ 1048576) (h : Rd w A n 5 (xs.map ReM.cells)) (ho : ∀ k, k < xs.length → (reAt xs k).ok w) (hsm : ∀ k, k < n → (reAt xs k).sm) :
    Calls Tryz.prog 48 #[.slice A n c] w fun e w' => (∃ A' c' xs', e = .returned (.slice A' n c') ∧ Row w' w.heap.size 96 5 ReM.cells A' n c' xs' ∧ ∀ k, k < n → (reAt xs' k).own w' w.heap.size ∧ (reAt xs k).sim (reAt xs' k)) ∧ Bw w w' := by
  have hl := Lib.hid (show xs.length = n by simpa using h.len)
  have HO := Lib.hid ho
  have HS := Lib.hid hsm
  clear ho hsm
  obtain ⟨i0, hi, hz0, hz1, hz2⟩ := info_parts infoc_toReceiverS
  have hmk : ∀ W, (Instr.makeSlice 34 (.int .i64 (n : Int)) (.int .i64 (n : Int))).run Tryz.prog W = .ok (.slice (some ⟨W.heap.size, 0, none⟩) n n) (W.alloc (.cells (madeCells #[.bool false, .int .i64 0, .int .i64 0, .slice none 0 0, .slice none 0 0] (n * 5)) 96)) := fun W => by
    have := run_make (P := Tryz.prog) W 34 96 i0 _ Tryz.underlying34 hi hz0 .i64 .i64 n n (by omega) (by omega) (by rw [hz2]; omega) (by omega)
    rw [hz1] at this
    exact this
  clear hi hz0 hz1 hz2
  go_enter Tryz.func48, Tryz.ntmps48
  go_wp2
  go_loopw [4] (fun i wr => ∃ (k : Nat) (xs' : List ReM), k ≤ n ∧ i = .int .i64 k ∧ Row wr w.heap.size 96 5 ReM.cells (some ⟨w.heap.size, 0, none⟩) n n xs' ∧ (∀ j, j < k → (reAt xs' j).own wr (w.heap.size + 1) ∧ (reAt xs j).sim (reAt xs' j)) ∧ Bw w wr) (fun i _ => n - (intOf i).toNat)
  case atStart =>
    refine ⟨0, List.replicate n re0, Nat.zero_le _, rfl, ⟨?_, by simp⟩, fun j hj => absurd hj (by omega), (Bw.refl _).alloc _⟩
    have := World.ownsRow_lit (base := w.heap.size) (e := 96) (size := 5) w (madeCells #[.bool false, .int .i64 0, .int .i64 0, .slice none 0 0, .slice none 0 0] (n * 5)) n (Nat.le_refl _) (by unfold maxLen; omega) (size_madeCells _ _)
    have e1 := madeCells_flat #[.bool false, .int .i64 0, .int .i64 0, .slice none 0 0, .slice none 0 0] (by simp) n
    have e2 : (#[.bool false, .int .i64 0, .int .i64 0, .slice none 0 0, .slice none 0 0] : Array Value).size = 5 := rfl
    rw [e2] at e1
    rw [e1] at this
    rw [List.flatMap_replicate]
    try rw [Nat.mul_one] at this
    exact this
  case round =>
    obtain ⟨k, xs', hk, rfl, hrow, hj, hbl⟩ := hrel
    have HJ := Lib.hid hj
    clear hj
    by_cases hlt : k < n
    · obtain ⟨b, off, rfl, hb, hc⟩ := (h.keep hbl).res (by omega)
      have ⟨h0, h1, h2, h3, h4⟩ := hc k hlt
      have HOk := Lib.hid ((HO.out k (by rw [hl.out]; exact hlt)).keep hbl)
      have HSk := Lib.hid (HS.out k hlt)
      clear hc
      have hs0 : w.heap.size + 1 ≤ wr.heap.size := by have := hrow.form (by omega); obtain ⟨g, hg, h1, h2⟩ := this; obtain rfl : w.heap.size = g := (by simpa using hg); omega
      generalize hs : reAt xs k = s at *
      have HSE := Lib.hid hs
      clear hs
      go_wp2_with (go_at_call 82; refine (c_toReceiver _ _ _ _ _ _ s.ts _ _ _ s.rs _ HSk.out.1 HSk.out.2 HOk.out.2.2.2.1 HOk.out.2.2.2.2.2.2).mono ?_; rintro e w1 ⟨⟨A1, c1, B1, d1, rfl, row1, row2⟩, hb1⟩; have hrow1 := hrow.keep hb1; obtain ⟨g, off', hg', hgl', hcc⟩ := (hrow1.rd (fun _ => rfl)).res (by omega); obtain ⟨rfl, rfl⟩ : w.heap.size = g ∧ 0 = off' := (by simpa using hg'); have ⟨q0, q1, q2, q3, q4⟩ := hcc k hlt; simp only [Nat.zero_add] at q0 q1 q2 q3 q4; have hfz := hrow1.frozen; clear hcc)
      go_roundw
      case rel =>
        have hs := hrow1.setN (t := (⟨s.st, s.ck, s.t, A1, s.n, c1, s.ts, B1, s.m, d1, s.rs⟩ : ReM)) (fun _ => rfl) hlt rfl
        have hof : Off (w.heap.size + 1) w1 _ := Off.grown hs.2 (by omega)
        have hlen := hrow1.len
        refine ⟨k + 1, _, by omega, by go_num, hs.1, fun j hj => ?_, (hbl.trans hb1).grown hs.2 (by simp)⟩
        rw [reAt_set _ _ _ _ (by omega)]
        split
        · rename_i he
          subst he
          refine ⟨(ReM.own.off (by exact ⟨HOk.out.2.2.1, row1.mono (by omega), row2.mono (by omega)⟩) hof), ?_⟩
          rw [HSE.out]; simp [ReM.sim]
        · have hx := HJ.out j (by omega)
          exact ⟨(hx.1.off (Off.bw hb1)).off hof, hx.2⟩
      case measure => simp [intOf]; omega
    · go_wp2
      go_ret
      obtain rfl : k = n := by omega
      exact ⟨⟨_, _, _, rfl, hrow, fun j hj => ⟨(HJ.out j hj).1.low (by omega), (HJ.out j hj).2⟩⟩, hbl⟩
theorem infoc_toPacketSS : (Tryz.prog.info? 98).map (fun i => (i.zero, i.size, i.bytes)) = some (some (.slice none 0 0), 1, 24) := by kernel_rfl
set_option maxHeartbeats 1000000 in
theorem c_toPacketSS (A : Option Addr) (n c : Nat) (xs : List QuM) (w : World) (hm : n ≤ 1048576) (h : Rd w A n 1 (xs.map QuM.cells)) (ho : ∀ k, k < xs.length → (quAt xs k).ok w) (hsm : ∀ k, k < n → (quAt xs k).sm) :
    Calls Tryz.prog 49 #[.slice A n c] w fun e w' => (∃ A' c' xs', e = .returned (.slice A' n c') ∧ Row w' w.heap.size 98 1 QuM.cells A' n c' xs' ∧ ∀ k, k < n → (quAt xs' k).own w' w.heap.size ∧ (quAt xs k).sim (quAt xs' k)) ∧ Bw w w' := by
  have hl := Lib.hid (show xs.length = n by simpa using h.len)
  have HO := Lib.hid ho
  have HS := Lib.hid hsm
  clear ho hsm
  obtain ⟨i0, hi, hz0, hz1, hz2⟩ := info_parts infoc_toPacketSS
  have hmk : ∀ W, (Instr.makeSlice 35 (.int .i64 (n : Int)) (.int .i64 (n : Int))).run Tryz.prog W = .ok (.slice (some ⟨W.heap.size, 0, none⟩) n n) (W.alloc (.cells (madeCells #[.slice none 0 0] (n * 1)) 98)) := fun W => by
    have := run_make (P := Tryz.prog) W 35 98 i0 _ Tryz.underlying35 hi hz0 .i64 .i64 n n (by omega) (by omega) (by rw [hz2]; omega) (by omega)
    rw [hz1] at this
    exact this
  clear hi hz0 hz1 hz2
  go_enter Tryz.func49, Tryz.ntmps49
  go_wp2
  go_loopw [4] (fun i wr => ∃ (k : Nat) (xs' : List QuM), k ≤ n ∧ i = .int .i64 k ∧ Row wr w.heap.size 98 1 QuM.cells (some ⟨w.heap.size, 0, none⟩) n n xs' ∧ (∀ j, j < k → (quAt xs' j).own wr (w.heap.size + 1) ∧ (quAt xs j).sim (quAt xs' j)) ∧ Bw w wr) (fun i _ => n - (intOf i).toNat)
  case atStart =>
    refine ⟨0, List.replicate n qu0, Nat.zero_le _, rfl, ⟨?_, by simp⟩, fun j hj => absurd hj (by omega), (Bw.refl _).alloc _⟩
    have := World.ownsRow_lit (base := w.heap.size) (e := 98) (size := 1) w (madeCells #[.slice none 0 0] (n * 1)) n (Nat.le_refl _) (by unfold maxLen; omega) (size_madeCells _ _)
    have e1 := madeCells_flat #[.slice none 0 0] (by simp) n
    have e2 : (#[.slice none 0 0] : Array Value).size = 1 := rfl
    rw [e2] at e1
    rw [e1] at this
    rw [List.flatMap_replicate]
    try rw [Nat.mul_one] at this
    exact this
  case round =>
    obtain ⟨k, xs', hk, rfl, hrow, hj, hbl⟩ := hrel
    have HJ := Lib.hid hj
    clear hj
    by_cases hlt : k < n
    · obtain ⟨b, off, rfl, hb, hc⟩ := (h.keep hbl).qus (by omega)
      have h0 := hc k hlt
      have HOk := Lib.hid ((HO.out k (by rw [hl.out]; exact hlt)).keep hbl)
      have HSk := Lib.hid (HS.out k hlt)
      clear hc
      have hs0 : w.heap.size + 1 ≤ wr.heap.size := by have := hrow.form (by omega); obtain ⟨g, hg, h1, h2⟩ := this; obtain rfl : w.heap.size = g := (by simpa using hg); omega
      generalize hs : quAt xs k = s at *
      have HSE := Lib.hid hs
      clear hs
      go_wp2_with (go_at_call 83; refine (c_toPacketS _ _ _ s.ps _ HSk.out HOk.out.2.2.2).mono ?_; rintro e w1 ⟨⟨A1, c1, rfl, row1⟩, hb1⟩; have hrow1 := hrow.keep hb1; obtain ⟨g, off', hg', hgl', hcc⟩ := (hrow1.rd (fun _ => rfl)).qus (by omega); obtain ⟨rfl, rfl⟩ : w.heap.size = g ∧ 0 = off' := (by simpa using hg'); have q0 := hcc k hlt; simp only [Nat.zero_add] at q0; have hfz := hrow1.frozen; clear hcc)
      go_roundw
      case rel =>
        have hs := hrow1.set1 (t := (⟨A1, s.n, c1, s.ps⟩ : QuM)) (fun _ => rfl) hlt rfl
        have hof : Off (w.heap.size + 1) w1 _ := Off.grown hs.2 (by omega)
        have hlen := hrow1.len
        refine ⟨k + 1, _, by omega, by go_num, hs.1, fun j hj => ?_, (hbl.trans hb1).grown hs.2 (by simp)⟩
        rw [quAt_set _ _ _ _ (by omega)]
        split
        · rename_i he
          subst he
          refine ⟨(QuM.own.off (by exact ⟨HOk.out.2.2.1, row1.mono (by omega)⟩) hof), ?_⟩
          rw [HSE.out]; simp [QuM.sim]
        · have hx := HJ.out j (by omega)
          exact ⟨(hx.1.off (Off.bw hb1)).off hof, hx.2⟩
      case measure => simp [intOf]; omega
    · go_wp2
      go_ret
      obtain rfl : k = n := by omega
      exact ⟨⟨_, _, _, rfl, hrow, fun j hj => ⟨(HJ.out j hj).1.low (by omega), (HJ.out j hj).2⟩⟩, hbl⟩
end Go.Proofs.YtpjljbhodnlhmaaGreatDoor

namespace Go.Proofs.YtpjljbhodnlhmaaGreatDoor
open Go.RowKit
theorem c_eqPk (p : Pk) (w : World) : Calls Tryz.prog 107 #[.agg #[.int .i64 p.k, .int .i64 p.nu, .int .i64 p.tr, .int .i64 p.le, .string p.d], .agg #[.int .i64 p.k, .int .i64 p.nu, .int .i64 p.tr, .int .i64 p.le, .string p.d]] w fun e w' => e = .returned (.bool true) ∧ Bw w w' := by
  obtain ⟨k, n, t, l, d⟩ := p
  dsimp only
  go_enter Tryz.func107, Tryz.ntmps107
  go_wp2
  go_ret
  exact ⟨rfl, by (repeat (first | with_reducible assumption | exact Bw.refl _ | (with_reducible refine Bw.setCell ?_ (by simp) _) | (with_reducible refine Bw.alloc ?_ _) | (with_reducible refine Bw.drew ?_) | (with_reducible refine Bw.drewN ?_ _)))⟩
theorem c_eqPkS (A A' : Option Addr) (n c c' : Nat) (ps : List Pk) (w : World) (hm : n ≤ 9223372036854775807) (h : Rd w A n 5 (ps.map Pk.cells)) (h' : Rd w A' n 5 (ps.map Pk.cells)) :
    Calls Tryz.prog 59 #[.slice A n c, .slice A' n c'] w fun e w' => e = .returned (.bool true) ∧ Bw w w' := by
  go_enter Tryz.func59, Tryz.ntmps59
  go_wp2
  go_loopw [5] (fun i wr => ∃ k : Nat, k ≤ n ∧ i = .int .i64 k ∧ Bw w wr) (fun i _ => n - (intOf i).toNat)
  case atStart => exact ⟨0, Nat.zero_le _, rfl, Bw.refl _⟩
  case round =>
    obtain ⟨k, hk, rfl, hbl⟩ := hrel
    by_cases hlt : k < n
    · (obtain ⟨b, off, rfl, hb, hc⟩ := (h.keep hbl).pks (by omega); obtain ⟨b', off', rfl, hb', hc'⟩ := (h'.keep hbl).pks (by omega); have ⟨h0, h1, h2, h3, h4⟩ := hc k hlt; have ⟨p0, p1, p2, p3, p4⟩ := hc' k hlt; clear hc hc')
      go_wp2
      (refine wp_region_ext (by kernel_rfl) (by kernel_rfl) ?_; (repeat (go_big_quiet_step ((exact Ext.calls (c_eqPk (pkAt ps k) _))))); (with_reducible refine wpQuiet_nil ?_); intro w2 hb2)
      go_wp2
      go_roundw
      case rel => exact ⟨k + 1, by omega, by go_num, hbl.trans hb2⟩
      case measure => simp [intOf]; omega
    · go_wp2
      go_ret
      exact ⟨rfl, hbl⟩
theorem c_eqElementS (A A' : Option Addr) (n c c' : Nat) (xs ys : List ElM) (w : World) (hm : n ≤ 9223372036854775807) (h : Rd w A n 2 (xs.map ElM.cells)) (h' : Rd w A' n 2 (ys.map ElM.cells)) (ho : ∀ k, k < n → (elAt xs k).ok w) (ho' : ∀ k, k < n → (elAt ys k).ok w) (hs : ∀ k, k < n → (elAt xs k).sim (elAt ys k)) :
    Calls Tryz.prog 27 #[.slice A n c, .slice A' n c'] w fun e w' => e = .returned (.bool true) ∧ Bw w w' := by
  go_enter Tryz.func27, Tryz.ntmps27
  go_wp2
  go_loopw [5] (fun i wr => ∃ k : Nat, k ≤ n ∧ i = .int .i64 k ∧ Bw w wr) (fun i _ => n - (intOf i).toNat)
  case atStart => exact ⟨0, Nat.zero_le _, rfl, Bw.refl _⟩
  case round =>
    obtain ⟨k, hk, rfl, hbl⟩ := hrel
    by_cases hlt : k < n
    · (obtain ⟨b, off, rfl, hb, hc⟩ := (h.keep hbl).els (by omega); obtain ⟨b', off', rfl, hb', hc'⟩ := (h'.keep hbl).els (by omega); have ⟨h0, h1⟩ := hc k hlt; have ⟨p0, p1⟩ := hc' k hlt; have o1 := (ho k hlt).keep hbl; have o2 := (ho' k hlt).keep hbl; have s1 := hs k hlt; clear hc hc'; generalize elAt xs k = x at *; generalize elAt ys k = y at *; obtain ⟨ck, eA, en, ec, es, ts⟩ := x; obtain ⟨ck', eA', en', ec', es', ts'⟩ := y; obtain ⟨s1, s2⟩ := s1; dsimp only at s1 s2 h0 h1 p0 p1; subst s1 s2; obtain ⟨o3, o4, o5⟩ := o1; obtain ⟨o6, o7, o8⟩ := o2; dsimp only at o3 o4 o5 o6 o7 o8; have hn1 := o5.len; have hn2 := o8.len; obtain rfl : en = en' := (by omega); unfold maxLen at o4; have HX := Lib.hid (fun (x : Ext _) => c_eqElement ck eA eA' en ec ec' es ts ts' x.v (by omega) (o5.keep x.h) (o8.keep x.h)))
      go_wp2
      (refine wp_region_ext (by kernel_rfl) (by kernel_rfl) ?_; (repeat (go_big_quiet_step ((exact Ext.calls (HX.out _))))); (with_reducible refine wpQuiet_nil ?_); intro w2 hb2)
      go_wp2
      go_roundw
      case rel => exact ⟨k + 1, by omega, by go_num, hbl.trans hb2⟩
      case measure => simp [intOf]; omega
    · go_wp2
      go_ret
      exact ⟨rfl, hbl⟩
theorem c_eqReceiverS (A A' : Option Addr) (n c c' : Nat) (xs ys : List ReM) (w : World) (hm : n ≤ 9223372036854775807) (h : Rd w A n 5 (xs.map ReM.cells)) (h' : Rd w A' n 5 (ys.map ReM.cells)) (ho : ∀ k, k < n → (reAt xs k).ok w) (ho' : ∀ k, k < n → (reAt ys k).ok w) (hs : ∀ k, k < n → (reAt xs k).sim (reAt ys k)) :
    Calls Tryz.prog 28 #[.slice A n c, .slice A' n c'] w fun e w' => e = .returned (.bool true) ∧ Bw w w' := by
  go_enter Tryz.func28, Tryz.ntmps28
  go_wp2
  go_loopw [5] (fun i wr => ∃ k : Nat, k ≤ n ∧ i = .int .i64 k ∧ Bw w wr) (fun i _ => n - (intOf i).toNat)
  case atStart => exact ⟨0, Nat.zero_le _, rfl, Bw.refl _⟩
  case round =>
    obtain ⟨k, hk, rfl, hbl⟩ := hrel
    by_cases hlt : k < n
    · (obtain ⟨b, off, rfl, hb, hc⟩ := (h.keep hbl).res (by omega); obtain ⟨b', off', rfl, hb', hc'⟩ := (h'.keep hbl).res (by omega); have ⟨h0, h1, h2, h3, h4⟩ := hc k hlt; have ⟨p0, p1, p2, p3, p4⟩ := hc' k hlt; have o1 := (ho k hlt).keep hbl; have o2 := (ho' k hlt).keep hbl; have s1 := hs k hlt; clear hc hc'; generalize reAt xs k = x at *; generalize reAt ys k = y at *; obtain ⟨st, ck, t, rA, rn, rc, ts, rB, rm, rd, rs⟩ := x; obtain ⟨st', ck', t', rA', rn', rc', ts', rB', rm', rd', rs'⟩ := y; obtain ⟨s1, s2, s3, s4, s5⟩ := s1; dsimp only at s1 s2 s3 s4 s5 h0 h1 h2 h3 h4 p0 p1 p2 p3 p4; subst s1 s2 s3 s4 s5; obtain ⟨a1, a2, a3, a4, a5, a6, a7⟩ := o1; obtain ⟨g1, g2, g3, g4, g5, g6, g7⟩ := o2; dsimp only at a1 a2 a3 a4 a5 a6 a7 g1 g2 g3 g4 g5 g6 g7; have hn1 := a4.slotlen; have hn2 := g4.slotlen; have hn3 := a7.len; have hn4 := g7.len; obtain rfl : rn = rn' := (by omega); obtain rfl : rm = rm' := (by omega); unfold maxLen at a2 a6; have HX := Lib.hid (fun (x : Ext _) => c_eqReceiver st ck t rA rA' rn rc rc' ts rB rB' rm rd rd' rs x.v (by omega) (by omega) (a4.keep x.h) (g4.keep x.h) (a7.keep x.h) (g7.keep x.h)))
      go_wp2
      (refine wp_region_ext (by kernel_rfl) (by kernel_rfl) ?_; (repeat (go_big_quiet_step ((exact Ext.calls (HX.out _))))); (with_reducible refine wpQuiet_nil ?_); intro w2 hb2)
      go_wp2
      go_roundw
      case rel => exact ⟨k + 1, by omega, by go_num, hbl.trans hb2⟩
      case measure => simp [intOf]; omega
    · go_wp2
      go_ret
      exact ⟨rfl, hbl⟩
theorem c_eqPacketSS (A A' : Option Addr) (n c c' : Nat) (xs ys : List QuM) (w : World) (hm : n ≤ 9223372036854775807) (h : Rd w A n 1 (xs.map QuM.cells)) (h' : Rd w A' n 1 (ys.map QuM.cells)) (ho : ∀ k, k < n → (quAt xs k).ok w) (ho' : ∀ k, k < n → (quAt ys k).ok w) (hs : ∀ k, k < n → (quAt xs k).sim (quAt ys k)) :
    Calls Tryz.prog 29 #[.slice A n c, .slice A' n c'] w fun e w' => e = .returned (.bool true) ∧ Bw w w' := by
  go_enter Tryz.func29, Tryz.ntmps29
  go_wp2
  go_loopw [5] (fun i wr => ∃ k : Nat, k ≤ n ∧ i = .int .i64 k ∧ Bw w wr) (fun i _ => n - (intOf i).toNat)
  case atStart => exact ⟨0, Nat.zero_le _, rfl, Bw.refl _⟩
  case round =>
    obtain ⟨k, hk, rfl, hbl⟩ := hrel
    by_cases hlt : k < n
    · (obtain ⟨b, off, rfl, hb, hc⟩ := (h.keep hbl).qus (by omega); obtain ⟨b', off', rfl, hb', hc'⟩ := (h'.keep hbl).qus (by omega); have h0 := hc k hlt; have p0 := hc' k hlt; have o1 := (ho k hlt).keep hbl; have o2 := (ho' k hlt).keep hbl; have s1 := hs k hlt; clear hc hc'; generalize quAt xs k = x at *; generalize quAt ys k = y at *; obtain ⟨qA, qn, qc, ps⟩ := x; obtain ⟨qA', qn', qc', ps'⟩ := y; change ps = ps' at s1; dsimp only at h0 p0; subst s1; obtain ⟨a1, a2, a3, a4⟩ := o1; obtain ⟨g1, g2, g3, g4⟩ := o2; dsimp only at a1 a2 a3 a4 g1 g2 g3 g4; have hn1 := a4.pklen; have hn2 := g4.pklen; obtain rfl : qn = qn' := (by omega); unfold maxLen at a2; have HX := Lib.hid (fun (x : Ext _) => c_eqPkS qA qA' qn qc qc' ps x.v (by omega) (a4.keep x.h) (g4.keep x.h)))
      go_wp2
      (refine wp_region_ext (by kernel_rfl) (by kernel_rfl) ?_; (repeat (go_big_quiet_step ((exact Ext.calls (HX.out _))))); (with_reducible refine wpQuiet_nil ?_); intro w2 hb2)
      go_wp2
      go_roundw
      case rel => exact ⟨k + 1, by omega, by go_num, hbl.trans hb2⟩
      case measure => simp [intOf]; omega
    · go_wp2
      go_ret
      exact ⟨rfl, hbl⟩
/-- A network's box: the numbers of N, the addresses of M. -/
structure NB (W : World) (b : Nat) (N M : NetM) : Prop where
  c0 : W.cell? ⟨b, 0, none⟩ = some (.slice M.B N.n M.d)
  c1 : W.cell? ⟨b, 1, none⟩ = some (.int .i64 N.t)
  c2 : W.cell? ⟨b, 2, none⟩ = some (.int .i64 N.z)
  c3 : W.cell? ⟨b, 3, none⟩ = some (.slice M.S N.sn M.sc)
  c4 : W.cell? ⟨b, 4, none⟩ = some (.int .i64 N.ck)
  c5 : W.cell? ⟨b, 5, none⟩ = some (.int .i64 N.q)
  c6 : W.cell? ⟨b, 6, none⟩ = some (.slice M.H N.hn M.hc)
  c7 : W.cell? ⟨b, 7, none⟩ = some (.slice M.E N.en M.ec)
  c8 : W.cell? ⟨b, 8, none⟩ = some (.slice M.R N.rn M.rc)
  c9 : W.cell? ⟨b, 9, none⟩ = some (.slice M.D N.dn M.dc)
  c10 : W.cell? ⟨b, 10, none⟩ = some (.slice M.U N.un M.uc)
theorem NB.keep {W W' : World} {b : Nat} {N M : NetM} (h : NB W b N M) (k : Bw W W') : NB W' b N M := ⟨k.cellv h.c0, k.cellv h.c1, k.cellv h.c2, k.cellv h.c3, k.cellv h.c4, k.cellv h.c5, k.cellv h.c6, k.cellv h.c7, k.cellv h.c8, k.cellv h.c9, k.cellv h.c10⟩
theorem NB.new (W : World) (ty : Nat) (N M : NetM) : NB (W.alloc (.cells #[.slice M.B N.n M.d, .int .i64 N.t, .int .i64 N.z, .slice M.S N.sn M.sc, .int .i64 N.ck, .int .i64 N.q, .slice M.H N.hn M.hc, .slice M.E N.en M.ec, .slice M.R N.rn M.rc, .slice M.D N.dn M.dc, .slice M.U N.un M.uc] ty)) W.heap.size N M := ⟨by simp [go_sem], by simp [go_sem], by simp [go_sem], by simp [go_sem], by simp [go_sem], by simp [go_sem], by simp [go_sem], by simp [go_sem], by simp [go_sem], by simp [go_sem], by simp [go_sem]⟩
/-- Two networks say the same. -/
structure NetM.sim (N M : NetM) : Prop where
  n : N.n = M.n
  ps : N.ps = M.ps
  t : N.t = M.t
  z : N.z = M.z
  sn : N.sn = M.sn
  ss : N.ss = M.ss
  ck : N.ck = M.ck
  q : N.q = M.q
  hn : N.hn = M.hn
  hs : N.hs = M.hs
  en : N.en = M.en
  es : ∀ k, k < N.en → (elAt N.els k).sim (elAt M.els k)
  rn : N.rn = M.rn
  rs : ∀ k, k < N.rn → (reAt N.res k).sim (reAt M.res k)
  dn : N.dn = M.dn
  ds : ∀ k, k < N.dn → (quAt N.dqs k).sim (quAt M.dqs k)
  un : N.un = M.un
  us : ∀ k, k < N.un → (quAt N.uqs k).sim (quAt M.uqs k)
theorem NetM.sim.val {N M : NetM} (s : N.sim M) : M.val = .agg #[.slice M.B N.n M.d, .int .i64 N.t, .int .i64 N.z, .slice M.S N.sn M.sc, .int .i64 N.ck, .int .i64 N.q, .slice M.H N.hn M.hc, .slice M.E N.en M.ec, .slice M.R N.rn M.rc, .slice M.D N.dn M.dc, .slice M.U N.un M.uc] := by
  rw [NetM.val, ← s.n, ← s.t, ← s.z, ← s.sn, ← s.ck, ← s.q, ← s.hn, ← s.en, ← s.rn, ← s.dn, ← s.un]
/-- The lists' lengths are lengths. -/
structure NetM.big (N : NetM) : Prop where
  n : N.n ≤ 9223372036854775807
  sn : N.sn ≤ 9223372036854775807
  hn : N.hn ≤ 9223372036854775807
  en : N.en ≤ 9223372036854775807
  rn : N.rn ≤ 9223372036854775807
  dn : N.dn ≤ 9223372036854775807
  un : N.un ≤ 9223372036854775807
theorem RdN.big {w : World} {N : NetM} (h : RdN w N) : N.big := by
  have h1 := h.bt
  have h2 := h.bs
  have h3 := h.bh
  have h4 := h.be
  have h5 := h.br
  have h6 := h.bd
  have h7 := h.bu
  unfold maxLen at h1 h2 h3 h4 h5 h6 h7
  exact ⟨by omega, by omega, by omega, by omega, by omega, by omega, by omega⟩
theorem RdN.eo' {w : World} {N : NetM} (h : RdN w N) : ∀ k, k < N.en → (elAt N.els k).ok w := fun k hk => h.eo k (by have := h.el.len; simp at this; omega)
theorem RdN.ro' {w : World} {N : NetM} (h : RdN w N) : ∀ k, k < N.rn → (reAt N.res k).ok w := fun k hk => h.ro k (by have := h.re.len; simp at this; omega)
theorem RdN.do' {w : World} {N : NetM} (h : RdN w N) : ∀ k, k < N.dn → (quAt N.dqs k).ok w := fun k hk => h.do_ k (by have := h.dq.len; simp at this; omega)
theorem RdN.uo' {w : World} {N : NetM} (h : RdN w N) : ∀ k, k < N.un → (quAt N.uqs k).ok w := fun k hk => h.uo k (by have := h.uq.len; simp at this; omega)
end Go.Proofs.YtpjljbhodnlhmaaGreatDoor

namespace Go.Proofs.YtpjljbhodnlhmaaGreatDoor
open Go.RowKit
set_option maxRecDepth 100000 in
set_option maxHeartbeats 1000000 in
theorem c_eqNet (N M : NetM) (w : World) (h : RdN w N) (h' : RdN w M) (s : N.sim M) :
    Calls Tryz.prog 9 #[N.val, M.val] w fun e w' => e = .returned (.bool true) ∧ Bw w w' := by
  have big := h.big
  have t' := h'.tr
  rw [← s.n, ← s.ps] at t'
  have st' := h'.st
  rw [← s.sn, ← s.ss] at st'
  have ho' := h'.ho
  rw [← s.hn, ← s.hs] at ho'
  have el' := h'.el
  have eo' := h'.eo'
  rw [← s.en] at el' eo'
  have re' := h'.re
  have ro' := h'.ro'
  rw [← s.rn] at re' ro'
  have dq' := h'.dq
  have do' := h'.do'
  rw [← s.dn] at dq' do'
  have uq' := h'.uq
  have uo' := h'.uo'
  rw [← s.un] at uq' uo'
  have nb0 := NB.new (w.alloc (.cells #[.slice N.B N.n N.d, .int .i64 N.t, .int .i64 N.z, .slice N.S N.sn N.sc, .int .i64 N.ck, .int .i64 N.q, .slice N.H N.hn N.hc, .slice N.E N.en N.ec, .slice N.R N.rn N.rc, .slice N.D N.dn N.dc, .slice N.U N.un N.uc] 37)) 37 N M
  have na0 := (NB.new w 37 N N).keep ((Bw.refl _).alloc (.cells #[.slice M.B N.n M.d, .int .i64 N.t, .int .i64 N.z, .slice M.S N.sn M.sc, .int .i64 N.ck, .int .i64 N.q, .slice M.H N.hn M.hc, .slice M.E N.en M.ec, .slice M.R N.rn M.rc, .slice M.D N.dn M.dc, .slice M.U N.un M.uc] 37))
  have kk := ((Bw.refl w).alloc (.cells #[.slice N.B N.n N.d, .int .i64 N.t, .int .i64 N.z, .slice N.S N.sn N.sc, .int .i64 N.ck, .int .i64 N.q, .slice N.H N.hn N.hc, .slice N.E N.en N.ec, .slice N.R N.rn N.rc, .slice N.D N.dn N.dc, .slice N.U N.un N.uc] 37)).alloc (.cells #[.slice M.B N.n M.d, .int .i64 N.t, .int .i64 N.z, .slice M.S N.sn M.sc, .int .i64 N.ck, .int .i64 N.q, .slice M.H N.hn M.hc, .slice M.E N.en M.ec, .slice M.R N.rn M.rc, .slice M.D N.dn M.dc, .slice M.U N.un M.uc] 37)
  rw [show (w.alloc (.cells #[.slice N.B N.n N.d, .int .i64 N.t, .int .i64 N.z, .slice N.S N.sn N.sc, .int .i64 N.ck, .int .i64 N.q, .slice N.H N.hn N.hc, .slice N.E N.en N.ec, .slice N.R N.rn N.rc, .slice N.D N.dn N.dc, .slice N.U N.un N.uc] 37)).heap.size = w.heap.size + 1 by simp] at nb0
  rw [s.val, NetM.val]
  go_enter Tryz.func9, Tryz.ntmps9
  go_wp2_with fail
  refine (c_eqTree _ _ _ _ _ N.ps _ big.n (h.tr.keep kk) (t'.keep kk)).mono ?_
  rintro e w1 ⟨rfl, hb1⟩
  replace kk := kk.trans hb1
  replace na0 := na0.keep hb1
  replace nb0 := nb0.keep hb1
  have x1 := na0.c1
  have y1 := nb0.c1
  have x2 := na0.c2
  have y2 := nb0.c2
  have x3 := na0.c3
  have y3 := nb0.c3
  have x4 := na0.c4
  have y4 := nb0.c4
  have x5 := na0.c5
  have y5 := nb0.c5
  have x6 := na0.c6
  have y6 := nb0.c6
  go_wp2_with fail
  clear x1 y1 x2 y2 x3 y3 x4 y4 x5 y5 x6 y6
  refine (c_eqSource N.t N.z _ _ _ _ _ N.ss N.ck N.q _ _ _ _ _ N.hs _ big.sn big.hn (h.st.keep kk) (st'.keep kk) (h.ho.keep kk) (ho'.keep kk)).mono ?_
  rintro e w2 ⟨rfl, hb2⟩
  replace kk := kk.trans hb2
  replace na0 := na0.keep hb2
  replace nb0 := nb0.keep hb2
  have x7 := na0.c7
  have y7 := nb0.c7
  go_wp2_with fail
  clear x7 y7
  refine (c_eqElementS _ _ _ _ _ N.els M.els _ big.en (h.el.keep kk) (el'.keep kk) (fun k hk => (h.eo' k hk).keep kk) (fun k hk => (eo' k hk).keep kk) s.es).mono ?_
  rintro e w3 ⟨rfl, hb3⟩
  replace kk := kk.trans hb3
  replace na0 := na0.keep hb3
  replace nb0 := nb0.keep hb3
  have x8 := na0.c8
  have y8 := nb0.c8
  go_wp2_with fail
  clear x8 y8
  refine (c_eqReceiverS _ _ _ _ _ N.res M.res _ big.rn (h.re.keep kk) (re'.keep kk) (fun k hk => (h.ro' k hk).keep kk) (fun k hk => (ro' k hk).keep kk) s.rs).mono ?_
  rintro e w4 ⟨rfl, hb4⟩
  replace kk := kk.trans hb4
  replace na0 := na0.keep hb4
  replace nb0 := nb0.keep hb4
  have x9 := na0.c9
  have y9 := nb0.c9
  go_wp2_with fail
  clear x9 y9
  refine (c_eqPacketSS _ _ _ _ _ N.dqs M.dqs _ big.dn (h.dq.keep kk) (dq'.keep kk) (fun k hk => (h.do' k hk).keep kk) (fun k hk => (do' k hk).keep kk) s.ds).mono ?_
  rintro e w5 ⟨rfl, hb5⟩
  replace kk := kk.trans hb5
  replace na0 := na0.keep hb5
  replace nb0 := nb0.keep hb5
  have x10 := na0.c10
  have y10 := nb0.c10
  go_wp2_with fail
  clear x10 y10
  refine (c_eqPacketSS _ _ _ _ _ N.uqs M.uqs _ big.un (h.uq.keep kk) (uq'.keep kk) (fun k hk => (h.uo' k hk).keep kk) (fun k hk => (uo' k hk).keep kk) s.us).mono ?_
  rintro e w6 ⟨rfl, hb6⟩
  replace kk := kk.trans hb6
  go_wp2_with fail
  go_ret
  exact ⟨rfl, kk⟩
/-- A network's lists are small. -/
structure NetM.sm (N : NetM) : Prop where
  n : N.n ≤ 1048576
  sn : N.sn ≤ 1048576
  hn : N.hn ≤ 1048576
  en : N.en ≤ 1048576
  es : ∀ k, k < N.en → (elAt N.els k).sm
  rn : N.rn ≤ 1048576
  rs : ∀ k, k < N.rn → (reAt N.res k).sm
  dn : N.dn ≤ 1048576
  ds : ∀ k, k < N.dn → (quAt N.dqs k).sm
  un : N.un ≤ 1048576
  us : ∀ k, k < N.un → (quAt N.uqs k).sm
set_option maxRecDepth 100000 in
set_option maxHeartbeats 1000000 in
theorem c_szNet (N : NetM) (w : World) (h : RdN w N) :
    Calls Tryz.prog 14 #[N.val, .int .i64 1048576] w fun e w' => (∃ m : Int, e = .returned (.int .i64 m) ∧ (m < 0 ∨ N.sm)) ∧ Bw w w' := by
  have big := h.big
  have na0 := NB.new w 54 N N
  have kk := (Bw.refl w).alloc (.cells #[.slice N.B N.n N.d, .int .i64 N.t, .int .i64 N.z, .slice N.S N.sn N.sc, .int .i64 N.ck, .int .i64 N.q, .slice N.H N.hn N.hc, .slice N.E N.en N.ec, .slice N.R N.rn N.rc, .slice N.D N.dn N.dc, .slice N.U N.un N.uc] 54)
  rw [NetM.val]
  go_enter Tryz.func14, Tryz.ntmps14
  go_wp2_with fail
  refine (c_szTreeM _ _ _ big.n _).mono ?_
  rintro e w1 ⟨⟨m1, rfl, l1, u1, q1⟩, hb1⟩
  replace kk := kk.trans hb1
  have Q1 := Lib.hid q1
  clear q1
  replace na0 := na0.keep hb1
  have x1 := na0.c1
  have x2 := na0.c2
  have x3 := na0.c3
  have x4 := na0.c4
  have x5 := na0.c5
  have x6 := na0.c6
  go_wp2_with fail
  · go_ret
    exact ⟨⟨_, rfl, .inl (by omega)⟩, kk⟩
  clear x1 x2 x3 x4 x5 x6
  refine (c_szSourceL N.t N.z _ _ _ N.ss h.fs N.ck N.q _ _ _ m1 (by omega) u1 big.sn big.hn _ (h.st.keep kk)).mono ?_
  rintro e w2 ⟨⟨m2, rfl, l2, u2, q2⟩, hb2⟩
  replace kk := kk.trans hb2
  have Q2 := Lib.hid q2
  clear q2
  replace na0 := na0.keep hb2
  have x7 := na0.c7
  go_wp2_with fail
  · go_ret
    exact ⟨⟨_, rfl, .inl (by omega)⟩, kk⟩
  clear x7
  refine (c_szElementSL _ _ _ N.els m2 (by omega) u2 _ big.en (h.el.keep kk) (fun k hk => (h.eo k hk).keep kk)).mono ?_
  rintro e w3 ⟨⟨m3, rfl, l3, u3, q3⟩, hb3⟩
  replace kk := kk.trans hb3
  have Q3 := Lib.hid q3
  clear q3
  replace na0 := na0.keep hb3
  have x8 := na0.c8
  go_wp2_with fail
  · go_ret
    exact ⟨⟨_, rfl, .inl (by omega)⟩, kk⟩
  clear x8
  refine (c_szReceiverSL _ _ _ N.res m3 (by omega) u3 _ big.rn (h.re.keep kk) (fun k hk => (h.ro k hk).keep kk)).mono ?_
  rintro e w4 ⟨⟨m4, rfl, l4, u4, q4⟩, hb4⟩
  replace kk := kk.trans hb4
  have Q4 := Lib.hid q4
  clear q4
  replace na0 := na0.keep hb4
  have x9 := na0.c9
  go_wp2_with fail
  · go_ret
    exact ⟨⟨_, rfl, .inl (by omega)⟩, kk⟩
  clear x9
  refine (c_szPacketSSL _ _ _ N.dqs m4 (by omega) u4 _ big.dn (h.dq.keep kk) (fun k hk => (h.do_ k hk).keep kk)).mono ?_
  rintro e w5 ⟨⟨m5, rfl, l5, u5, q5⟩, hb5⟩
  replace kk := kk.trans hb5
  have Q5 := Lib.hid q5
  clear q5
  replace na0 := na0.keep hb5
  have x10 := na0.c10
  go_wp2_with fail
  · go_ret
    exact ⟨⟨_, rfl, .inl (by omega)⟩, kk⟩
  clear x10
  refine (c_szPacketSSL _ _ _ N.uqs m5 (by omega) u5 _ big.un (h.uq.keep kk) (fun k hk => (h.uo k hk).keep kk)).mono ?_
  rintro e w6 ⟨⟨m6, rfl, l6, u6, q6⟩, hb6⟩
  replace kk := kk.trans hb6
  have Q6 := Lib.hid q6
  clear q6
  go_wp2_with fail
  · go_ret
    exact ⟨⟨_, rfl, .inl (by omega)⟩, kk⟩
  go_ret
  refine ⟨⟨_, rfl, ?_⟩, kk⟩
  have p1 := Q1.out.resolve_left (by omega)
  have p2 := Q2.out.resolve_left (by omega)
  have p3 := Q3.out.resolve_left (by omega)
  have p4 := Q4.out.resolve_left (by omega)
  have p5 := Q5.out.resolve_left (by omega)
  have p6 := Q6.out.resolve_left (by omega)
  exact .inr ⟨p1, p2.1, p2.2, p3.1, p3.2, p4.1, p4.2, p5.1, p5.2, p6.1, p6.2⟩
end Go.Proofs.YtpjljbhodnlhmaaGreatDoor

namespace Go.Proofs.YtpjljbhodnlhmaaGreatDoor
open Go.RowKit
/-- A box of the call's own that may be written. -/
structure OB (W : World) (b : Nat) (vs : List Value) : Prop where
  c : ∀ j x, vs[j]? = some x → W.cell? ⟨b, j, none⟩ = some x
  f : ∀ j, W.frozen? ⟨b, j, none⟩ = false
  l : b < W.heap.size
theorem OB.keep {W W' : World} {b : Nat} {vs : List Value} (h : OB W b vs) (k : Bw W W') : OB W' b vs :=
  ⟨fun j x hx => k.cellv (h.c j x hx), fun j => (k.frz ⟨b, j, none⟩ h.l).trans (h.f j), Nat.lt_of_lt_of_le h.l k.size⟩
theorem OB.set {W : World} {b : Nat} {vs : List Value} (h : OB W b vs) (i : Nat) (u : Value) (hi : i < vs.length) : OB (W.setCell ⟨b, i, none⟩ u) b (vs.set i u) := by
  have hv := h.c i _ (List.getElem?_eq_getElem hi)
  refine ⟨fun j x hx => ?_, fun j => ?_, by simpa using h.l⟩
  · by_cases e : i = j
    · subst e
      rw [List.getElem?_set_self hi] at hx
      obtain rfl : u = x := by simpa using hx
      simp [go_sem, hv]
    · rw [List.getElem?_set_ne e] at hx
      have := h.c j x hx
      simp [go_sem, this]
  · have := h.f j
    simp [go_sem, this]
theorem OB.off {W : World} {b : Nat} {vs : List Value} (h : OB W b vs) (b' i : Nat) (u : Value) (hi : b ≠ b') : OB (W.setCell ⟨b', i, none⟩ u) b vs := by
  refine ⟨fun j x hx => ?_, fun j => ?_, by simpa using h.l⟩
  · have := h.c j x hx
    simp [go_sem, this]
  · have := h.f j
    simp [go_sem, this]
theorem OB.new (W : World) (ty : Nat) (vs : List Value) : OB (W.alloc (.cells vs.toArray ty)) W.heap.size vs := by
  refine ⟨fun j x hx => ?_, fun j => ?_, by simp⟩
  · simp [go_sem, hx]
  · simp [go_sem]
theorem NB.off {W : World} {b : Nat} {N M : NetM} (h : NB W b N M) (b' i : Nat) (u : Value) (hi : b ≠ b') : NB (W.setCell ⟨b', i, none⟩ u) b N M := by
  obtain ⟨c0, c1, c2, c3, c4, c5, c6, c7, c8, c9, c10⟩ := h
  constructor <;> simp [go_sem, *]
set_option maxRecDepth 100000 in
set_option maxHeartbeats 4000000 in
theorem c_toNet (N : NetM) (w : World) (h : RdN w N) (sm : N.sm) :
    Calls Tryz.prog 16 #[N.val] w fun e w' => (∃ M : NetM, e = .returned M.val ∧ RdN w' M ∧ N.sim M) ∧ Bw w w' := by
  have na0 := (NB.new w 54 N N).keep (((Bw.refl _).alloc (.cells #[.slice none 0 0, .int .i64 0, .int .i64 0, .slice none 0 0, .int .i64 0, .int .i64 0, .slice none 0 0, .slice none 0 0, .slice none 0 0, .slice none 0 0, .slice none 0 0] 37)).alloc (.cells #[.slice none 0 0, .int .i64 0, .int .i64 0, .slice none 0 0, .int .i64 0, .int .i64 0, .slice none 0 0, .slice none 0 0, .slice none 0 0, .slice none 0 0, .slice none 0 0] 37))
  have ob0 := OB.new ((w.alloc (.cells #[.slice N.B N.n N.d, .int .i64 N.t, .int .i64 N.z, .slice N.S N.sn N.sc, .int .i64 N.ck, .int .i64 N.q, .slice N.H N.hn N.hc, .slice N.E N.en N.ec, .slice N.R N.rn N.rc, .slice N.D N.dn N.dc, .slice N.U N.un N.uc] 54)).alloc (.cells #[.slice none 0 0, .int .i64 0, .int .i64 0, .slice none 0 0, .int .i64 0, .int .i64 0, .slice none 0 0, .slice none 0 0, .slice none 0 0, .slice none 0 0, .slice none 0 0] 37)) 37 [.slice none 0 0, .int .i64 0, .int .i64 0, .slice none 0 0, .int .i64 0, .int .i64 0, .slice none 0 0, .slice none 0 0, .slice none 0 0, .slice none 0 0, .slice none 0 0]
  have rb0 := (OB.new (w.alloc (.cells #[.slice N.B N.n N.d, .int .i64 N.t, .int .i64 N.z, .slice N.S N.sn N.sc, .int .i64 N.ck, .int .i64 N.q, .slice N.H N.hn N.hc, .slice N.E N.en N.ec, .slice N.R N.rn N.rc, .slice N.D N.dn N.dc, .slice N.U N.un N.uc] 54)) 37 [.slice none 0 0, .int .i64 0, .int .i64 0, .slice none 0 0, .int .i64 0, .int .i64 0, .slice none 0 0, .slice none 0 0, .slice none 0 0, .slice none 0 0, .slice none 0 0]).keep ((Bw.refl _).alloc (.cells #[.slice none 0 0, .int .i64 0, .int .i64 0, .slice none 0 0, .int .i64 0, .int .i64 0, .slice none 0 0, .slice none 0 0, .slice none 0 0, .slice none 0 0, .slice none 0 0] 37))
  have kk := (((Bw.refl w).alloc (.cells #[.slice N.B N.n N.d, .int .i64 N.t, .int .i64 N.z, .slice N.S N.sn N.sc, .int .i64 N.ck, .int .i64 N.q, .slice N.H N.hn N.hc, .slice N.E N.en N.ec, .slice N.R N.rn N.rc, .slice N.D N.dn N.dc, .slice N.U N.un N.uc] 54)).alloc (.cells #[.slice none 0 0, .int .i64 0, .int .i64 0, .slice none 0 0, .int .i64 0, .int .i64 0, .slice none 0 0, .slice none 0 0, .slice none 0 0, .slice none 0 0, .slice none 0 0] 37)).alloc (.cells #[.slice none 0 0, .int .i64 0, .int .i64 0, .slice none 0 0, .int .i64 0, .int .i64 0, .slice none 0 0, .slice none 0 0, .slice none 0 0, .slice none 0 0, .slice none 0 0] 37)
  have sz0 : (((w.alloc (.cells #[.slice N.B N.n N.d, .int .i64 N.t, .int .i64 N.z, .slice N.S N.sn N.sc, .int .i64 N.ck, .int .i64 N.q, .slice N.H N.hn N.hc, .slice N.E N.en N.ec, .slice N.R N.rn N.rc, .slice N.D N.dn N.dc, .slice N.U N.un N.uc] 54)).alloc (.cells #[.slice none 0 0, .int .i64 0, .int .i64 0, .slice none 0 0, .int .i64 0, .int .i64 0, .slice none 0 0, .slice none 0 0, .slice none 0 0, .slice none 0 0, .slice none 0 0] 37)).alloc (.cells #[.slice none 0 0, .int .i64 0, .int .i64 0, .slice none 0 0, .int .i64 0, .int .i64 0, .slice none 0 0, .slice none 0 0, .slice none 0 0, .slice none 0 0, .slice none 0 0] 37)).heap.size = w.heap.size + 3 := by simp
  rw [show ((w.alloc (.cells #[.slice N.B N.n N.d, .int .i64 N.t, .int .i64 N.z, .slice N.S N.sn N.sc, .int .i64 N.ck, .int .i64 N.q, .slice N.H N.hn N.hc, .slice N.E N.en N.ec, .slice N.R N.rn N.rc, .slice N.D N.dn N.dc, .slice N.U N.un N.uc] 54)).alloc (.cells #[.slice none 0 0, .int .i64 0, .int .i64 0, .slice none 0 0, .int .i64 0, .int .i64 0, .slice none 0 0, .slice none 0 0, .slice none 0 0, .slice none 0 0, .slice none 0 0] 37)).heap.size = w.heap.size + 2 by simp] at ob0
  rw [show (w.alloc (.cells #[.slice N.B N.n N.d, .int .i64 N.t, .int .i64 N.z, .slice N.S N.sn N.sc, .int .i64 N.ck, .int .i64 N.q, .slice N.H N.hn N.hc, .slice N.E N.en N.ec, .slice N.R N.rn N.rc, .slice N.D N.dn N.dc, .slice N.U N.un N.uc] 54)).heap.size = w.heap.size + 1 by simp] at rb0
  rw [NetM.val]
  go_enter Tryz.func16, Tryz.ntmps16
  go_wp2_with fail
  refine (c_toTree _ _ _ N.ps _ sm.n (h.tr.keep kk)).mono ?_
  rintro e w1 ⟨⟨A1, c1, rfl, r1⟩, hb1⟩
  have sz1 : w.heap.size + 3 ≤ w1.heap.size := by have := hb1.size; (try simp only [World.size_setCell] at this); omega
  replace kk := kk.trans hb1
  replace na0 := na0.keep hb1
  replace ob0 := ob0.keep hb1
  replace rb0 := rb0.keep hb1
  have x1 := na0.c1
  have x2 := na0.c2
  have x3 := na0.c3
  have x4 := na0.c4
  have x5 := na0.c5
  have x6 := na0.c6
  have y0 := ob0.c 0 _ rfl
  have fo := ob0.f
  go_wp2_with fail
  clear fo x1 x2 x3 x4 x5 x6 y0
  replace kk := kk.setCell (p := ⟨w.heap.size + 2, 0, none⟩) (by simp only; omega) (.slice A1 N.n c1)
  replace ob0 := ob0.set 0 (.slice A1 N.n c1) (by simp)
  replace rb0 := rb0.off (w.heap.size + 2) 0 (.slice A1 N.n c1) (by omega)
  simp only [List.set_cons_zero] at ob0
  replace na0 := na0.off (w.heap.size + 2) 0 (.slice A1 N.n c1) (by omega)
  refine (c_toSource N.t N.z _ _ _ N.ss N.ck N.q _ _ _ N.hs _ sm.sn sm.hn (h.st.keep kk) (h.ho.keep kk)).mono ?_
  rintro e w2 ⟨⟨A2, c2, A3, c3, rfl, r2, r3⟩, hb2⟩
  have sz2 : w.heap.size + 3 ≤ w2.heap.size := by have := hb2.size; (try simp only [World.size_setCell] at this); omega
  replace kk := kk.trans hb2
  replace na0 := na0.keep hb2
  replace ob0 := ob0.keep hb2
  replace rb0 := rb0.keep hb2
  have x7 := na0.c7
  have y1 := ob0.c 1 _ rfl
  have y2 := ob0.c 2 _ rfl
  have y3 := ob0.c 3 _ rfl
  have y4 := ob0.c 4 _ rfl
  have y5 := ob0.c 5 _ rfl
  have y6 := ob0.c 6 _ rfl
  have fo := ob0.f
  go_wp2_with fail
  clear fo x7 y1 y2 y3 y4 y5 y6
  replace kk := kk.setCell (p := ⟨w.heap.size + 2, 1, none⟩) (by simp only; omega) (.int .i64 N.t)
  replace ob0 := ob0.set 1 (.int .i64 N.t) (by simp)
  replace rb0 := rb0.off (w.heap.size + 2) 1 (.int .i64 N.t) (by omega)
  (first | simp only [List.set_cons_zero, List.set_cons_succ] at ob0 | simp only [List.set_cons_zero] at ob0)
  replace kk := kk.setCell (p := ⟨w.heap.size + 2, 2, none⟩) (by simp only; omega) (.int .i64 N.z)
  replace ob0 := ob0.set 2 (.int .i64 N.z) (by simp)
  replace rb0 := rb0.off (w.heap.size + 2) 2 (.int .i64 N.z) (by omega)
  (first | simp only [List.set_cons_zero, List.set_cons_succ] at ob0 | simp only [List.set_cons_zero] at ob0)
  replace kk := kk.setCell (p := ⟨w.heap.size + 2, 3, none⟩) (by simp only; omega) (.slice A2 N.sn c2)
  replace ob0 := ob0.set 3 (.slice A2 N.sn c2) (by simp)
  replace rb0 := rb0.off (w.heap.size + 2) 3 (.slice A2 N.sn c2) (by omega)
  (first | simp only [List.set_cons_zero, List.set_cons_succ] at ob0 | simp only [List.set_cons_zero] at ob0)
  replace kk := kk.setCell (p := ⟨w.heap.size + 2, 4, none⟩) (by simp only; omega) (.int .i64 N.ck)
  replace ob0 := ob0.set 4 (.int .i64 N.ck) (by simp)
  replace rb0 := rb0.off (w.heap.size + 2) 4 (.int .i64 N.ck) (by omega)
  (first | simp only [List.set_cons_zero, List.set_cons_succ] at ob0 | simp only [List.set_cons_zero] at ob0)
  replace kk := kk.setCell (p := ⟨w.heap.size + 2, 5, none⟩) (by simp only; omega) (.int .i64 N.q)
  replace ob0 := ob0.set 5 (.int .i64 N.q) (by simp)
  replace rb0 := rb0.off (w.heap.size + 2) 5 (.int .i64 N.q) (by omega)
  (first | simp only [List.set_cons_zero, List.set_cons_succ] at ob0 | simp only [List.set_cons_zero] at ob0)
  replace kk := kk.setCell (p := ⟨w.heap.size + 2, 6, none⟩) (by simp only; omega) (.slice A3 N.hn c3)
  replace ob0 := ob0.set 6 (.slice A3 N.hn c3) (by simp)
  replace rb0 := rb0.off (w.heap.size + 2) 6 (.slice A3 N.hn c3) (by omega)
  (first | simp only [List.set_cons_zero, List.set_cons_succ] at ob0 | simp only [List.set_cons_zero] at ob0)
  replace na0 := na0.off (w.heap.size + 2) 1 (.int .i64 N.t) (by omega)
  replace na0 := na0.off (w.heap.size + 2) 2 (.int .i64 N.z) (by omega)
  replace na0 := na0.off (w.heap.size + 2) 3 (.slice A2 N.sn c2) (by omega)
  replace na0 := na0.off (w.heap.size + 2) 4 (.int .i64 N.ck) (by omega)
  replace na0 := na0.off (w.heap.size + 2) 5 (.int .i64 N.q) (by omega)
  replace na0 := na0.off (w.heap.size + 2) 6 (.slice A3 N.hn c3) (by omega)
  refine (c_toElementS _ _ _ N.els _ sm.en (h.el.keep kk) (fun k hk => (h.eo k hk).keep kk) sm.es).mono ?_
  rintro e w3 ⟨⟨A4, c4, x4, rfl, r4, o4⟩, hb3⟩
  have sz3 : w.heap.size + 3 ≤ w3.heap.size := by have := hb3.size; (try simp only [World.size_setCell] at this); omega
  replace kk := kk.trans hb3
  replace na0 := na0.keep hb3
  replace ob0 := ob0.keep hb3
  replace rb0 := rb0.keep hb3
  have x8 := na0.c8
  have y7 := ob0.c 7 _ rfl
  have fo := ob0.f
  go_wp2_with fail
  clear fo x8 y7
  replace kk := kk.setCell (p := ⟨w.heap.size + 2, 7, none⟩) (by simp only; omega) (.slice A4 N.en c4)
  replace ob0 := ob0.set 7 (.slice A4 N.en c4) (by simp)
  replace rb0 := rb0.off (w.heap.size + 2) 7 (.slice A4 N.en c4) (by omega)
  (first | simp only [List.set_cons_zero, List.set_cons_succ] at ob0 | simp only [List.set_cons_zero] at ob0)
  replace na0 := na0.off (w.heap.size + 2) 7 (.slice A4 N.en c4) (by omega)
  refine (c_toReceiverS _ _ _ N.res _ sm.rn (h.re.keep kk) (fun k hk => (h.ro k hk).keep kk) sm.rs).mono ?_
  rintro e w4 ⟨⟨A5, c5, x5, rfl, r5, o5⟩, hb4⟩
  have sz4 : w.heap.size + 3 ≤ w4.heap.size := by have := hb4.size; (try simp only [World.size_setCell] at this); omega
  replace kk := kk.trans hb4
  replace na0 := na0.keep hb4
  replace ob0 := ob0.keep hb4
  replace rb0 := rb0.keep hb4
  have x9 := na0.c9
  have y8 := ob0.c 8 _ rfl
  have fo := ob0.f
  go_wp2_with fail
  clear fo x9 y8
  replace kk := kk.setCell (p := ⟨w.heap.size + 2, 8, none⟩) (by simp only; omega) (.slice A5 N.rn c5)
  replace ob0 := ob0.set 8 (.slice A5 N.rn c5) (by simp)
  replace rb0 := rb0.off (w.heap.size + 2) 8 (.slice A5 N.rn c5) (by omega)
  (first | simp only [List.set_cons_zero, List.set_cons_succ] at ob0 | simp only [List.set_cons_zero] at ob0)
  replace na0 := na0.off (w.heap.size + 2) 8 (.slice A5 N.rn c5) (by omega)
  refine (c_toPacketSS _ _ _ N.dqs _ sm.dn (h.dq.keep kk) (fun k hk => (h.do_ k hk).keep kk) sm.ds).mono ?_
  rintro e w5 ⟨⟨A6, c6, x6, rfl, r6, o6⟩, hb5⟩
  have sz5 : w.heap.size + 3 ≤ w5.heap.size := by have := hb5.size; (try simp only [World.size_setCell] at this); omega
  replace kk := kk.trans hb5
  replace na0 := na0.keep hb5
  replace ob0 := ob0.keep hb5
  replace rb0 := rb0.keep hb5
  have x10 := na0.c10
  have y9 := ob0.c 9 _ rfl
  have fo := ob0.f
  go_wp2_with fail
  clear fo x10 y9
  replace kk := kk.setCell (p := ⟨w.heap.size + 2, 9, none⟩) (by simp only; omega) (.slice A6 N.dn c6)
  replace ob0 := ob0.set 9 (.slice A6 N.dn c6) (by simp)
  replace rb0 := rb0.off (w.heap.size + 2) 9 (.slice A6 N.dn c6) (by omega)
  (first | simp only [List.set_cons_zero, List.set_cons_succ] at ob0 | simp only [List.set_cons_zero] at ob0)
  replace na0 := na0.off (w.heap.size + 2) 9 (.slice A6 N.dn c6) (by omega)
  refine (c_toPacketSS _ _ _ N.uqs _ sm.un (h.uq.keep kk) (fun k hk => (h.uo k hk).keep kk) sm.us).mono ?_
  rintro e w6 ⟨⟨A7, c7, x7, rfl, r7, o7⟩, hb6⟩
  have sz6 : w.heap.size + 3 ≤ w6.heap.size := by have := hb6.size; (try simp only [World.size_setCell] at this); omega
  replace kk := kk.trans hb6
  replace na0 := na0.keep hb6
  replace ob0 := ob0.keep hb6
  replace rb0 := rb0.keep hb6
  have y0 := ob0.c 0 _ rfl
  have y1 := ob0.c 1 _ rfl
  have y2 := ob0.c 2 _ rfl
  have y3 := ob0.c 3 _ rfl
  have y4 := ob0.c 4 _ rfl
  have y5 := ob0.c 5 _ rfl
  have y6 := ob0.c 6 _ rfl
  have y7 := ob0.c 7 _ rfl
  have y8 := ob0.c 8 _ rfl
  have y9 := ob0.c 9 _ rfl
  have y10 := ob0.c 10 _ rfl
  have z0 := rb0.c 0 _ rfl
  have z1 := rb0.c 1 _ rfl
  have z2 := rb0.c 2 _ rfl
  have z3 := rb0.c 3 _ rfl
  have z4 := rb0.c 4 _ rfl
  have z5 := rb0.c 5 _ rfl
  have z6 := rb0.c 6 _ rfl
  have z7 := rb0.c 7 _ rfl
  have z8 := rb0.c 8 _ rfl
  have z9 := rb0.c 9 _ rfl
  have z10 := rb0.c 10 _ rfl
  have fo := ob0.f
  have fr := rb0.f
  go_wp2_with fail
  have key : ∀ X, Off (w.heap.size + 3) w6 X → RdN X ⟨A1, N.n, c1, N.ps, N.t, N.z, A2, N.sn, c2, N.ss, N.ck, N.q, A3, N.hn, c3, N.hs, A4, N.en, c4, x4, A5, N.rn, c5, x5, A6, N.dn, c6, x6, A7, N.un, c7, x7⟩ := fun X F6 => by
    have F5 : Off (w.heap.size + 3) w5 X := Off.trans (Off.trans (by (repeat (first | (with_reducible exact Off.refl _ _) | (with_reducible refine Off.store ?_ _ _ (by simp only; omega))))) (Off.bw hb6)) F6
    have F4 : Off (w.heap.size + 3) w4 X := Off.trans (Off.trans (by (repeat (first | (with_reducible exact Off.refl _ _) | (with_reducible refine Off.store ?_ _ _ (by simp only; omega))))) (Off.bw hb5)) F5
    have F3 : Off (w.heap.size + 3) w3 X := Off.trans (Off.trans (by (repeat (first | (with_reducible exact Off.refl _ _) | (with_reducible refine Off.store ?_ _ _ (by simp only; omega))))) (Off.bw hb4)) F4
    have F2 : Off (w.heap.size + 3) w2 X := Off.trans (Off.trans (by (repeat (first | (with_reducible exact Off.refl _ _) | (with_reducible refine Off.store ?_ _ _ (by simp only; omega))))) (Off.bw hb3)) F3
    have F1 : Off (w.heap.size + 3) w1 X := Off.trans (Off.trans (by (repeat (first | (with_reducible exact Off.refl _ _) | (with_reducible refine Off.store ?_ _ _ (by simp only; omega))))) (Off.bw hb2)) F2
    have q1 := F1 _ _ _ _ _ _ _ _ (r1.mono (by omega))
    have q2 := F2 _ _ _ _ _ _ _ _ (r2.mono (by simp only [World.size_setCell]; omega))
    have q3 := F2 _ _ _ _ _ _ _ _ (r3.mono (by simp only [World.size_setCell]; omega))
    have q4 := F3 _ _ _ _ _ _ _ _ (r4.mono (by simp only [World.size_setCell]; omega))
    have q5 := F4 _ _ _ _ _ _ _ _ (r5.mono (by simp only [World.size_setCell]; omega))
    have q6 := F5 _ _ _ _ _ _ _ _ (r6.mono (by simp only [World.size_setCell]; omega))
    have q7 := F6 _ _ _ _ _ _ _ _ (r7.mono (by simp only [World.size_setCell]; omega))
    have l4 := q4.len
    have l5 := q5.len
    have l6 := q6.len
    have l7 := q7.len
    exact ⟨q1.caps, q1.rd (fun _ => rfl), q2.caps, h.fs, q2.rd (fun _ => rfl), q3.caps, q3.rd (fun _ => rfl), q4.caps, q4.rd (fun _ => rfl), fun k hk => (((o4 k (by dsimp only at hk; omega)).1.low (by simp only [World.size_setCell]; omega)).off F3).ok, q5.caps, q5.rd (fun _ => rfl), fun k hk => (((o5 k (by dsimp only at hk; omega)).1.low (by simp only [World.size_setCell]; omega)).off F4).ok, q6.caps, q6.rd (fun _ => rfl), fun k hk => (((o6 k (by dsimp only at hk; omega)).1.low (by simp only [World.size_setCell]; omega)).off F5).ok, q7.caps, q7.rd (fun _ => rfl), fun k hk => (((o7 k (by dsimp only at hk; omega)).1.low (by simp only [World.size_setCell]; omega)).off F6).ok⟩
  have sim : N.sim ⟨A1, N.n, c1, N.ps, N.t, N.z, A2, N.sn, c2, N.ss, N.ck, N.q, A3, N.hn, c3, N.hs, A4, N.en, c4, x4, A5, N.rn, c5, x5, A6, N.dn, c6, x6, A7, N.un, c7, x7⟩ := ⟨rfl, rfl, rfl, rfl, rfl, rfl, rfl, rfl, rfl, rfl, rfl, fun k hk => (o4 k hk).2, rfl, fun k hk => (o5 k hk).2, rfl, fun k hk => (o6 k hk).2, rfl, fun k hk => (o7 k hk).2⟩
  refine bodyPost_ret (v := .agg #[.slice A1 N.n c1, .int .i64 N.t, .int .i64 N.z, .slice A2 N.sn c2, .int .i64 N.ck, .int .i64 N.q, .slice A3 N.hn c3, .slice A4 N.en c4, .slice A5 N.rn c5, .slice A6 N.dn c6, .slice A7 N.un c7]) (by simp [results, Tryz.results16, go_sem, z0, z1, z2, z3, z4, z5, z6, z7, z8, z9, z10]) rfl ⟨⟨_, rfl, key _ ?_, sim⟩, ?_⟩
  · (repeat (first | (with_reducible exact Off.refl _ _) | (with_reducible refine Off.store ?_ _ _ (by simp only; omega))))
  · (repeat (first | (with_reducible exact kk) | (with_reducible refine Bw.setCell ?_ (by simp only; omega) _)))
end Go.Proofs.YtpjljbhodnlhmaaGreatDoor
