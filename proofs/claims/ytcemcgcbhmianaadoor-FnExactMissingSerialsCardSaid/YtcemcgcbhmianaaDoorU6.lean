
/- AwaitedSerials: marks at slots and receivers; both sides. -/
import Derived.Test.YtcemcgcbhmianaaDoorU4
import Derived.Test.YtcemcgcbhmianaaDoorS7
import Derived.Test.YtcemcgcbhmianaaDoorK13
import Derived.Test.YtcemcgcbhmianaaDoorK17
import Derived.Test.YtcemcgcbhmianaaDoorI
namespace Go.Proofs.YtcemcgcbhmianaaDoor
open Go.RowKit
theorem Row.notOwnA {T : Type} {w : World} {lo : Nat} {e : TypeId} {sz : Nat} {enc : T → List Value} {A : Option Addr} {n c : Nat} {ts : List T} (_h : Row w lo e sz enc A n c ts) {b m d : Nat} (_hb : True) (hx : ∀ x, A = some x → x.block < b) : some b ≠ Value.ownBlock (.slice A m d) := fun he => by
  cases A with
  | none => simp [Value.ownBlock] at he
  | some y => have := hx y rfl; simp only [Value.ownBlock, Option.some.injEq] at he; omega
section
variable {w : World} {lo : Nat} {e : TypeId} {g n c k : Nat} {ts : List Slot}
theorem Row.slotHave (h : Row w lo e 2 Slot.cells (some ⟨g, 0, none⟩) n c ts) (hk : k < ts.length) (b : Bool) : Row (w.setCell ⟨g, k * 2, none⟩ (.bool b)) lo e 2 Slot.cells (some ⟨g, 0, none⟩) n c (ts.set k ⟨b, ts[k].item⟩) ∧ w.grownBy (w.setCell ⟨g, k * 2, none⟩ (.bool b)) (some g) := by
  have := h.setAt (k := k) (j := 0) (v := .bool b) (t' := ⟨b, ts[k].item⟩) (fun _ => rfl) hk (by omega) rfl
  simpa using this
theorem Row.slotItem (h : Row w lo e 2 Slot.cells (some ⟨g, 0, none⟩) n c ts) (hk : k < ts.length) (s : ByteArray) : Row (w.setCell ⟨g, k * 2 + 1, none⟩ (.string s)) lo e 2 Slot.cells (some ⟨g, 0, none⟩) n c (ts.set k ⟨ts[k].have_, s⟩) ∧ w.grownBy (w.setCell ⟨g, k * 2 + 1, none⟩ (.string s)) (some g) :=
  h.setAt (k := k) (j := 1) (v := .string s) (t' := ⟨ts[k].have_, s⟩) (fun _ => rfl) hk (by omega) rfl
theorem Row.slotHaveB (h : Row w lo e 2 Slot.cells (some ⟨g, 0, none⟩) n c ts) (hk : k < ts.length) {b : Bool} {w1 : World} (hb : Bw (w.setCell ⟨g, k * 2, none⟩ (.bool b)) w1) : Row w1 lo e 2 Slot.cells (some ⟨g, 0, none⟩) n c (ts.set k ⟨b, ts[k].item⟩) ∧ w.grownBy w1 (some g) :=
  ⟨(h.slotHave hk b).1.keep hb, (h.slotHave hk b).2.trans hb.toGrown.weaken⟩
end
set_option maxRecDepth 100000 in
theorem c_markSlotS (A : Option Addr) (n c : Nat) (ts : List Slot) (k0 : Int) (lo : Nat) (w : World) (hn : n ≤ 1048576) (hk0 : 0 ≤ k0) (hk1 : k0 ≤ 100000000) (h : Row w lo 72 2 Slot.cells A n c ts) :
    Calls Tryd.prog 65 #[.slice A n c, .int .i64 k0] w fun e w' => e = .returned (.int .i64 (k0 + 2 * n)) ∧ (∃ ts', Row w' lo 72 2 Slot.cells A n c ts') ∧ w.grownBy w' (Value.ownBlock (.slice A n c)) := by
  go_enter Tryd.func65, Tryd.ntmps65
  go_wp2
  go_loopw [1, 5] (fun kv i wr => ∃ (k : Nat) (ts' : List Slot), k ≤ n ∧ i = .int .i64 k ∧ kv = .int .i64 (k0 + 2 * k) ∧ Row wr lo 72 2 Slot.cells A n c ts' ∧ w.grownBy wr (Value.ownBlock (.slice A n c))) (fun _ i _ => n - (intOf i).toNat)
  case atStart => exact ⟨0, ts, Nat.zero_le _, rfl, by simp, h, World.grownBy.refl _ _⟩
  case round =>
    obtain ⟨k, ts', hk, rfl, rfl, hrow, hg⟩ := hrel
    by_cases hlt : k < n
    · have hkt : k < ts'.length := by rw [hrow.len]; exact hlt
      obtain ⟨g, rfl, hlo, hgl, hfz, hcc⟩ := hrow.slots (by omega)
      have ⟨q0, q1⟩ := hcc k hlt
      clear hcc
      go_wp2_with (go_at_call 99; refine (c_markText (k0 + 2 * k + 1) (by omega) (by omega) _).mono ?_; rintro e w1 ⟨⟨s, rfl⟩, hb1⟩; have ⟨row1, gg1⟩ := hrow.slotHaveB hkt hb1; obtain ⟨g2, hg2, _, hgl2, fz2, hcc2⟩ := row1.slots (by omega); obtain rfl : g = g2 := (by simpa using hg2); have ⟨z0, z1⟩ := hcc2 k hlt; clear hcc2)
      go_roundw
      case rel =>
        have hs2 := row1.slotItem (k := k) (by rw [List.length_set]; exact hkt) s
        exact ⟨k + 1, _, by omega, by go_num, by congr 1; omega, hs2.1, (hg.trans gg1).trans hs2.2⟩
      case measure => simp [intOf]; omega
    · go_wp2
      go_ret
      obtain rfl : k = n := by omega
      exact ⟨rfl, ⟨_, hrow⟩, hg⟩
set_option maxRecDepth 100000 in
set_option maxHeartbeats 2000000 in
theorem c_toReceiverA (st : Bool) (ck t : Int) (A : Option Addr) (n c : Nat) (ts : List Slot) (B : Option Addr) (m d : Nat) (rs : List Request) (w : World) (hn : n ≤ 1048576) (hm : m ≤ 1048576) (h : Rd w A n 2 (ts.map Slot.cells)) (hh : Rd w B m 4 (rs.map Request.cells)) :
    Calls Tryd.prog 35 #[.agg #[.bool st, .int .i64 ck, .int .i64 t, .slice A n c, .slice B m d]] w fun e w' => (∃ A' c' B' d', e = .returned (.agg #[.bool st, .int .i64 ck, .int .i64 t, .slice A' n c', .slice B' m d']) ∧ Row w' w.heap.size 72 2 Slot.cells A' n c' ts ∧ Row w' w.heap.size 86 4 Request.cells B' m d' rs ∧ Apart A' B') ∧ Bw w w' := by
  go_enter Tryd.func35, Tryd.ntmps35
  go_wp2_with (first | (go_at_call 16; refine (c_toReceiveWindow t _ _ _ ts _ hn (h.keep (Bw.alloc (Bw.alloc (Bw.alloc (Bw.refl _) _) _) _))).mono ?_; rintro e w1 ⟨⟨A1, c1, rfl, row1⟩, hb1⟩; have hr1 := hb1.rule; have hf1 := hb1.frz; have hs1 : w.heap.size + 3 ≤ w1.heap.size := (by have := hb1.size; simpa using this); have fz1 : ∀ j, w1.frozen? ⟨w.heap.size + 1, j, none⟩ = false := (fun j => (hb1.frz ⟨w.heap.size + 1, j, none⟩ (by simp; try omega)).trans (by first | go_simp | simp [go_sem])); have fz2 : ∀ j, w1.frozen? ⟨w.heap.size + 2, j, none⟩ = false := (fun j => (hb1.frz ⟨w.heap.size + 2, j, none⟩ (by simp; try omega)).trans (by first | go_simp | simp [go_sem])); have b00 := hb1.cellv (p := ⟨w.heap.size, 0, none⟩) (v := .bool st) (by go_simp); have b01 := hb1.cellv (p := ⟨w.heap.size, 1, none⟩) (v := .int .i64 ck) (by go_simp); have b02 := hb1.cellv (p := ⟨w.heap.size, 2, none⟩) (v := .int .i64 t) (by go_simp); have b03 := hb1.cellv (p := ⟨w.heap.size, 3, none⟩) (v := .slice A n c) (by go_simp); have b04 := hb1.cellv (p := ⟨w.heap.size, 4, none⟩) (v := .slice B m d) (by go_simp); have b10 := hb1.cellv (p := ⟨w.heap.size + 1, 0, none⟩) (v := .bool false) (by go_simp); have b11 := hb1.cellv (p := ⟨w.heap.size + 1, 1, none⟩) (v := .int .i64 0) (by go_simp); have b12 := hb1.cellv (p := ⟨w.heap.size + 1, 2, none⟩) (v := .int .i64 0) (by go_simp); have b13 := hb1.cellv (p := ⟨w.heap.size + 1, 3, none⟩) (v := .slice none 0 0) (by go_simp); have b14 := hb1.cellv (p := ⟨w.heap.size + 1, 4, none⟩) (v := .slice none 0 0) (by go_simp); have b20 := hb1.cellv (p := ⟨w.heap.size + 2, 0, none⟩) (v := .bool st) (by go_simp); have b21 := hb1.cellv (p := ⟨w.heap.size + 2, 1, none⟩) (v := .int .i64 ck) (by go_simp); have b22 := hb1.cellv (p := ⟨w.heap.size + 2, 2, none⟩) (v := .int .i64 0) (by go_simp); have b23 := hb1.cellv (p := ⟨w.heap.size + 2, 3, none⟩) (v := .slice none 0 0) (by go_simp); have b24 := hb1.cellv (p := ⟨w.heap.size + 2, 4, none⟩) (v := .slice none 0 0) (by go_simp); have hb : Bw w w1 := Bw.trans (Bw.alloc (Bw.alloc (Bw.alloc (Bw.refl _) _) _) _) hb1; have k5 := ((hb.setCell (p := ⟨w.heap.size + 2, 2, none⟩) (by simp) (.int .i64 t)).setCell (p := ⟨w.heap.size + 2, 3, none⟩) (by simp) (.slice A1 n c1))) | (go_at_call 70; refine (c_toRequestS _ _ _ rs _ hm (hh.keep k5)).mono ?_; rintro e w2 ⟨⟨B2, d2, rfl, row2⟩, hb2⟩; have hr2 := hb2.rule; have hf2 := hb2.frz; have hs2 : w1.heap.size ≤ w2.heap.size := (by have := hb2.size; simpa using this); have gz1 : ∀ j, w2.frozen? ⟨w.heap.size + 1, j, none⟩ = false := (fun j => (hb2.frz ⟨w.heap.size + 1, j, none⟩ (by simp; omega)).trans (by simp [go_sem, fz1])); have gz2 : ∀ j, w2.frozen? ⟨w.heap.size + 2, j, none⟩ = false := (fun j => (hb2.frz ⟨w.heap.size + 2, j, none⟩ (by simp; omega)).trans (by simp [go_sem, fz2])); have e10 := hb2.cellv (p := ⟨w.heap.size + 1, 0, none⟩) (v := .bool false) (by simp [go_sem, *]); have e11 := hb2.cellv (p := ⟨w.heap.size + 1, 1, none⟩) (v := .int .i64 0) (by simp [go_sem, *]); have e12 := hb2.cellv (p := ⟨w.heap.size + 1, 2, none⟩) (v := .int .i64 0) (by simp [go_sem, *]); have e13 := hb2.cellv (p := ⟨w.heap.size + 1, 3, none⟩) (v := .slice none 0 0) (by simp [go_sem, *]); have e14 := hb2.cellv (p := ⟨w.heap.size + 1, 4, none⟩) (v := .slice none 0 0) (by simp [go_sem, *]); have e20 := hb2.cellv (p := ⟨w.heap.size + 2, 0, none⟩) (v := .bool st) (by simp [go_sem, *]); have e21 := hb2.cellv (p := ⟨w.heap.size + 2, 1, none⟩) (v := .int .i64 ck) (by simp [go_sem, *]); have e22 := hb2.cellv (p := ⟨w.heap.size + 2, 2, none⟩) (v := .int .i64 t) (by simp [go_sem, *]); have e23 := hb2.cellv (p := ⟨w.heap.size + 2, 3, none⟩) (v := .slice A1 n c1) (by simp [go_sem, *]); have e24 := hb2.cellv (p := ⟨w.heap.size + 2, 4, none⟩) (v := .slice none 0 0) (by simp [go_sem, *])))
  have lt1 := row1.lt
  have lt2 := row2.lt
  have ne1 : ∀ (k : Nat), k < w.heap.size + 3 → ∀ x, A1 = some x → k ≠ x.block := fun k hk x hx he => by have := (lt1 x hx).1; simp at this; omega
  have ne2 : ∀ (k : Nat), k < w.heap.size + 3 → ∀ x, B2 = some x → k ≠ x.block := fun k hk x hx he => by have := (lt2 x hx).1; simp at this; omega
  have ra0 := row1.store ⟨w.heap.size + 2, 2, none⟩ (.int .i64 t) (ne1 (w.heap.size + 2) (by omega))
  have ra1 := ra0.store ⟨w.heap.size + 2, 3, none⟩ (.slice A1 n c1) (ne1 (w.heap.size + 2) (by omega))
  have rb0 := (ra1.keep hb2).store ⟨w.heap.size + 2, 4, none⟩ (.slice B2 m d2) (ne1 (w.heap.size + 2) (by omega))
  have rb1 := rb0.store ⟨w.heap.size + 1, 0, none⟩ (.bool st) (ne1 (w.heap.size + 1) (by omega))
  have rb2 := rb1.store ⟨w.heap.size + 1, 1, none⟩ (.int .i64 ck) (ne1 (w.heap.size + 1) (by omega))
  have rb3 := rb2.store ⟨w.heap.size + 1, 2, none⟩ (.int .i64 t) (ne1 (w.heap.size + 1) (by omega))
  have rb4 := rb3.store ⟨w.heap.size + 1, 3, none⟩ (.slice A1 n c1) (ne1 (w.heap.size + 1) (by omega))
  have rb5 := rb4.store ⟨w.heap.size + 1, 4, none⟩ (.slice B2 m d2) (ne1 (w.heap.size + 1) (by omega))
  have rc0 := row2.store ⟨w.heap.size + 2, 4, none⟩ (.slice B2 m d2) (ne2 (w.heap.size + 2) (by omega))
  have rc1 := rc0.store ⟨w.heap.size + 1, 0, none⟩ (.bool st) (ne2 (w.heap.size + 1) (by omega))
  have rc2 := rc1.store ⟨w.heap.size + 1, 1, none⟩ (.int .i64 ck) (ne2 (w.heap.size + 1) (by omega))
  have rc3 := rc2.store ⟨w.heap.size + 1, 2, none⟩ (.int .i64 t) (ne2 (w.heap.size + 1) (by omega))
  have rc4 := rc3.store ⟨w.heap.size + 1, 3, none⟩ (.slice A1 n c1) (ne2 (w.heap.size + 1) (by omega))
  have rc5 := rc4.store ⟨w.heap.size + 1, 4, none⟩ (.slice B2 m d2) (ne2 (w.heap.size + 1) (by omega))
  have k7 := (((((((k5.trans hb2).setCell (p := ⟨w.heap.size + 2, 4, none⟩) (by simp) (.slice B2 m d2)).setCell (p := ⟨w.heap.size + 1, 0, none⟩) (by simp) (.bool st)).setCell (p := ⟨w.heap.size + 1, 1, none⟩) (by simp) (.int .i64 ck)).setCell (p := ⟨w.heap.size + 1, 2, none⟩) (by simp) (.int .i64 t)).setCell (p := ⟨w.heap.size + 1, 3, none⟩) (by simp) (.slice A1 n c1)).setCell (p := ⟨w.heap.size + 1, 4, none⟩) (by simp) (.slice B2 m d2))
  exact bodyPost_ret (v := .agg #[.bool st, .int .i64 ck, .int .i64 t, .slice A1 n c1, .slice B2 m d2]) (by simp [results, Tryd.results35, go_sem, e10, e11, e12, e13, e14, e20, e21, e22, e23, e24]) rfl ⟨⟨_, _, _, _, rfl, rb5.mono (by simp; omega), rc5.mono (by simp; omega), fun x y hx hy he => by have h1 := (lt1 x hx).2; have h2 := (lt2 y hy).1; simp at h2; omega⟩, k7⟩
theorem c_markReceiveWindow (t : Int) (A : Option Addr) (n c : Nat) (ts : List Slot) (lo : Nat) (w : World) (hn : n ≤ 1048576) (h : Row w lo 72 2 Slot.cells A n c ts) :
    Calls Tryd.prog 28 #[.agg #[.int .i64 t, .slice A n c], .int .i64 1] w fun e w' => e = .returned (.int .i64 (1 + 2 * n)) ∧ w.grownBy w' (Value.ownBlock (.slice A n c)) := by
  go_enter Tryd.func28, Tryd.ntmps28
  go_wp2_with (go_at_call 65; refine (c_markSlotS _ _ _ ts 1 lo _ hn (by omega) (by omega) (h.keep (Bw.alloc (Bw.refl _) _))).mono ?_; rintro e w1 ⟨rfl, _, hg1⟩)
  go_ret
  exact ⟨rfl, (Bw.alloc (Bw.refl _) _).toGrown.weaken.trans hg1⟩
theorem c_markReceiver (st : Bool) (ck t : Int) (A : Option Addr) (n c : Nat) (ts : List Slot) (B : Option Addr) (m d : Nat) (rs : List Request) (lo : Nat) (w : World) (hn : n ≤ 1048576) (hm : m ≤ 1048576) (h : Row w lo 72 2 Slot.cells A n c ts) (hh : Row w lo 86 4 Request.cells B m d rs) (hap : Apart A B) :
    Calls Tryd.prog 44 #[.agg #[.bool st, .int .i64 ck, .int .i64 t, .slice A n c, .slice B m d], .int .i64 1] w fun e w' => e = .returned (.int .i64 (1 + 2 * n + 4 * m)) ∧ ∃ wm, w.grownBy wm (Value.ownBlock (.slice A n c)) ∧ wm.grownBy w' (Value.ownBlock (.slice B m d)) := by
  have ha := (Bw.refl w).alloc (.cells #[.bool st, .int .i64 ck, .int .i64 t, .slice A n c, .slice B m d] 55)
  go_enter Tryd.func44, Tryd.ntmps44
  go_wp2_with fail
  refine (c_markReceiveWindow t _ _ _ ts lo _ hn (h.keep ha)).mono ?_
  rintro e w1 ⟨rfl, hg1⟩
  have q4 := hg1.cell (a := ⟨w.heap.size, 4, none⟩) (v := .slice B m d) (by go_simp) ((h.keep ha).notOwnA (by simp) (fun x hx => by have := (h.lt x hx).2; omega))
  have row2 := (hh.keep ha).apart hg1 hap
  go_wp2_with fail
  refine (c_markRequestS _ _ _ rs (1 + 2 * n) lo _ hm (by omega) (by omega) row2).mono ?_
  rintro e w2 ⟨rfl, _, hg2⟩
  go_wp2_with fail
  go_ret
  exact ⟨rfl, w1, ha.toGrown.weaken.trans hg1, hg2⟩
def awL (st : Bool) (ck t : Int) (ts : List Slot) (rs : List Request) : List Int := if rcB st ck t ts rs then rs.map (·.number) else []
theorem awL_len (st : Bool) (ck t : Int) (ts : List Slot) (rs : List Request) : (awL st ck t ts rs).length ≤ rs.length := by unfold awL; split <;> simp
theorem map_succ (rs : List Request) (k : Nat) (hk : k < rs.length) : (rs.take (k + 1)).map (·.number) = (rs.take k).map (·.number) ++ [(requestAt rs k).number] := by
  rw [List.take_succ_eq_append_getElem hk, List.map_append, requestAt_lt hk]; rfl
set_option maxRecDepth 100000 in
theorem c_iAwaited (st : Bool) (ck t : Int) (A : Option Addr) (n c : Nat) (ts : List Slot) (hf : fitL ts) (B : Option Addr) (m d : Nat) (rs : List Request) (w : World) (hn : n ≤ 9223372036854775807) (hm : m ≤ 9223372036854775807) (h : Rd w A n 2 (ts.map Slot.cells)) (hh : Rd w B m 4 (rs.map Request.cells)) :
    Calls Tryd.prog 43 #[.agg #[.bool st, .int .i64 ck, .int .i64 t, .slice A n c, .slice B m d]] w fun e w' => (∃ A' c', e = .returned (.tuple #[.slice A' (awL st ck t ts rs).length c', .bool (rcB st ck t ts rs)]) ∧ Row w' w.heap.size 3 1 icell A' (awL st ck t ts rs).length c' (awL st ck t ts rs)) ∧ Bw w w' := by
  have hl := Lib.hid hh.requestlen
  have ha := (Bw.refl w).alloc (.cells #[.bool st, .int .i64 ck, .int .i64 t, .slice A n c, .slice B m d] 55)
  cases hg : rcB st ck t ts rs
  · have HR := Lib.hid (show awL st ck t ts rs = [] by simp [awL, hg])
    go_enter Tryd.func43, Tryd.ntmps43
    go_wp2_with (go_at_call 36; refine (c_IsValidReceiver st ck t _ _ _ ts hf _ _ _ rs hg _ hn hm (h.keep ha) (hh.keep ha)).mono ?_; rintro e w1 ⟨rfl, hb1⟩)
    go_ret2
    rw [HR.out]
    exact ⟨⟨_, _, rfl, Row.nil _ _ _ _ _⟩, ha.trans hb1⟩
  · have HR := Lib.hid (show awL st ck t ts rs = (rs.take m).map (·.number) by rw [List.take_of_length_le (by rw [hl.out]; omega)]; simp [awL, hg])
    have hgr : goodR rs t = true := by cases e1 : goodR rs t; · rw [rc_req e1] at hg; cases hg
                                       · rfl
    have hm8 : m ≤ 8 := by rw [← hl.out]; exact (goodR_iff.1 hgr).2.1
    clear hgr
    go_enter Tryd.func43, Tryd.ntmps43
    go_wp2_with (go_at_call 36; refine (c_IsValidReceiver st ck t _ _ _ ts hf _ _ _ rs hg _ hn hm (h.keep ha) (hh.keep ha)).mono ?_; rintro e w1 ⟨rfl, hb1⟩; have d4 := hb1.cellv (p := ⟨w.heap.size, 4, none⟩) (v := .slice B m d) (by go_simp); have d3 := hb1.cellv (p := ⟨w.heap.size, 3, none⟩) (v := .slice A n c) (by go_simp))
    have hbw := ha.trans hb1
    go_loopw [4, 13] (fun v i wr => ∃ k : Nat, k ≤ m ∧ i = .int .i64 k ∧ (∃ A c, v = .slice A ((rs.take k).map (·.number)).length c ∧ Row wr w.heap.size 3 1 icell A ((rs.take k).map (·.number)).length c ((rs.take k).map (·.number))) ∧ Bw w wr) (fun _ i _ => m - (intOf i).toNat)
    case atStart => exact ⟨0, Nat.zero_le _, rfl, ⟨_, _, rfl, Row.nil _ _ _ _ _⟩, hbw⟩
    case round =>
      obtain ⟨k, hk, rfl, ⟨A', c', rfl, hrow⟩, hbl⟩ := hrel
      have hdl : ((rs.take k).map (·.number)).length ≤ k := by simp; omega
      by_cases hlt : k < m
      · obtain ⟨b, off, rfl, hb, hc⟩ := (hh.keep hbl).request (by omega)
        have hb' : b < wr.heap.size + 1 := by omega
        have ⟨h0, h1, h2, h3⟩ := hc k hlt
        clear hc
        have HD := Lib.hid (map_succ rs k (by rw [hl.out]; exact hlt))
        generalize (rs.take k).map (·.number) = L at hrow HD hdl
        go_wp2_with (at_builtin; refine append_int rfl _ _ rfl _ _ _ _ rfl (hrow.keep ((Bw.refl _).alloc _)) _ _ rfl ?_ ?_ ?_ ?_; simp; omega; (simp; have := hbl.size; omega); intro A2 c2 w2 hrow2 hg2 hmv2)
        go_roundw
        case rel => exact ⟨k + 1, by omega, by go_num, by rw [HD.out]; exact ⟨A2, c2, by simp, by simpa using hrow2⟩, Bw.ofRow (hbl.alloc _) hg2 (fun x hx => (hrow.lt x hx).1)⟩
        case measure => simp [intOf]; omega
      · obtain rfl : k = m := by omega
        generalize (rs.take k).map (·.number) = L at *
        go_wp2
        go_ret2
        rw [HR.out]
        exact ⟨⟨_, _, rfl, hrow⟩, hbl⟩
end Go.Proofs.YtcemcgcbhmianaaDoor
