
/- AwaitedSerials: the reference's side. -/
import Derived.Test.YtcemcgcbhmianaaDoorU6
namespace Go.Proofs.YtcemcgcbhmianaaDoor
open Go.RowKit
theorem Row.notOwnA' {T : Type} {w : World} {lo : Nat} {e : TypeId} {sz : Nat} {enc : T → List Value} {A : Option Addr} {n c : Nat} {ts : List T} (_h : Row w lo e sz enc A n c ts) {b m d : Nat} (hx : ∀ x, A = some x → b < x.block) : some b ≠ Value.ownBlock (.slice A m d) := fun he => by
  cases A with
  | none => simp [Value.ownBlock] at he
  | some y => have := hx y rfl; simp only [Value.ownBlock, Option.some.injEq] at he; omega
set_option maxRecDepth 100000 in
theorem c_sAwaited (st : Bool) (ck t : Int) (A : Option Addr) (n c : Nat) (ts : List Slot) (hf : fitL ts) (B : Option Addr) (m d : Nat) (rs : List Request) (w : World) (hn : n ≤ 9223372036854775807) (hm : m ≤ 9223372036854775807) (h : Rd w A n 2 (ts.map Slot.cells)) (hh : Rd w B m 4 (rs.map Request.cells)) :
    Calls Tryd.prog 42 #[.agg #[.bool st, .int .i64 ck, .int .i64 t, .slice A n c, .slice B m d]] w fun e w' => (∃ A' c', e = .returned (.tuple #[.slice A' (awL st ck t ts rs).length c', .bool (rcB st ck t ts rs)]) ∧ Row w' w.heap.size 3 1 icell A' (awL st ck t ts rs).length c' (awL st ck t ts rs)) ∧ Bw w w' := by
  have hl := Lib.hid hh.requestlen
  have hx := (Bw.refl w).alloc (.cells #[.bool st, .int .i64 ck, .int .i64 t, .slice A n c, .slice B m d] 55)
  have ha := hx.alloc (.cells #[] 3)
  have hrw0 : Row ((w.alloc (.cells #[.bool st, .int .i64 ck, .int .i64 t, .slice A n c, .slice B m d] 55)).alloc (.cells #[] 3)) w.heap.size 3 1 icell (some ⟨w.heap.size + 1, 0, none⟩) 0 0 [] := by
    have := Row.empty (T := Int) (w.alloc (.cells #[.bool st, .int .i64 ck, .int .i64 t, .slice A n c, .slice B m d] 55)) w.heap.size 3 1 icell (by simp)
    simpa using this
  cases hg : rcB st ck t ts rs
  · have HR := Lib.hid (show awL st ck t ts rs = [] by simp [awL, hg])
    go_enter Tryd.func42, Tryd.ntmps42
    go_wp2_with (go_at_call 69; refine (c_l13Good st ck t _ _ _ ts hf _ _ _ rs hg _ hn hm (h.keep ha) (hh.keep ha)).mono ?_; rintro e w1 ⟨rfl, hb1⟩)
    go_ret2
    rw [HR.out]
    exact ⟨⟨_, _, rfl, hrw0.keep hb1⟩, ha.trans hb1⟩
  · have HR := Lib.hid (show awL st ck t ts rs = (rs.take m).map (·.number) by rw [List.take_of_length_le (by rw [hl.out]; omega)]; simp [awL, hg])
    have hgr : goodR rs t = true := by
      cases e1 : goodR rs t
      · rw [rc_req e1] at hg; cases hg
      · rfl
    have hm8 : m ≤ 8 := by rw [← hl.out]; exact (goodR_iff.1 hgr).2.1
    clear hgr
    go_enter Tryd.func42, Tryd.ntmps42
    go_wp2_with (go_at_call 69; refine (c_l13Good st ck t _ _ _ ts hf _ _ _ rs hg _ hn hm (h.keep ha) (hh.keep ha)).mono ?_; rintro e w1 ⟨rfl, hb1⟩; have d4 := hb1.cellv (p := ⟨w.heap.size, 4, none⟩) (v := .slice B m d) (by go_simp))
    have hbw := ha.trans hb1
    have hsw : w.heap.size < w1.heap.size := World.block_lt_of_cell? w1 ⟨w.heap.size, 4, none⟩ d4
    go_loopw [4, 5] (fun v i wr => ∃ k : Nat, k ≤ m ∧ i = .int .i64 k ∧ (∃ A c, v = .slice A ((rs.take k).map (·.number)).length c ∧ Row wr (w.heap.size + 1) 3 1 icell A ((rs.take k).map (·.number)).length c ((rs.take k).map (·.number))) ∧ wr.cell? ⟨w.heap.size, 4, none⟩ = some (.slice B m d) ∧ Bw w wr ∧ w.heap.size < wr.heap.size) (fun _ i _ => m - (intOf i).toNat)
    case atStart =>
      refine ⟨0, Nat.zero_le _, rfl, ⟨_, _, rfl, ?_⟩, d4, hbw, hsw⟩
      have := Row.empty (T := Int) (w.alloc (.cells #[.bool st, .int .i64 ck, .int .i64 t, .slice A n c, .slice B m d] 55)) (w.heap.size + 1) 3 1 icell (by simp)
      simp only [World.size_alloc] at this
      exact this.keep hb1
    case round =>
      obtain ⟨k, hk, rfl, ⟨A', c', rfl, hrow⟩, hd4, hbl, hsr⟩ := hrel
      have hdl : ((rs.take k).map (·.number)).length ≤ k := by simp; omega
      by_cases hlt : k < m
      · obtain ⟨b, off, rfl, hb, hc⟩ := (hh.keep hbl).request (by omega)
        have ⟨h0, h1, h2, h3⟩ := hc k hlt
        clear hc
        have HD := Lib.hid (map_succ rs k (by rw [hl.out]; exact hlt))
        generalize (rs.take k).map (·.number) = L at hrow HD hdl
        have nown := hrow.notOwnA' (b := w.heap.size) (m := L.length) (d := c') (fun x hx => by have := (hrow.lt x hx).1; omega)
        go_wp2_with (at_builtin; refine append_int rfl _ _ rfl _ _ _ _ rfl hrow _ _ rfl rfl ?_ ?_ ?_; omega; omega; intro A2 c2 w2 hrow2 hg2 hmv2)
        go_roundw
        case rel => exact ⟨k + 1, by omega, by go_num, by rw [HD.out]; exact ⟨A2, c2, by simp, by simpa using hrow2⟩, hg2.cell hd4 nown, Bw.ofRow hbl hg2 (fun x hx => by have := (hrow.lt x hx).1; omega), Nat.lt_of_lt_of_le hsr hg2.size⟩
        case measure => simp [intOf]; omega
      · obtain rfl : k = m := by omega
        generalize (rs.take k).map (·.number) = L at *
        go_wp2
        go_ret2
        rw [HR.out]
        exact ⟨⟨_, _, rfl, hrow.mono (by omega)⟩, hbl⟩
end Go.Proofs.YtcemcgcbhmianaaDoor
