
/- A timer is put into a list: the reference's. -/
import Derived.Test.YtjejfkndiecmaaaT3
import Derived.Test.YtjejfkndiecmaaaK15
namespace Go.Proofs.Ytjejfkndiecmaaa
open Go.RowKit
def putT (ts : List Timer) (t : Timer) : List Timer := (wo ts t.id).take (posT (wo ts t.id) t.id) ++ [t] ++ (wo ts t.id).drop (posT (wo ts t.id) t.id)
theorem putT_len (ts : List Timer) (t : Timer) : (putT ts t).length = (wo ts t.id).length + 1 := by
  have := posT_le (wo ts t.id) t.id
  simp [putT]; omega
theorem rd_end {w : World} {A : Option Addr} {m : Nat} {rs : List Timer} (h : rs.length = m) : Rd w A 0 3 ((rs.drop m).map Timer.cells) := by
  rw [List.drop_of_length_le (by omega)]; exact Rd.nil _ _ _
theorem Rd.oneB {T : Type} {enc : T → List Value} {W W' : World} {size g : Nat} {cs : Array Value} {e : TypeId} {x : T} (hx : enc x = cs.toList) (hg : W.heap.size = g) (hb : Bw (W.alloc (.cells cs e)) W') : Rd W' (some ⟨g, 0, none⟩) 1 size ([x].map enc) := by
  subst hg; exact (Rd.one W cs e x size hx).keep hb
theorem Rd.oneG {T : Type} {enc : T → List Value} {W W1 W' : World} {size g : Nat} {cs : Array Value} {e : TypeId} {x : T} {row : Option Nat} (hx : enc x = cs.toList) (hg : W.heap.size = g) (hb : Bw (W.alloc (.cells cs e)) W1) (hgr : W1.grownBy W' row) (hne : row ≠ some g) : Rd W' (some ⟨g, 0, none⟩) 1 size ([x].map enc) :=
  (Rd.oneB hx hg hb).grown hgr (fun y hy => by simp at hy; subst hy; exact hne)
theorem Row.emptyK {T : Type} {W W' : World} {lo : Nat} {e : TypeId} {sz : Nat} {enc : T → List Value} {g : Nat} (hlo : lo ≤ W.heap.size) (hg : W.heap.size = g) (hb : Bw (W.alloc (.cells #[] e)) W') : Row W' lo e sz enc (some ⟨g, 0, none⟩) 0 0 [] := by
  subst hg; exact (Row.empty W lo e sz enc hlo).keep hb
theorem keep3 {w1 W : World} {p0 p1 p2 : Addr} {v0 v1 v2 : Value} (hh : Bw w1 W) (d0 : w1.cell? p0 = some v0) (d1 : w1.cell? p1 = some v1) (d2 : w1.cell? p2 = some v2) : W.cell? p0 = some v0 ∧ W.cell? p1 = some v1 ∧ W.cell? p2 = some v2 ∧ Bw w1 W := ⟨hh.cellv d0, hh.cellv d1, hh.cellv d2, hh⟩
set_option maxRecDepth 100000 in
set_option maxHeartbeats 2000000 in
theorem c_l8Put (A : Option Addr) (n c : Nat) (ts : List Timer) (t : Timer) (w : World) (hm : n ≤ 100) (h : Rd w A n 3 (ts.map Timer.cells)) :
    Calls Try.prog 42 #[.slice A n c, .agg #[.int .i64 t.id, .int .i64 t.due, .int .i64 t.per]] w fun e w' => (∃ A' c', e = .returned (.slice A' (putT ts t).length c') ∧ Row w' w.heap.size 26 3 Timer.cells A' (putT ts t).length c' (putT ts t)) ∧ Bw w w' := by
  have hl := Lib.hid h.tlen
  obtain ⟨i0, hi, hz0, hz1, hz2⟩ := info_parts infoTimer
  have Hi := Lib.hid hi
  have Hz0 := Lib.hid hz0
  have Hz1 := Lib.hid hz1
  have Hz2 := Lib.hid hz2
  clear hi hz0 hz1 hz2
  have hrl := wo_len ts t.id
  rw [hl.out] at hrl
  have HP := Lib.hid (show putT ts t = (wo ts t.id).take (posT (wo ts t.id) t.id) ++ [t] ++ (wo ts t.id).drop (posT (wo ts t.id) t.id) from rfl)
  generalize hR : wo ts t.id = rs at HP hrl
  have HR := Lib.hid hR
  have hpl := posT_le rs t.id
  have Hlo := Lib.hid (fun j (hj : j < posT rs t.id) => posT_lo hj)
  have Hhi := Lib.hid (show posT rs t.id < rs.length → t.id ≤ (tAt rs (posT rs t.id)).id from fun hj => by
    have h1 := List.findIdx_getElem (w := hj)
    simp only [decide_eq_true_eq] at h1
    rw [tAt_lt hj]; exact h1)
  generalize hp : posT rs t.id = p at HP hpl Hlo Hhi
  clear hR hp
  go_enter Try.func42, Try.ntmps42
  go_wp2_with fail
  refine (c_l8Without _ _ _ ts t.id _ hm (h.keep (Bw.alloc (Bw.refl _) _))).mono ?_
  rw [HR.out]
  rintro e w1 ⟨⟨A1, c1, rfl, row1⟩, hb1⟩
  have hsz1 : w.heap.size < w1.heap.size := by have := hb1.size; simp at this; omega
  have hb01 := Bw.trans (Bw.alloc (Bw.refl w) _) hb1
  have d0 := hb1.cellv (p := ⟨w.heap.size, 0, none⟩) (v := .int .i64 t.id) (by go_simp)
  have d1 := hb1.cellv (p := ⟨w.heap.size, 1, none⟩) (v := .int .i64 t.due) (by go_simp)
  have d2 := hb1.cellv (p := ⟨w.heap.size, 2, none⟩) (v := .int .i64 t.per) (by go_simp)
  generalize hm2 : rs.length = m at *
  have HM := Lib.hid hm2
  clear hm2
  go_wp2_with fail
  go_loopw [6] (fun kv wr => ∃ k : Nat, k ≤ p ∧ kv = .int .i64 k ∧ Bw w1 wr) (fun kv _ => p - (intOf kv).toNat)
  case atStart => exact ⟨0, Nat.zero_le _, rfl, Bw.refl _⟩
  case round =>
    obtain ⟨k, hk, rfl, hbl⟩ := hrel
    have e0 := hbl.cellv d0
    have e1 := hbl.cellv d1
    have e2 := hbl.cellv d2
    by_cases hkp : k < p
    · obtain ⟨g, rfl, hlo, hgl, hfz, hcc⟩ := (row1.keep hbl).timer (by omega)
      have ⟨q0, q1, q2⟩ := hcc k (by omega)
      clear hcc
      have hlt := Hlo.out k hkp
      have hkm : k < m := by omega
      go_wp2_with fail
      go_quiet (fail)
      go_wp2
      go_roundw
      case rel => exact ⟨k + 1, by omega, by go_num, hbl.trans ((Bw.refl _).drewN _)⟩
      case measure => simp [intOf]; omega
    · obtain rfl : k = p := by omega
      have rd1 := row1.rd (fun _ => rfl)
      have hcap := row1.caps.1
      by_cases hpm : k < m
      · obtain ⟨g, rfl, hlo, hgl, hfz, hcc⟩ := (row1.keep hbl).timer (by omega)
        have ⟨q0, q1, q2⟩ := hcc k (by omega)
        clear hcc
        have hge := Hhi.out hpm
        have hnl : ¬ (tAt rs k).id < t.id := by omega
        have hck : ¬ c1 = k := by omega
        have i1 : (0 : Int) ≤ (k : Int) := by omega
        have i2 : (k : Int) ≤ (m : Int) := by omega
        have i3 : (k : Int) ≤ (c1 : Int) := by omega
        have i4 : (m : Int) ≤ (c1 : Int) := by omega
        go_wp2_with fail
        go_quiet (fail)
        go_wp2_with fail
        have hszr := hbl.size
        have hbl2 := (hbl.trans ((Bw.refl _).drewN nq))
        go_region_held3 (fun W => W.cell? ⟨w.heap.size, 0, none⟩ = some (.int .i64 t.id) ∧ W.cell? ⟨w.heap.size, 1, none⟩ = some (.int .i64 t.due) ∧ W.cell? ⟨w.heap.size, 2, none⟩ = some (.int .i64 t.per) ∧ Bw w1 W) (first | (refine keep3 ?_ d0 d1 d2; (repeat (first | with_reducible assumption | exact Bw.refl _ | (with_reducible refine Bw.setCell ?_ (by simp) _) | (with_reducible refine Bw.alloc ?_ _) | (with_reducible refine Bw.drew ?_) | (with_reducible refine Bw.drewN ?_ _))); done)) (first | ((have hS := ‹World.cell? _ _ = _ ∧ World.cell? _ _ = _ ∧ World.cell? _ _ = _ ∧ Bw w1 _›); (have hbS := hS.2.2.2); (refine step_append_rd (enc := Timer.cells) (by rfl) (.tmp 27) (.tmp 30) 24 (by rfl) w1.heap.size 26 i0 _ 3 24 Try.underlying24 Hi.out Hz0.out Hz1.out Hz2.out rfl (by decide) (fun _ => rfl) oneTimer _ 0 0 [] (by rfl) (by first | exact Row.emptyK (by (first | omega | (simp; done) | (simp; omega))) (by simp) (Bw.refl _) | exact Row.emptyK (by (first | omega | (simp; done) | (simp; omega))) (by simp) (Bw.alloc (Bw.refl _) _)) _ k _ (rs.take k) (by rfl) (by exact (rd1.preM k (by omega)).keep hbS) (by unfold maxLen; omega) (by omega) (by (first | omega | (simp; done) | (simp; omega))) ?_); (intro A2 c2 w2 hrow2 hg2 hmv2 hnn2); (rw [Nat.zero_add, List.nil_append] at hrow2); (try simp only [Nat.zero_add]); (have hbA : Bw w1 w2 := Bw.ofRow hbS hg2 (fun x hx => by simp at hx; subst hx; (first | omega | (simp; done) | (simp; omega))))) | ((have hS := ‹World.cell? _ _ = _ ∧ World.cell? _ _ = _ ∧ World.cell? _ _ = _ ∧ Bw w1 _›); (have hbS := hS.2.2.2); (refine step_append_rd (enc := Timer.cells) (by rfl) (.tmp 31) (.tmp 33) 24 (by rfl) w1.heap.size 26 i0 _ 3 24 Try.underlying24 Hi.out Hz0.out Hz1.out Hz2.out rfl (by decide) (fun _ => rfl) oneTimer A2 k c2 (rs.take k) (by rfl) (by first | exact hrow2 | exact hrow2.keep (Bw.alloc (Bw.refl _) _)) _ 1 _ [t] (by rfl) (by first | exact Rd.oneB (enc := Timer.cells) (x := t) rfl (by simp) (Bw.refl _) | exact Rd.oneG (enc := Timer.cells) (x := t) rfl (by simp) (Bw.refl _) hg2 (by simp [Value.ownBlock]) | exact Rd.oneG (enc := Timer.cells) (x := t) rfl (by simp) (Bw.alloc (Bw.refl _) _) hg2 (by simp [Value.ownBlock])) (by unfold maxLen; omega) (by omega) (by have := hbA.size; (first | omega | (simp; done) | (simp; omega))) ?_); (intro A3 c3 w3 hrow3 hg3 hmv3 hnn3); (have hbB : Bw w1 w3 := Bw.ofRow hbS hg3 (fun x hx => (hrow2.lt x hx).1))) | ((have hS := ‹World.cell? _ _ = _ ∧ World.cell? _ _ = _ ∧ World.cell? _ _ = _ ∧ Bw w1 _›); (have hbS := hS.2.2.2); (refine step_append_rd (enc := Timer.cells) (by rfl) (.tmp 34) (.tmp 37) 24 (by rfl) w1.heap.size 26 i0 _ 3 24 Try.underlying24 Hi.out Hz0.out Hz1.out Hz2.out rfl (by decide) (fun _ => rfl) oneTimer A3 (k + 1) c3 (rs.take k ++ [t]) (by rfl) (by exact hrow3) _ (m - k) _ (rs.drop k) (by rfl) (by exact (rd1.partM k (by omega) (k * 3) (.inr (by omega))).keep hbS) (by unfold maxLen; omega) (by omega) (by have := hbB.size; (first | omega | (simp; done) | (simp; omega))) ?_); (intro A4 c4 w4 hrow4 hg4 hmv4 hnn4); (have hbC : Bw w1 w4 := Bw.ofRow hbS hg4 (fun x hx => (hrow3.lt x hx).1))) | fail)
        all_goals
          go_wp2
          go_ret
          rw [HP.out]
          have hln : (rs.take k ++ [t] ++ rs.drop k).length = k + 1 + (m - k) := by have := HM.out; simp only [List.length_append, List.length_take, List.length_drop, List.length_singleton]; omega
          rw [hln]
          exact ⟨⟨A4, c4, by simp, by simpa using hrow4.mono (by omega)⟩, hb01.trans hbC⟩
      · obtain rfl : k = m := by omega
        have e3 : ¬ (k : Int) < (k : Int) := by omega
        have i1 : (0 : Int) ≤ (k : Int) := by omega
        have i3 : (k : Int) ≤ (c1 : Int) := by omega
        rcases row1.ways with ⟨rfl, h0, hc0, hts⟩ | ⟨g, rfl, hlo, hgl⟩
        · subst h0
          subst hc0
          go_wp2_with fail
          go_quiet (fail)
          go_wp2_with fail
          have hszr := hbl.size
          have hbl2 := (hbl.trans ((Bw.refl _).drewN nq))
          go_region_held3 (fun W => W.cell? ⟨w.heap.size, 0, none⟩ = some (.int .i64 t.id) ∧ W.cell? ⟨w.heap.size, 1, none⟩ = some (.int .i64 t.due) ∧ W.cell? ⟨w.heap.size, 2, none⟩ = some (.int .i64 t.per) ∧ Bw w1 W) (first | (refine keep3 ?_ d0 d1 d2; (repeat (first | with_reducible assumption | exact Bw.refl _ | (with_reducible refine Bw.setCell ?_ (by simp) _) | (with_reducible refine Bw.alloc ?_ _) | (with_reducible refine Bw.drew ?_) | (with_reducible refine Bw.drewN ?_ _))); done)) (first | ((have hS := ‹World.cell? _ _ = _ ∧ World.cell? _ _ = _ ∧ World.cell? _ _ = _ ∧ Bw w1 _›); (have hbS := hS.2.2.2); (refine step_append_rd (enc := Timer.cells) (by rfl) (.tmp 27) (.tmp 30) 24 (by rfl) w1.heap.size 26 i0 _ 3 24 Try.underlying24 Hi.out Hz0.out Hz1.out Hz2.out rfl (by decide) (fun _ => rfl) oneTimer _ 0 0 [] (by rfl) (by first | exact Row.emptyK (by (first | omega | (simp; done) | (simp; omega))) (by simp) (Bw.refl _) | exact Row.emptyK (by (first | omega | (simp; done) | (simp; omega))) (by simp) (Bw.alloc (Bw.refl _) _)) _ 0 _ (rs.take 0) (by rfl) (by exact (rd1.preM 0 (by omega)).keep hbS) (by unfold maxLen; omega) (by omega) (by (first | omega | (simp; done) | (simp; omega))) ?_); (intro A2 c2 w2 hrow2 hg2 hmv2 hnn2); (rw [Nat.zero_add, List.nil_append] at hrow2); (try simp only [Nat.zero_add]); (have hbA : Bw w1 w2 := Bw.ofRow hbS hg2 (fun x hx => by simp at hx; subst hx; (first | omega | (simp; done) | (simp; omega))))) | ((have hS := ‹World.cell? _ _ = _ ∧ World.cell? _ _ = _ ∧ World.cell? _ _ = _ ∧ Bw w1 _›); (have hbS := hS.2.2.2); (refine step_append_rd (enc := Timer.cells) (by rfl) (.tmp 31) (.tmp 33) 24 (by rfl) w1.heap.size 26 i0 _ 3 24 Try.underlying24 Hi.out Hz0.out Hz1.out Hz2.out rfl (by decide) (fun _ => rfl) oneTimer A2 0 c2 (rs.take 0) (by rfl) (by first | exact hrow2 | exact hrow2.keep (Bw.alloc (Bw.refl _) _)) _ 1 _ [t] (by rfl) (by first | exact Rd.oneB (enc := Timer.cells) (x := t) rfl (by simp) (Bw.refl _) | exact Rd.oneG (enc := Timer.cells) (x := t) rfl (by simp) (Bw.refl _) hg2 (by simp [Value.ownBlock]) | exact Rd.oneG (enc := Timer.cells) (x := t) rfl (by simp) (Bw.alloc (Bw.refl _) _) hg2 (by simp [Value.ownBlock])) (by unfold maxLen; omega) (by omega) (by have := hbA.size; (first | omega | (simp; done) | (simp; omega))) ?_); (intro A3 c3 w3 hrow3 hg3 hmv3 hnn3); (have hbB : Bw w1 w3 := Bw.ofRow hbS hg3 (fun x hx => (hrow2.lt x hx).1))) | ((have hS := ‹World.cell? _ _ = _ ∧ World.cell? _ _ = _ ∧ World.cell? _ _ = _ ∧ Bw w1 _›); (have hbS := hS.2.2.2); (refine step_append_rd (enc := Timer.cells) (by rfl) (.tmp 34) (.tmp 37) 24 (by rfl) w1.heap.size 26 i0 _ 3 24 Try.underlying24 Hi.out Hz0.out Hz1.out Hz2.out rfl (by decide) (fun _ => rfl) oneTimer A3 (0 + 1) c3 (rs.take 0 ++ [t]) (by rfl) (by exact hrow3) _ (0) _ (rs.drop 0) (by rfl) (by exact (rd_end HM.out).keep hbS) (by unfold maxLen; omega) (by omega) (by have := hbB.size; (first | omega | (simp; done) | (simp; omega))) ?_); (intro A4 c4 w4 hrow4 hg4 hmv4 hnn4); (have hbC : Bw w1 w4 := Bw.ofRow hbS hg4 (fun x hx => (hrow3.lt x hx).1))) | fail)
          all_goals
            go_wp2
            go_ret
            rw [HP.out]
            have hln : (rs.take 0 ++ [t] ++ rs.drop 0).length = 0 + 1 + (0) := by have := HM.out; simp only [List.length_append, List.length_take, List.length_drop, List.length_singleton]; omega
            rw [hln]
            exact ⟨⟨A4, c4, by simp, by simpa using hrow4.mono (by omega)⟩, hb01.trans hbC⟩
        · by_cases hck : c1 = k
          · subst hck
            go_wp2_with fail
            go_quiet (fail)
            go_wp2_with fail
            have hszr := hbl.size
            have hbl2 := (hbl.trans ((Bw.refl _).drewN nq))
            go_region_held3 (fun W => W.cell? ⟨w.heap.size, 0, none⟩ = some (.int .i64 t.id) ∧ W.cell? ⟨w.heap.size, 1, none⟩ = some (.int .i64 t.due) ∧ W.cell? ⟨w.heap.size, 2, none⟩ = some (.int .i64 t.per) ∧ Bw w1 W) (first | (refine keep3 ?_ d0 d1 d2; (repeat (first | with_reducible assumption | exact Bw.refl _ | (with_reducible refine Bw.setCell ?_ (by simp) _) | (with_reducible refine Bw.alloc ?_ _) | (with_reducible refine Bw.drew ?_) | (with_reducible refine Bw.drewN ?_ _))); done)) (first | ((have hS := ‹World.cell? _ _ = _ ∧ World.cell? _ _ = _ ∧ World.cell? _ _ = _ ∧ Bw w1 _›); (have hbS := hS.2.2.2); (refine step_append_rd (enc := Timer.cells) (by rfl) (.tmp 27) (.tmp 30) 24 (by rfl) w1.heap.size 26 i0 _ 3 24 Try.underlying24 Hi.out Hz0.out Hz1.out Hz2.out rfl (by decide) (fun _ => rfl) oneTimer _ 0 0 [] (by rfl) (by first | exact Row.emptyK (by (first | omega | (simp; done) | (simp; omega))) (by simp) (Bw.refl _) | exact Row.emptyK (by (first | omega | (simp; done) | (simp; omega))) (by simp) (Bw.alloc (Bw.refl _) _)) _ c1 _ (rs.take c1) (by rfl) (by exact (rd1.preM c1 (by omega)).keep hbS) (by unfold maxLen; omega) (by omega) (by (first | omega | (simp; done) | (simp; omega))) ?_); (intro A2 c2 w2 hrow2 hg2 hmv2 hnn2); (rw [Nat.zero_add, List.nil_append] at hrow2); (try simp only [Nat.zero_add]); (have hbA : Bw w1 w2 := Bw.ofRow hbS hg2 (fun x hx => by simp at hx; subst hx; (first | omega | (simp; done) | (simp; omega))))) | ((have hS := ‹World.cell? _ _ = _ ∧ World.cell? _ _ = _ ∧ World.cell? _ _ = _ ∧ Bw w1 _›); (have hbS := hS.2.2.2); (refine step_append_rd (enc := Timer.cells) (by rfl) (.tmp 31) (.tmp 33) 24 (by rfl) w1.heap.size 26 i0 _ 3 24 Try.underlying24 Hi.out Hz0.out Hz1.out Hz2.out rfl (by decide) (fun _ => rfl) oneTimer A2 c1 c2 (rs.take c1) (by rfl) (by first | exact hrow2 | exact hrow2.keep (Bw.alloc (Bw.refl _) _)) _ 1 _ [t] (by rfl) (by first | exact Rd.oneB (enc := Timer.cells) (x := t) rfl (by simp) (Bw.refl _) | exact Rd.oneG (enc := Timer.cells) (x := t) rfl (by simp) (Bw.refl _) hg2 (by simp [Value.ownBlock]) | exact Rd.oneG (enc := Timer.cells) (x := t) rfl (by simp) (Bw.alloc (Bw.refl _) _) hg2 (by simp [Value.ownBlock])) (by unfold maxLen; omega) (by omega) (by have := hbA.size; (first | omega | (simp; done) | (simp; omega))) ?_); (intro A3 c3 w3 hrow3 hg3 hmv3 hnn3); (have hbB : Bw w1 w3 := Bw.ofRow hbS hg3 (fun x hx => (hrow2.lt x hx).1))) | ((have hS := ‹World.cell? _ _ = _ ∧ World.cell? _ _ = _ ∧ World.cell? _ _ = _ ∧ Bw w1 _›); (have hbS := hS.2.2.2); (refine step_append_rd (enc := Timer.cells) (by rfl) (.tmp 34) (.tmp 37) 24 (by rfl) w1.heap.size 26 i0 _ 3 24 Try.underlying24 Hi.out Hz0.out Hz1.out Hz2.out rfl (by decide) (fun _ => rfl) oneTimer A3 (c1 + 1) c3 (rs.take c1 ++ [t]) (by rfl) (by exact hrow3) _ (0) _ (rs.drop c1) (by rfl) (by exact (rd_end HM.out).keep hbS) (by unfold maxLen; omega) (by omega) (by have := hbB.size; (first | omega | (simp; done) | (simp; omega))) ?_); (intro A4 c4 w4 hrow4 hg4 hmv4 hnn4); (have hbC : Bw w1 w4 := Bw.ofRow hbS hg4 (fun x hx => (hrow3.lt x hx).1))) | fail)
            all_goals
              go_wp2
              go_ret
              rw [HP.out]
              have hln : (rs.take c1 ++ [t] ++ rs.drop c1).length = c1 + 1 + (0) := by have := HM.out; simp only [List.length_append, List.length_take, List.length_drop, List.length_singleton]; omega
              rw [hln]
              exact ⟨⟨A4, c4, by simp, by simpa using hrow4.mono (by omega)⟩, hb01.trans hbC⟩
          · go_wp2_with fail
            go_quiet (fail)
            go_wp2_with fail
            have hszr := hbl.size
            have hbl2 := (hbl.trans ((Bw.refl _).drewN nq))
            go_region_held3 (fun W => W.cell? ⟨w.heap.size, 0, none⟩ = some (.int .i64 t.id) ∧ W.cell? ⟨w.heap.size, 1, none⟩ = some (.int .i64 t.due) ∧ W.cell? ⟨w.heap.size, 2, none⟩ = some (.int .i64 t.per) ∧ Bw w1 W) (first | (refine keep3 ?_ d0 d1 d2; (repeat (first | with_reducible assumption | exact Bw.refl _ | (with_reducible refine Bw.setCell ?_ (by simp) _) | (with_reducible refine Bw.alloc ?_ _) | (with_reducible refine Bw.drew ?_) | (with_reducible refine Bw.drewN ?_ _))); done)) (first | ((have hS := ‹World.cell? _ _ = _ ∧ World.cell? _ _ = _ ∧ World.cell? _ _ = _ ∧ Bw w1 _›); (have hbS := hS.2.2.2); (refine step_append_rd (enc := Timer.cells) (by rfl) (.tmp 27) (.tmp 30) 24 (by rfl) w1.heap.size 26 i0 _ 3 24 Try.underlying24 Hi.out Hz0.out Hz1.out Hz2.out rfl (by decide) (fun _ => rfl) oneTimer _ 0 0 [] (by rfl) (by first | exact Row.emptyK (by (first | omega | (simp; done) | (simp; omega))) (by simp) (Bw.refl _) | exact Row.emptyK (by (first | omega | (simp; done) | (simp; omega))) (by simp) (Bw.alloc (Bw.refl _) _)) _ k _ (rs.take k) (by rfl) (by exact (rd1.preM k (by omega)).keep hbS) (by unfold maxLen; omega) (by omega) (by (first | omega | (simp; done) | (simp; omega))) ?_); (intro A2 c2 w2 hrow2 hg2 hmv2 hnn2); (rw [Nat.zero_add, List.nil_append] at hrow2); (try simp only [Nat.zero_add]); (have hbA : Bw w1 w2 := Bw.ofRow hbS hg2 (fun x hx => by simp at hx; subst hx; (first | omega | (simp; done) | (simp; omega))))) | ((have hS := ‹World.cell? _ _ = _ ∧ World.cell? _ _ = _ ∧ World.cell? _ _ = _ ∧ Bw w1 _›); (have hbS := hS.2.2.2); (refine step_append_rd (enc := Timer.cells) (by rfl) (.tmp 31) (.tmp 33) 24 (by rfl) w1.heap.size 26 i0 _ 3 24 Try.underlying24 Hi.out Hz0.out Hz1.out Hz2.out rfl (by decide) (fun _ => rfl) oneTimer A2 k c2 (rs.take k) (by rfl) (by first | exact hrow2 | exact hrow2.keep (Bw.alloc (Bw.refl _) _)) _ 1 _ [t] (by rfl) (by first | exact Rd.oneB (enc := Timer.cells) (x := t) rfl (by simp) (Bw.refl _) | exact Rd.oneG (enc := Timer.cells) (x := t) rfl (by simp) (Bw.refl _) hg2 (by simp [Value.ownBlock]) | exact Rd.oneG (enc := Timer.cells) (x := t) rfl (by simp) (Bw.alloc (Bw.refl _) _) hg2 (by simp [Value.ownBlock])) (by unfold maxLen; omega) (by omega) (by have := hbA.size; (first | omega | (simp; done) | (simp; omega))) ?_); (intro A3 c3 w3 hrow3 hg3 hmv3 hnn3); (have hbB : Bw w1 w3 := Bw.ofRow hbS hg3 (fun x hx => (hrow2.lt x hx).1))) | ((have hS := ‹World.cell? _ _ = _ ∧ World.cell? _ _ = _ ∧ World.cell? _ _ = _ ∧ Bw w1 _›); (have hbS := hS.2.2.2); (refine step_append_rd (enc := Timer.cells) (by rfl) (.tmp 34) (.tmp 37) 24 (by rfl) w1.heap.size 26 i0 _ 3 24 Try.underlying24 Hi.out Hz0.out Hz1.out Hz2.out rfl (by decide) (fun _ => rfl) oneTimer A3 (k + 1) c3 (rs.take k ++ [t]) (by rfl) (by exact hrow3) _ (0) _ (rs.drop k) (by rfl) (by exact (rd_end HM.out).keep hbS) (by unfold maxLen; omega) (by omega) (by have := hbB.size; (first | omega | (simp; done) | (simp; omega))) ?_); (intro A4 c4 w4 hrow4 hg4 hmv4 hnn4); (have hbC : Bw w1 w4 := Bw.ofRow hbS hg4 (fun x hx => (hrow3.lt x hx).1))) | fail)
            all_goals
              go_wp2
              go_ret
              rw [HP.out]
              have hln : (rs.take k ++ [t] ++ rs.drop k).length = k + 1 + (0) := by have := HM.out; simp only [List.length_append, List.length_take, List.length_drop, List.length_singleton]; omega
              rw [hln]
              exact ⟨⟨A4, c4, by simp, by simpa using hrow4.mono (by omega)⟩, hb01.trans hbC⟩
end Go.Proofs.Ytjejfkndiecmaaa
