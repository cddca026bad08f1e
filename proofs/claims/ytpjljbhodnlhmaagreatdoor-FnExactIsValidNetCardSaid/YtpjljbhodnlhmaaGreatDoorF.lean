
/- Structs of numbers, and the laws' own helpers at them: copies, equality, marks. -/
import Derived.Test.YtpjljbhodnlhmaaGreatDoorK3
namespace Go.Proofs.YtpjljbhodnlhmaaGreatDoor
open Go.RowKit
structure Request where
  number : Int
  state : Int
  til : Int
  tries : Int
def Request.cells (t : Request) : List Value := [.int .i64 t.number, .int .i64 t.state, .int .i64 t.til, .int .i64 t.tries]
def Request.val (t : Request) : Value := .agg #[.int .i64 t.number, .int .i64 t.state, .int .i64 t.til, .int .i64 t.tries]
def requestAt (ts : List Request) (k : Nat) : Request := ts.getD k ⟨0, 0, 0, 0⟩
theorem requestAt_lt {ts : List Request} {k : Nat} (h : k < ts.length) : requestAt ts k = ts[k] := by simp [requestAt, h]
theorem Rd.request {w : World} {A : Option Addr} {n : Nat} {ts : List Request} (h : Rd w A n 4 (ts.map Request.cells)) (hn : 0 < n) :
    ∃ b off, A = some ⟨b, off, none⟩ ∧ b < w.heap.size ∧ ∀ k, k < n → w.cell? ⟨b, off + k * 4, none⟩ = some (.int .i64 (requestAt ts k).number) ∧ w.cell? ⟨b, off + k * 4 + 1, none⟩ = some (.int .i64 (requestAt ts k).state) ∧ w.cell? ⟨b, off + k * 4 + 2, none⟩ = some (.int .i64 (requestAt ts k).til) ∧ w.cell? ⟨b, off + k * 4 + 3, none⟩ = some (.int .i64 (requestAt ts k).tries) := by
  obtain ⟨b, off, hA, hb, hc⟩ := h.at_ hn
  refine ⟨b, off, hA, hb, fun k hk => ?_⟩
  have hl : ts.length = n := by simpa using h.len
  have hk' : k < ts.length := by omega
  have hx : (ts.map Request.cells)[k]? = some (requestAt ts k).cells := by simp [requestAt, hk']
  exact ⟨hc k 0 _ _ hx rfl, hc k 1 _ _ hx rfl, hc k 2 _ _ hx rfl, hc k 3 _ _ hx rfl⟩
theorem Rd.requestlen {w : World} {A : Option Addr} {n : Nat} {ts : List Request} (h : Rd w A n 4 (ts.map Request.cells)) : ts.length = n := by simpa using h.len
theorem Row.request {w : World} {lo : Nat} {e : TypeId} {A : Option Addr} {n c : Nat} {ts : List Request} (h : Row w lo e 4 Request.cells A n c ts) (hn : 0 < n) :
    ∃ g, A = some ⟨g, 0, none⟩ ∧ lo ≤ g ∧ g < w.heap.size ∧ (∀ j, w.frozen? ⟨g, j, none⟩ = false) ∧ ∀ k, k < n → w.cell? ⟨g, k * 4, none⟩ = some (.int .i64 (requestAt ts k).number) ∧ w.cell? ⟨g, k * 4 + 1, none⟩ = some (.int .i64 (requestAt ts k).state) ∧ w.cell? ⟨g, k * 4 + 2, none⟩ = some (.int .i64 (requestAt ts k).til) ∧ w.cell? ⟨g, k * 4 + 3, none⟩ = some (.int .i64 (requestAt ts k).tries) := by
  obtain ⟨g, rfl, hlo, hlt⟩ := h.form hn
  obtain ⟨b, off, hA, _, hc⟩ := (h.rd (fun _ => rfl)).request hn
  simp only [Option.some.injEq, Addr.mk.injEq, and_true] at hA
  obtain ⟨rfl, rfl⟩ := hA
  exact ⟨g, rfl, hlo, hlt, fun j => h.frozen j, fun k hk => by simpa using hc k hk⟩
theorem infoRequest : (Tryz.prog.info? 151).map (fun i => (i.zero, i.size, i.bytes)) = some (some (.agg #[.int .i64 0, .int .i64 0, .int .i64 0, .int .i64 0]), 4, 32) := by kernel_rfl
theorem x_toRequest (x0 x1 x2 x3 : Int) (w : World) : Calls Tryz.prog 154 #[.agg #[.int .i64 x0, .int .i64 x1, .int .i64 x2, .int .i64 x3]] w fun e w' => e = .returned (.agg #[.int .i64 x0, .int .i64 x1, .int .i64 x2, .int .i64 x3]) ∧ ((w.alloc (.cells #[.int .i64 x0, .int .i64 x1, .int .i64 x2, .int .i64 x3] 189)).alloc (.cells #[.int .i64 x0, .int .i64 x1, .int .i64 x2, .int .i64 x3] 151)).alloc (.cells #[.int .i64 x0, .int .i64 x1, .int .i64 x2, .int .i64 x3] 151) = w' := by
  go_enter Tryz.func154, Tryz.ntmps154
  go_wp2
  exact bodyPost_ret (v := .agg #[.int .i64 x0, .int .i64 x1, .int .i64 x2, .int .i64 x3]) (by simp [results, Tryz.results154, go_sem]) rfl ⟨rfl, rfl⟩
theorem c_toRequest (x0 x1 x2 x3 : Int) (w : World) : Calls Tryz.prog 154 #[.agg #[.int .i64 x0, .int .i64 x1, .int .i64 x2, .int .i64 x3]] w fun e w' => e = .returned (.agg #[.int .i64 x0, .int .i64 x1, .int .i64 x2, .int .i64 x3]) ∧ Bw w w' :=
  (x_toRequest x0 x1 x2 x3 w).mono fun _ _ ⟨he, hw⟩ => ⟨he, hw ▸ (((Bw.refl _).alloc _).alloc _).alloc _⟩
theorem x_eqRequest (x0 x1 x2 x3 : Int) (w : World) : Calls Tryz.prog 143 #[.agg #[.int .i64 x0, .int .i64 x1, .int .i64 x2, .int .i64 x3], .agg #[.int .i64 x0, .int .i64 x1, .int .i64 x2, .int .i64 x3]] w fun e w' => e = .returned (.bool true) ∧ (w.alloc (.cells #[.int .i64 x0, .int .i64 x1, .int .i64 x2, .int .i64 x3] 151)).alloc (.cells #[.int .i64 x0, .int .i64 x1, .int .i64 x2, .int .i64 x3] 151) = w' := by
  go_enter Tryz.func143, Tryz.ntmps143
  go_wp2
  go_ret
  exact ⟨rfl, rfl⟩
theorem c_eqRequest (x0 x1 x2 x3 : Int) (w : World) : Calls Tryz.prog 143 #[.agg #[.int .i64 x0, .int .i64 x1, .int .i64 x2, .int .i64 x3], .agg #[.int .i64 x0, .int .i64 x1, .int .i64 x2, .int .i64 x3]] w fun e w' => e = .returned (.bool true) ∧ Bw w w' :=
  (x_eqRequest x0 x1 x2 x3 w).mono fun _ _ ⟨he, hw⟩ => ⟨he, hw ▸ ((Bw.refl _).alloc _).alloc _⟩
theorem c_szRequestS (A : Option Addr) (n c : Nat) (hm : n ≤ 9223372036854775807) (w : World) : Calls Tryz.prog 114 #[.slice A n c, .int .i64 1048576] w fun e w' => (∃ m : Int, e = .returned (.int .i64 m) ∧ (m < 0 ∨ n ≤ 1048576)) ∧ w = w' := by
  go_enter Tryz.func114, Tryz.ntmps114
  by_cases h : n ≤ 1048576
  all_goals
    go_wp2
    go_ret
    refine ⟨⟨_, rfl, by omega⟩, rfl⟩
theorem c_toRequestS (A : Option Addr) (n c : Nat) (ts : List Request) (w : World) (hm : n ≤ 1048576) (h : Rd w A n 4 (ts.map Request.cells)) :
    Calls Tryz.prog 124 #[.slice A n c] w fun e w' => (∃ A' c', e = .returned (.slice A' n c') ∧ Row w' w.heap.size 151 4 Request.cells A' n c' ts) ∧ Bw w w' := by
  have hl := Lib.hid h.requestlen
  obtain ⟨i0, hi, hz0, hz1, hz2⟩ := info_parts infoRequest
  have hmk : ∀ W, (Instr.makeSlice 94 (.int .i64 (n : Int)) (.int .i64 (n : Int))).run Tryz.prog W = .ok (.slice (some ⟨W.heap.size, 0, none⟩) n n) (W.alloc (.cells (madeCells #[.int .i64 0, .int .i64 0, .int .i64 0, .int .i64 0] (n * 4)) 151)) := fun W => by
    have := run_make (P := Tryz.prog) W 94 151 i0 _ Tryz.underlying94 hi hz0 .i64 .i64 n n (by omega) (by omega) (by rw [hz2]; omega) (by omega)
    rw [hz1] at this
    exact this
  clear hi hz0 hz1 hz2
  go_enter Tryz.func124, Tryz.ntmps124
  go_wp2
  go_loopw [4] (fun i wr => ∃ k : Nat, k ≤ n ∧ i = .int .i64 k ∧ Row wr w.heap.size 151 4 Request.cells (some ⟨w.heap.size, 0, none⟩) n n (mix ⟨0, 0, 0, 0⟩ n k ts) ∧ Bw w wr) (fun i _ => n - (intOf i).toNat)
  case atStart =>
    refine ⟨0, Nat.zero_le _, rfl, ⟨?_, by simp [mix]⟩, (Bw.refl _).alloc _⟩
    have := World.ownsRow_lit (base := w.heap.size) (e := 151) (size := 4) w (madeCells #[.int .i64 0, .int .i64 0, .int .i64 0, .int .i64 0] (n * 4)) n (Nat.le_refl _) (by unfold maxLen; omega) (size_madeCells _ _)
    have e1 := madeCells_flat #[.int .i64 0, .int .i64 0, .int .i64 0, .int .i64 0] (by simp) n
    have e2 : (#[Value.int .i64 0, Value.int .i64 0, Value.int .i64 0, Value.int .i64 0] : Array Value).size = 4 := rfl
    rw [e2] at e1
    rw [e1] at this
    rw [mix_zero, List.flatMap_replicate]
    exact this
  case round =>
    obtain ⟨k, hk, rfl, hrow, hbl⟩ := hrel
    by_cases hlt : k < n
    · obtain ⟨b, off, rfl, hb, hc⟩ := (h.keep hbl).request (by omega)
      have ⟨h0, h1, h2, h3⟩ := hc k hlt
      clear hc
      go_wp2_with (go_at_call 154; refine (c_toRequest _ _ _ _ _).mono ?_; rintro e w1 ⟨rfl, hb1⟩; have hrow1 := hrow.keep hb1; obtain ⟨g, hg, hlo, hgl, hfz, hcc⟩ := hrow1.request (by omega); obtain rfl : w.heap.size = g := (by simpa using hg); have ⟨q0, q1, q2, q3⟩ := hcc k hlt; clear hcc)
      go_roundw
      case rel => 
        have hs := hrow1.setN (t := requestAt ts k) (fun _ => rfl) hlt rfl
        refine ⟨k + 1, by omega, by go_num, ?_, (hbl.trans hb1).grown hs.2 (by simp)⟩
        rw [← mix_succ _ _ _ _ hl.out hlt]
        exact hs.1
      case measure => simp [intOf]; omega
    · go_wp2
      go_ret
      obtain rfl : k = n := by omega
      rw [mix_all _ _ _ hl.out] at hrow
      exact ⟨⟨_, _, rfl, hrow⟩, hbl⟩
theorem c_eqRequestS (A A' : Option Addr) (n c c' : Nat) (ts : List Request) (w : World) (hm : n ≤ 9223372036854775807) (h : Rd w A n 4 (ts.map Request.cells)) (h' : Rd w A' n 4 (ts.map Request.cells)) :
    Calls Tryz.prog 106 #[.slice A n c, .slice A' n c'] w fun e w' => e = .returned (.bool true) ∧ Bw w w' := by
  go_enter Tryz.func106, Tryz.ntmps106
  go_wp2
  go_loopw [5] (fun i wr => ∃ k : Nat, k ≤ n ∧ i = .int .i64 k ∧ Bw w wr) (fun i _ => n - (intOf i).toNat)
  case atStart => exact ⟨0, Nat.zero_le _, rfl, Bw.refl _⟩
  case round =>
    obtain ⟨k, hk, rfl, hbl⟩ := hrel
    by_cases hlt : k < n
    · obtain ⟨b, off, rfl, hb, hc⟩ := (h.keep hbl).request (by omega)
      obtain ⟨b', off', rfl, hb', hc'⟩ := (h'.keep hbl).request (by omega)
      have ⟨h0, h1, h2, h3⟩ := hc k hlt
      have ⟨p0, p1, p2, p3⟩ := hc' k hlt
      clear hc hc'
      go_wp2
      (refine wp_region_ext (by kernel_rfl) (by kernel_rfl) ?_; (repeat (go_big_quiet_step ((exact Ext.calls (c_eqRequest _ _ _ _ _))))); (with_reducible refine wpQuiet_nil ?_); intro w2 hb2)
      go_wp2
      go_roundw
      case rel => exact ⟨k + 1, by omega, by go_num, hbl.trans hb2⟩
      case measure => simp [intOf]; omega
    · go_wp2
      go_ret
      exact ⟨rfl, hbl⟩
def marksRequest : Nat → Int → List Request
  | 0, _ => []
  | n + 1, k => ⟨k, k + 1, k + 1 + 1, k + 1 + 1 + 1⟩ :: marksRequest n (k + 4)
theorem marksRequest_len (n : Nat) (k : Int) : (marksRequest n k).length = n := by
  induction n generalizing k with
  | zero => rfl
  | succ n ih => simp [marksRequest, ih]
theorem marksRequest_get (n : Nat) (k : Int) (j : Nat) (hj : j < n) : requestAt (marksRequest n k) j = ⟨k + 4 * j, k + 4 * j + 1, k + 4 * j + 1 + 1, k + 4 * j + 1 + 1 + 1⟩ := by
  induction n generalizing k j with
  | zero => omega
  | succ n ih =>
    cases j with
    | zero => simp [marksRequest, requestAt]
    | succ j =>
      have := ih (k + 4) j (by omega)
      simp only [requestAt, marksRequest, List.getD_cons_succ] at this ⊢
      rw [this]
      simp; omega
theorem c_markRequestS (A : Option Addr) (n c : Nat) (ts : List Request) (k0 : Int) (lo : Nat) (w : World) (hn : n ≤ 1048576) (hk0 : 0 ≤ k0) (hk1 : k0 ≤ 1000000000) (h : Row w lo 151 4 Request.cells A n c ts) :
    Calls Tryz.prog 64 #[.slice A n c, .int .i64 k0] w fun e w' => e = .returned (.int .i64 (k0 + 4 * n)) ∧ Row w' lo 151 4 Request.cells A n c (marksRequest n k0) ∧ w.grownBy w' (Value.ownBlock (.slice A n c)) := by
  have hl := Lib.hid h.len
  have hml := Lib.hid (marksRequest_len n k0)
  go_enter Tryz.func64, Tryz.ntmps64
  go_wp2
  go_loopw [1, 5] (fun kv i wr => ∃ k : Nat, k ≤ n ∧ i = .int .i64 k ∧ kv = .int .i64 (k0 + 4 * k) ∧ Row wr lo 151 4 Request.cells A n c ((marksRequest n k0).take k ++ ts.drop k) ∧ w.grownBy wr (Value.ownBlock (.slice A n c))) (fun _ i _ => n - (intOf i).toNat)
  case atStart => exact ⟨0, Nat.zero_le _, rfl, by simp, by simpa using h, World.grownBy.refl _ _⟩
  case round =>
    obtain ⟨k, hk, rfl, rfl, hrow, hg⟩ := hrel
    by_cases hlt : k < n
    · obtain ⟨g, rfl, hlo, hgl, hfz, hcc⟩ := hrow.request (by omega)
      have ⟨q0, q1, q2, q3⟩ := hcc k hlt
      clear hcc
      go_wp2
      go_roundw
      case rel =>
        have hs := hrow.setN (t := requestAt (marksRequest n k0) k) (vs := [.int .i64 (k0 + 4 * k), .int .i64 (k0 + 4 * k + 1), .int .i64 (k0 + 4 * k + 1 + 1), .int .i64 (k0 + 4 * k + 1 + 1 + 1)]) (fun _ => rfl) hlt (by rw [marksRequest_get _ _ _ hlt]; rfl)
        refine ⟨k + 1, by omega, by go_num, by congr 1; omega, ?_, hg.trans hs.2⟩
        have e1 : ((marksRequest n k0).take k ++ ts.drop k).set k (requestAt (marksRequest n k0) k) = (marksRequest n k0).take (k + 1) ++ ts.drop (k + 1) := by
          have hm := hml.out
          have ht := hl.out
          have h1 : ((marksRequest n k0).take k).length = k := by simp; omega
          rw [List.set_append_right _ _ (by omega), h1, Nat.sub_self, List.take_succ_eq_append_getElem (by omega), List.drop_eq_getElem_cons (by omega), List.set_cons_zero, List.append_assoc]
          simp [requestAt, show k < (marksRequest n k0).length by omega]
        rw [← e1]
        exact hs.1
      case measure => simp [intOf]; omega
    · go_wp2
      go_ret
      obtain rfl : k = n := by omega
      have hm := hml.out
      have ht := hl.out
      rw [List.take_of_length_le (by omega), List.drop_eq_nil_of_le (by omega), List.append_nil] at hrow
      exact ⟨rfl, hrow, hg⟩
theorem c_heldRequestS (A : Option Addr) (n c : Nat) (k0 : Int) (w : World) (hn : n ≤ 1048576) (hk0 : 0 ≤ k0) (hk1 : k0 ≤ 1000000000) (h : Rd w A n 4 ((marksRequest n k0).map Request.cells)) :
    Calls Tryz.prog 71 #[.slice A n c, .int .i64 k0] w fun e w' => e = .returned (.int .i64 (k0 + 4 * n)) ∧ w = w' := by
  go_enter Tryz.func71, Tryz.ntmps71
  go_wp2
  go_loop [1, 5] (fun kv i => ∃ k : Nat, k ≤ n ∧ i = .int .i64 k ∧ kv = .int .i64 (k0 + 4 * k)) (fun _ i => n - (intOf i).toNat)
  case atStart => exact ⟨0, Nat.zero_le _, rfl, by simp⟩
  case round =>
    obtain ⟨k, hk, rfl, rfl⟩ := hrel
    by_cases hlt : k < n
    · obtain ⟨b, off, rfl, hb, hc⟩ := h.request (by omega)
      have ⟨h0, h1, h2, h3⟩ := hc k hlt
      rw [marksRequest_get _ _ _ hlt] at h0 h1 h2 h3
      clear hc
      go_wp2
      go_round
      case rel => exact ⟨k + 1, by omega, by go_num, by congr 1; omega⟩
      case measure => simp [intOf]; omega
    · go_wp2
      go_ret
      obtain rfl : k = n := by omega
      exact ⟨rfl, rfl⟩
structure Hold where
  number : Int
  til : Int
def Hold.cells (t : Hold) : List Value := [.int .i64 t.number, .int .i64 t.til]
def Hold.val (t : Hold) : Value := .agg #[.int .i64 t.number, .int .i64 t.til]
def holdAt (ts : List Hold) (k : Nat) : Hold := ts.getD k ⟨0, 0⟩
theorem holdAt_lt {ts : List Hold} {k : Nat} (h : k < ts.length) : holdAt ts k = ts[k] := by simp [holdAt, h]
theorem Rd.hold {w : World} {A : Option Addr} {n : Nat} {ts : List Hold} (h : Rd w A n 2 (ts.map Hold.cells)) (hn : 0 < n) :
    ∃ b off, A = some ⟨b, off, none⟩ ∧ b < w.heap.size ∧ ∀ k, k < n → w.cell? ⟨b, off + k * 2, none⟩ = some (.int .i64 (holdAt ts k).number) ∧ w.cell? ⟨b, off + k * 2 + 1, none⟩ = some (.int .i64 (holdAt ts k).til) := by
  obtain ⟨b, off, hA, hb, hc⟩ := h.at_ hn
  refine ⟨b, off, hA, hb, fun k hk => ?_⟩
  have hl : ts.length = n := by simpa using h.len
  have hk' : k < ts.length := by omega
  have hx : (ts.map Hold.cells)[k]? = some (holdAt ts k).cells := by simp [holdAt, hk']
  exact ⟨hc k 0 _ _ hx rfl, hc k 1 _ _ hx rfl⟩
theorem Rd.holdlen {w : World} {A : Option Addr} {n : Nat} {ts : List Hold} (h : Rd w A n 2 (ts.map Hold.cells)) : ts.length = n := by simpa using h.len
theorem Row.hold {w : World} {lo : Nat} {e : TypeId} {A : Option Addr} {n c : Nat} {ts : List Hold} (h : Row w lo e 2 Hold.cells A n c ts) (hn : 0 < n) :
    ∃ g, A = some ⟨g, 0, none⟩ ∧ lo ≤ g ∧ g < w.heap.size ∧ (∀ j, w.frozen? ⟨g, j, none⟩ = false) ∧ ∀ k, k < n → w.cell? ⟨g, k * 2, none⟩ = some (.int .i64 (holdAt ts k).number) ∧ w.cell? ⟨g, k * 2 + 1, none⟩ = some (.int .i64 (holdAt ts k).til) := by
  obtain ⟨g, rfl, hlo, hlt⟩ := h.form hn
  obtain ⟨b, off, hA, _, hc⟩ := (h.rd (fun _ => rfl)).hold hn
  simp only [Option.some.injEq, Addr.mk.injEq, and_true] at hA
  obtain ⟨rfl, rfl⟩ := hA
  exact ⟨g, rfl, hlo, hlt, fun j => h.frozen j, fun k hk => by simpa using hc k hk⟩
theorem infoHold : (Tryz.prog.info? 128).map (fun i => (i.zero, i.size, i.bytes)) = some (some (.agg #[.int .i64 0, .int .i64 0]), 2, 16) := by kernel_rfl
theorem x_toHold (x0 x1 : Int) (w : World) : Calls Tryz.prog 121 #[.agg #[.int .i64 x0, .int .i64 x1]] w fun e w' => e = .returned (.agg #[.int .i64 x0, .int .i64 x1]) ∧ ((w.alloc (.cells #[.int .i64 x0, .int .i64 x1] 161)).alloc (.cells #[.int .i64 x0, .int .i64 x1] 128)).alloc (.cells #[.int .i64 x0, .int .i64 x1] 128) = w' := by
  go_enter Tryz.func121, Tryz.ntmps121
  go_wp2
  exact bodyPost_ret (v := .agg #[.int .i64 x0, .int .i64 x1]) (by simp [results, Tryz.results121, go_sem]) rfl ⟨rfl, rfl⟩
theorem c_toHold (x0 x1 : Int) (w : World) : Calls Tryz.prog 121 #[.agg #[.int .i64 x0, .int .i64 x1]] w fun e w' => e = .returned (.agg #[.int .i64 x0, .int .i64 x1]) ∧ Bw w w' :=
  (x_toHold x0 x1 w).mono fun _ _ ⟨he, hw⟩ => ⟨he, hw ▸ (((Bw.refl _).alloc _).alloc _).alloc _⟩
theorem x_eqHold (x0 x1 : Int) (w : World) : Calls Tryz.prog 103 #[.agg #[.int .i64 x0, .int .i64 x1], .agg #[.int .i64 x0, .int .i64 x1]] w fun e w' => e = .returned (.bool true) ∧ (w.alloc (.cells #[.int .i64 x0, .int .i64 x1] 128)).alloc (.cells #[.int .i64 x0, .int .i64 x1] 128) = w' := by
  go_enter Tryz.func103, Tryz.ntmps103
  go_wp2
  go_ret
  exact ⟨rfl, rfl⟩
theorem c_eqHold (x0 x1 : Int) (w : World) : Calls Tryz.prog 103 #[.agg #[.int .i64 x0, .int .i64 x1], .agg #[.int .i64 x0, .int .i64 x1]] w fun e w' => e = .returned (.bool true) ∧ Bw w w' :=
  (x_eqHold x0 x1 w).mono fun _ _ ⟨he, hw⟩ => ⟨he, hw ▸ ((Bw.refl _).alloc _).alloc _⟩
theorem c_szHoldS (A : Option Addr) (n c : Nat) (hm : n ≤ 9223372036854775807) (w : World) : Calls Tryz.prog 74 #[.slice A n c, .int .i64 1048576] w fun e w' => (∃ m : Int, e = .returned (.int .i64 m) ∧ (m < 0 ∨ n ≤ 1048576)) ∧ w = w' := by
  go_enter Tryz.func74, Tryz.ntmps74
  by_cases h : n ≤ 1048576
  all_goals
    go_wp2
    go_ret
    refine ⟨⟨_, rfl, by omega⟩, rfl⟩
theorem c_toHoldS (A : Option Addr) (n c : Nat) (ts : List Hold) (w : World) (hm : n ≤ 1048576) (h : Rd w A n 2 (ts.map Hold.cells)) :
    Calls Tryz.prog 80 #[.slice A n c] w fun e w' => (∃ A' c', e = .returned (.slice A' n c') ∧ Row w' w.heap.size 128 2 Hold.cells A' n c' ts) ∧ Bw w w' := by
  have hl := Lib.hid h.holdlen
  obtain ⟨i0, hi, hz0, hz1, hz2⟩ := info_parts infoHold
  have hmk : ∀ W, (Instr.makeSlice 30 (.int .i64 (n : Int)) (.int .i64 (n : Int))).run Tryz.prog W = .ok (.slice (some ⟨W.heap.size, 0, none⟩) n n) (W.alloc (.cells (madeCells #[.int .i64 0, .int .i64 0] (n * 2)) 128)) := fun W => by
    have := run_make (P := Tryz.prog) W 30 128 i0 _ Tryz.underlying30 hi hz0 .i64 .i64 n n (by omega) (by omega) (by rw [hz2]; omega) (by omega)
    rw [hz1] at this
    exact this
  clear hi hz0 hz1 hz2
  go_enter Tryz.func80, Tryz.ntmps80
  go_wp2
  go_loopw [4] (fun i wr => ∃ k : Nat, k ≤ n ∧ i = .int .i64 k ∧ Row wr w.heap.size 128 2 Hold.cells (some ⟨w.heap.size, 0, none⟩) n n (mix ⟨0, 0⟩ n k ts) ∧ Bw w wr) (fun i _ => n - (intOf i).toNat)
  case atStart =>
    refine ⟨0, Nat.zero_le _, rfl, ⟨?_, by simp [mix]⟩, (Bw.refl _).alloc _⟩
    have := World.ownsRow_lit (base := w.heap.size) (e := 128) (size := 2) w (madeCells #[.int .i64 0, .int .i64 0] (n * 2)) n (Nat.le_refl _) (by unfold maxLen; omega) (size_madeCells _ _)
    have e1 := madeCells_flat #[.int .i64 0, .int .i64 0] (by simp) n
    have e2 : (#[Value.int .i64 0, Value.int .i64 0] : Array Value).size = 2 := rfl
    rw [e2] at e1
    rw [e1] at this
    rw [mix_zero, List.flatMap_replicate]
    exact this
  case round =>
    obtain ⟨k, hk, rfl, hrow, hbl⟩ := hrel
    by_cases hlt : k < n
    · obtain ⟨b, off, rfl, hb, hc⟩ := (h.keep hbl).hold (by omega)
      have ⟨h0, h1⟩ := hc k hlt
      clear hc
      go_wp2_with (go_at_call 121; refine (c_toHold _ _ _).mono ?_; rintro e w1 ⟨rfl, hb1⟩; have hrow1 := hrow.keep hb1; obtain ⟨g, hg, hlo, hgl, hfz, hcc⟩ := hrow1.hold (by omega); obtain rfl : w.heap.size = g := (by simpa using hg); have ⟨q0, q1⟩ := hcc k hlt; clear hcc)
      go_roundw
      case rel => 
        have hs := hrow1.setN (t := holdAt ts k) (fun _ => rfl) hlt rfl
        refine ⟨k + 1, by omega, by go_num, ?_, (hbl.trans hb1).grown hs.2 (by simp)⟩
        rw [← mix_succ _ _ _ _ hl.out hlt]
        exact hs.1
      case measure => simp [intOf]; omega
    · go_wp2
      go_ret
      obtain rfl : k = n := by omega
      rw [mix_all _ _ _ hl.out] at hrow
      exact ⟨⟨_, _, rfl, hrow⟩, hbl⟩
theorem c_eqHoldS (A A' : Option Addr) (n c c' : Nat) (ts : List Hold) (w : World) (hm : n ≤ 9223372036854775807) (h : Rd w A n 2 (ts.map Hold.cells)) (h' : Rd w A' n 2 (ts.map Hold.cells)) :
    Calls Tryz.prog 56 #[.slice A n c, .slice A' n c'] w fun e w' => e = .returned (.bool true) ∧ Bw w w' := by
  go_enter Tryz.func56, Tryz.ntmps56
  go_wp2
  go_loopw [5] (fun i wr => ∃ k : Nat, k ≤ n ∧ i = .int .i64 k ∧ Bw w wr) (fun i _ => n - (intOf i).toNat)
  case atStart => exact ⟨0, Nat.zero_le _, rfl, Bw.refl _⟩
  case round =>
    obtain ⟨k, hk, rfl, hbl⟩ := hrel
    by_cases hlt : k < n
    · obtain ⟨b, off, rfl, hb, hc⟩ := (h.keep hbl).hold (by omega)
      obtain ⟨b', off', rfl, hb', hc'⟩ := (h'.keep hbl).hold (by omega)
      have ⟨h0, h1⟩ := hc k hlt
      have ⟨p0, p1⟩ := hc' k hlt
      clear hc hc'
      go_wp2
      (refine wp_region_ext (by kernel_rfl) (by kernel_rfl) ?_; (repeat (go_big_quiet_step ((exact Ext.calls (c_eqHold _ _ _))))); (with_reducible refine wpQuiet_nil ?_); intro w2 hb2)
      go_wp2
      go_roundw
      case rel => exact ⟨k + 1, by omega, by go_num, hbl.trans hb2⟩
      case measure => simp [intOf]; omega
    · go_wp2
      go_ret
      exact ⟨rfl, hbl⟩
def marksHold : Nat → Int → List Hold
  | 0, _ => []
  | n + 1, k => ⟨k, k + 1⟩ :: marksHold n (k + 2)
theorem marksHold_len (n : Nat) (k : Int) : (marksHold n k).length = n := by
  induction n generalizing k with
  | zero => rfl
  | succ n ih => simp [marksHold, ih]
theorem marksHold_get (n : Nat) (k : Int) (j : Nat) (hj : j < n) : holdAt (marksHold n k) j = ⟨k + 2 * j, k + 2 * j + 1⟩ := by
  induction n generalizing k j with
  | zero => omega
  | succ n ih =>
    cases j with
    | zero => simp [marksHold, holdAt]
    | succ j =>
      have := ih (k + 2) j (by omega)
      simp only [holdAt, marksHold, List.getD_cons_succ] at this ⊢
      rw [this]
      simp; omega
theorem c_markHoldS (A : Option Addr) (n c : Nat) (ts : List Hold) (k0 : Int) (lo : Nat) (w : World) (hn : n ≤ 1048576) (hk0 : 0 ≤ k0) (hk1 : k0 ≤ 1000000000) (h : Row w lo 128 2 Hold.cells A n c ts) :
    Calls Tryz.prog 61 #[.slice A n c, .int .i64 k0] w fun e w' => e = .returned (.int .i64 (k0 + 2 * n)) ∧ Row w' lo 128 2 Hold.cells A n c (marksHold n k0) ∧ w.grownBy w' (Value.ownBlock (.slice A n c)) := by
  have hl := Lib.hid h.len
  have hml := Lib.hid (marksHold_len n k0)
  go_enter Tryz.func61, Tryz.ntmps61
  go_wp2
  go_loopw [1, 5] (fun kv i wr => ∃ k : Nat, k ≤ n ∧ i = .int .i64 k ∧ kv = .int .i64 (k0 + 2 * k) ∧ Row wr lo 128 2 Hold.cells A n c ((marksHold n k0).take k ++ ts.drop k) ∧ w.grownBy wr (Value.ownBlock (.slice A n c))) (fun _ i _ => n - (intOf i).toNat)
  case atStart => exact ⟨0, Nat.zero_le _, rfl, by simp, by simpa using h, World.grownBy.refl _ _⟩
  case round =>
    obtain ⟨k, hk, rfl, rfl, hrow, hg⟩ := hrel
    by_cases hlt : k < n
    · obtain ⟨g, rfl, hlo, hgl, hfz, hcc⟩ := hrow.hold (by omega)
      have ⟨q0, q1⟩ := hcc k hlt
      clear hcc
      go_wp2
      go_roundw
      case rel =>
        have hs := hrow.setN (t := holdAt (marksHold n k0) k) (vs := [.int .i64 (k0 + 2 * k), .int .i64 (k0 + 2 * k + 1)]) (fun _ => rfl) hlt (by rw [marksHold_get _ _ _ hlt]; rfl)
        refine ⟨k + 1, by omega, by go_num, by congr 1; omega, ?_, hg.trans hs.2⟩
        have e1 : ((marksHold n k0).take k ++ ts.drop k).set k (holdAt (marksHold n k0) k) = (marksHold n k0).take (k + 1) ++ ts.drop (k + 1) := by
          have hm := hml.out
          have ht := hl.out
          have h1 : ((marksHold n k0).take k).length = k := by simp; omega
          rw [List.set_append_right _ _ (by omega), h1, Nat.sub_self, List.take_succ_eq_append_getElem (by omega), List.drop_eq_getElem_cons (by omega), List.set_cons_zero, List.append_assoc]
          simp [holdAt, show k < (marksHold n k0).length by omega]
        rw [← e1]
        exact hs.1
      case measure => simp [intOf]; omega
    · go_wp2
      go_ret
      obtain rfl : k = n := by omega
      have hm := hml.out
      have ht := hl.out
      rw [List.take_of_length_le (by omega), List.drop_eq_nil_of_le (by omega), List.append_nil] at hrow
      exact ⟨rfl, hrow, hg⟩
theorem c_heldHoldS (A : Option Addr) (n c : Nat) (k0 : Int) (w : World) (hn : n ≤ 1048576) (hk0 : 0 ≤ k0) (hk1 : k0 ≤ 1000000000) (h : Rd w A n 2 ((marksHold n k0).map Hold.cells)) :
    Calls Tryz.prog 68 #[.slice A n c, .int .i64 k0] w fun e w' => e = .returned (.int .i64 (k0 + 2 * n)) ∧ w = w' := by
  go_enter Tryz.func68, Tryz.ntmps68
  go_wp2
  go_loop [1, 5] (fun kv i => ∃ k : Nat, k ≤ n ∧ i = .int .i64 k ∧ kv = .int .i64 (k0 + 2 * k)) (fun _ i => n - (intOf i).toNat)
  case atStart => exact ⟨0, Nat.zero_le _, rfl, by simp⟩
  case round =>
    obtain ⟨k, hk, rfl, rfl⟩ := hrel
    by_cases hlt : k < n
    · obtain ⟨b, off, rfl, hb, hc⟩ := h.hold (by omega)
      have ⟨h0, h1⟩ := hc k hlt
      rw [marksHold_get _ _ _ hlt] at h0 h1
      clear hc
      go_wp2
      go_round
      case rel => exact ⟨k + 1, by omega, by go_num, by congr 1; omega⟩
      case measure => simp [intOf]; omega
    · go_wp2
      go_ret
      obtain rfl : k = n := by omega
      exact ⟨rfl, rfl⟩
end Go.Proofs.YtpjljbhodnlhmaaGreatDoor
