
/- Lists of numbers, and the laws' own helpers at them. -/
import Derived.Test.YtpjljbhodnlhmaaGreatDoorK3
import Derived.Test.YtpjljbhodnlhmaaGreatDoorK7
namespace Go.Proofs.YtpjljbhodnlhmaaGreatDoor
open Go.RowKit
def icell (x : Int) : List Value := [.int .i64 x]
def intAt (ts : List Int) (k : Nat) : Int := ts.getD k 0
theorem intAt_lt {ts : List Int} {k : Nat} (h : k < ts.length) : intAt ts k = ts[k] := by simp [intAt, h]
theorem Rd.ints {w : World} {A : Option Addr} {n : Nat} {ts : List Int} (h : Rd w A n 1 (ts.map icell)) (hn : 0 < n) :
    ∃ b off, A = some ⟨b, off, none⟩ ∧ b < w.heap.size ∧ ∀ k, k < n → w.cell? ⟨b, off + k, none⟩ = some (.int .i64 (intAt ts k)) := by
  obtain ⟨b, off, hA, hb, hc⟩ := h.at_ hn
  refine ⟨b, off, hA, hb, fun k hk => ?_⟩
  have hl : ts.length = n := by simpa using h.len
  have hk' : k < ts.length := by omega
  have hx : (ts.map icell)[k]? = some (icell (intAt ts k)) := by simp [intAt, hk']
  simpa using hc k 0 _ _ hx rfl
theorem Rd.ilen {w : World} {A : Option Addr} {n : Nat} {ts : List Int} (h : Rd w A n 1 (ts.map icell)) : ts.length = n := by simpa using h.len
theorem Row.ints {w : World} {lo : Nat} {e : TypeId} {A : Option Addr} {n c : Nat} {ts : List Int} (h : Row w lo e 1 icell A n c ts) (hn : 0 < n) :
    ∃ g, A = some ⟨g, 0, none⟩ ∧ lo ≤ g ∧ g < w.heap.size ∧ (∀ j, w.frozen? ⟨g, j, none⟩ = false) ∧ ∀ k, k < n → w.cell? ⟨g, k, none⟩ = some (.int .i64 (intAt ts k)) := by
  obtain ⟨g, rfl, hlo, hlt⟩ := h.form hn
  obtain ⟨b, off, hA, _, hc⟩ := (h.rd (fun _ => rfl)).ints hn
  simp only [Option.some.injEq, Addr.mk.injEq, and_true] at hA
  obtain ⟨rfl, rfl⟩ := hA
  exact ⟨g, rfl, hlo, hlt, fun j => h.frozen j, fun k hk => by simpa using hc k hk⟩
theorem infoInt : (Tryz.prog.info? 3).map (fun i => (i.zero, i.size, i.bytes)) = some (some (.int .i64 0), 1, 8) := by kernel_rfl
/-- One number is appended to a row of numbers of the call's own. -/
theorem append_int {w0 : World} {lo : Nat} {ops : Array Oper} {rest : List Oper} {o : Oper} {a : Act} {Q : Exit → Act → World → Prop} (hgd : o.guard = none) (s x : Operand)
    (ho : o.op = .call { callee := .builtin .append, args := #[s, x], argTypes := #[22, 22] }) (A : Option Addr) (n c : Nat) (xs : List Int) (hs : a.eval s = .slice A n c) (hown : Row w0 lo 3 1 icell A n c xs) (y : Int)
    (B : Nat) (hx : a.eval x = .slice (some ⟨B, 0, none⟩) 1 1) (hB : w0.heap.size = B) (hn : n < 1000000) (hlo : lo ≤ w0.heap.size)
    (h : ∀ A2 c2 w', Row w' lo 3 1 icell A2 (n + 1) c2 (xs ++ [y]) → w0.grownBy w' (Value.ownBlock (.slice A n c)) → (∃ x, A2 = some x ∧ (w0.heap.size < x.block ∨ ∃ y, A = some y ∧ x.block = y.block)) → wpList Tryz.prog ops Q rest (a.put o.dst (.slice A2 (n + 1) c2)) w') : wpList Tryz.prog ops Q (o :: rest) a (w0.alloc (.cells #[.int .i64 y] 3)) := by
  subst hB
  obtain ⟨i0, hi, hz0, hz1, hz2⟩ := info_parts infoInt
  refine wpList_append_rd (enc := icell) hgd s x 22 ho lo 3 i0 (.int .i64 0) 1 8 Tryz.underlying22 hi hz0 hz1 hz2 rfl (by decide) (fun _ => rfl) (by intro t u hu; simp [icell] at hu; subst hu; rfl) A n c xs hs (hown.keep (Bw.alloc (Bw.refl _) _)) _ 1 1 [y] hx (Rd.one _ _ _ _ 1 rfl) (by unfold maxLen; omega) (by omega) (by simp; omega) ?_
  intro A2 c2 w' h1 h2 h3 h4
  refine h A2 c2 w' h1 ((World.grownBy_alloc w0 _ _).trans h2) ?_
  rcases h3 with h3 | ⟨x, hx, h5 | h5⟩
  · cases hA : A2 with
    | none => exact absurd hA (h4 (by omega))
    | some x => exact ⟨x, rfl, .inr ⟨x, by rw [← h3]; exact hA, rfl⟩⟩
  · exact ⟨x, hx, .inl (by rw [h5]; simp)⟩
  · exact ⟨x, hx, .inr h5⟩
theorem c_eqIntS (A A' : Option Addr) (n c c' : Nat) (ts : List Int) (w : World) (hm : n ≤ 9223372036854775807) (h : Rd w A n 1 (ts.map icell)) (h' : Rd w A' n 1 (ts.map icell)) :
    Calls Tryz.prog 30 #[.slice A n c, .slice A' n c'] w fun e w' => e = .returned (.bool true) ∧ Bw w w' := by
  go_enter Tryz.func30, Tryz.ntmps30
  go_wp2
  go_loopw [5] (fun i wr => ∃ k : Nat, k ≤ n ∧ i = .int .i64 k ∧ Bw w wr) (fun i _ => n - (intOf i).toNat)
  case atStart => exact ⟨0, Nat.zero_le _, rfl, Bw.refl _⟩
  case round =>
    obtain ⟨k, hk, rfl, hbl⟩ := hrel
    by_cases hlt : k < n
    · obtain ⟨b, off, rfl, hb, hc⟩ := (h.keep hbl).ints (by omega)
      obtain ⟨b', off', rfl, hb', hc'⟩ := (h'.keep hbl).ints (by omega)
      have h0 := hc k hlt
      have p0 := hc' k hlt
      clear hc hc'
      go_wp2
      (refine wp_region_ext (by kernel_rfl) (by kernel_rfl) ?_; (repeat (go_big_quiet_step (fail))); (with_reducible refine wpQuiet_nil ?_); intro w2 hb2)
      go_wp2
      go_roundw
      case rel => exact ⟨k + 1, by omega, by go_num, hbl.trans hb2⟩
      case measure => simp [intOf]; omega
    · go_wp2
      go_ret
      exact ⟨rfl, hbl⟩
def marksI : Nat → Int → List Int
  | 0, _ => []
  | n + 1, k => k :: marksI n (k + 1)
theorem marksI_len (n : Nat) (k : Int) : (marksI n k).length = n := by
  induction n generalizing k with
  | zero => rfl
  | succ n ih => simp [marksI, ih]
theorem marksI_get (n : Nat) (k : Int) (j : Nat) (hj : j < n) : intAt (marksI n k) j = k + j := by
  induction n generalizing k j with
  | zero => omega
  | succ n ih =>
    cases j with
    | zero => simp [marksI, intAt]
    | succ j =>
      have := ih (k + 1) j (by omega)
      simp only [intAt, marksI, List.getD_cons_succ] at this ⊢
      rw [this]
      omega
theorem c_markIntS (A : Option Addr) (n c : Nat) (ts : List Int) (k0 : Int) (lo : Nat) (w : World) (hn : n ≤ 1048576) (hk0 : 0 ≤ k0) (hk1 : k0 ≤ 1000000000000000) (h : Row w lo 3 1 icell A n c ts) :
    Calls Tryz.prog 31 #[.slice A n c, .int .i64 k0] w fun e w' => e = .returned (.int .i64 (k0 + n)) ∧ Row w' lo 3 1 icell A n c (marksI n k0) ∧ w.grownBy w' (Value.ownBlock (.slice A n c)) := by
  have hl := Lib.hid h.len
  have hml := Lib.hid (marksI_len n k0)
  go_enter Tryz.func31, Tryz.ntmps31
  go_wp2
  go_loopw [1, 5] (fun kv i wr => ∃ k : Nat, k ≤ n ∧ i = .int .i64 k ∧ kv = .int .i64 (k0 + k) ∧ Row wr lo 3 1 icell A n c ((marksI n k0).take k ++ ts.drop k) ∧ w.grownBy wr (Value.ownBlock (.slice A n c))) (fun _ i _ => n - (intOf i).toNat)
  case atStart => exact ⟨0, Nat.zero_le _, rfl, by simp, by simpa using h, World.grownBy.refl _ _⟩
  case round =>
    obtain ⟨k, hk, rfl, rfl, hrow, hg⟩ := hrel
    by_cases hlt : k < n
    · obtain ⟨g, rfl, hlo, hgl, hfz, hcc⟩ := hrow.ints (by omega)
      have q0 := hcc k hlt
      clear hcc
      go_wp2
      go_roundw
      case rel =>
        have hs := hrow.set1 (t := intAt (marksI n k0) k) (a := .int .i64 (k0 + k)) (fun _ => rfl) hlt (by rw [marksI_get _ _ _ hlt]; rfl)
        refine ⟨k + 1, by omega, by go_num, by congr 1; omega, ?_, hg.trans hs.2⟩
        have e1 : ((marksI n k0).take k ++ ts.drop k).set k (intAt (marksI n k0) k) = (marksI n k0).take (k + 1) ++ ts.drop (k + 1) := by
          have hm := hml.out
          have ht := hl.out
          have h1 : ((marksI n k0).take k).length = k := by simp; omega
          rw [List.set_append_right _ _ (by omega), h1, Nat.sub_self, List.take_succ_eq_append_getElem (by omega), List.drop_eq_getElem_cons (by omega), List.set_cons_zero, List.append_assoc]
          simp [intAt, show k < (marksI n k0).length by omega]
        rw [← e1]
        exact hs.1
      case measure => simp [intOf]; omega
    · go_wp2
      go_ret
      obtain rfl : k = n := by omega
      have hm := hml.out
      have ht := hl.out
      rw [List.take_of_length_le (by omega), List.drop_eq_nil_of_le (by omega), List.append_nil] at hrow
      exact ⟨rfl, hrow, hg⟩
theorem c_heldIntS (A : Option Addr) (n c : Nat) (k0 : Int) (w : World) (hn : n ≤ 1048576) (hk0 : 0 ≤ k0) (hk1 : k0 ≤ 1000000000000000) (h : Rd w A n 1 ((marksI n k0).map icell)) :
    Calls Tryz.prog 66 #[.slice A n c, .int .i64 k0] w fun e w' => e = .returned (.int .i64 (k0 + n)) ∧ w = w' := by
  go_enter Tryz.func66, Tryz.ntmps66
  go_wp2
  go_loop [1, 5] (fun kv i => ∃ k : Nat, k ≤ n ∧ i = .int .i64 k ∧ kv = .int .i64 (k0 + k)) (fun _ i => n - (intOf i).toNat)
  case atStart => exact ⟨0, Nat.zero_le _, rfl, by simp⟩
  case round =>
    obtain ⟨k, hk, rfl, rfl⟩ := hrel
    by_cases hlt : k < n
    · obtain ⟨b, off, rfl, hb, hc⟩ := h.ints (by omega)
      have h0 := hc k hlt
      rw [marksI_get _ _ _ hlt] at h0
      clear hc
      go_wp2
      go_round
      case rel => exact ⟨k + 1, by omega, by go_num, by congr 1; omega⟩
      case measure => simp [intOf]; omega
    · go_wp2
      go_ret
      obtain rfl : k = n := by omega
      exact ⟨rfl, rfl⟩
end Go.Proofs.YtpjljbhodnlhmaaGreatDoor
