
/- The library's Clone and Delete at rows of structs: contracts. -/
import Derived.Test.YtjejfkndiecmaaaK10
namespace Go.Proofs.Ytjejfkndiecmaaa
open Go.RowKit
theorem oneTimer : ∀ (t : Timer) (u : Value), u ∈ t.cells → u.oneCell' = true := by
  intro t u hu
  simp only [Timer.cells, List.mem_cons, List.not_mem_nil, or_false] at hu
  rcases hu with rfl | rfl | rfl <;> rfl
theorem append_Timer {w0 : World} {lo : Nat} {ops : Array Oper} {rest : List Oper} {o : Oper} {a : Act} {Q : Exit → Act → World → Prop} (hgd : o.guard = none) (s x : Operand)
    (ho : o.op = .call { callee := .builtin .append, args := #[s, x], argTypes := #[24, 24] }) (A : Option Addr) (n c : Nat) (xs : List Timer) (hs : a.eval s = .slice A n c) (hown : Row w0 lo 26 3 Timer.cells A n c xs) (y : Timer)
    (cs : Array Value) (hcs : y.cells = cs.toList) (B : Nat) (hx : a.eval x = .slice (some ⟨B, 0, none⟩) 1 1) (hB : w0.heap.size = B) (hn : n < 1000000) (hlo : lo ≤ w0.heap.size)
    (h : ∀ A2 c2 w', Row w' lo 26 3 Timer.cells A2 (n + 1) c2 (xs ++ [y]) → w0.grownBy w' (Value.ownBlock (.slice A n c)) → (∃ x, A2 = some x ∧ (w0.heap.size < x.block ∨ ∃ y, A = some y ∧ x.block = y.block)) → wpList Try.prog ops Q rest (a.put o.dst (.slice A2 (n + 1) c2)) w') : wpList Try.prog ops Q (o :: rest) a (w0.alloc (.cells cs 26)) := by
  subst hB
  obtain ⟨i0, hi, hz0, hz1, hz2⟩ := info_parts infoTimer
  refine wpList_append_rd (enc := Timer.cells) hgd s x 24 ho lo 26 i0 _ 3 24 Try.underlying24 hi hz0 hz1 hz2 rfl (by decide) (fun _ => rfl) oneTimer A n c xs hs (hown.keep (Bw.alloc (Bw.refl _) _)) _ 1 1 [y] hx (Rd.one _ _ _ _ 3 hcs) (by unfold maxLen; omega) (by omega) (by simp; omega) ?_
  intro A2 c2 w' h1 h2 h3 h4
  refine h A2 c2 w' h1 ((World.grownBy_alloc w0 _ _).trans h2) ?_
  rcases h3 with h3 | ⟨x, hx, h5 | h5⟩
  · cases hA : A2 with
    | none => exact absurd hA (h4 (by omega))
    | some x => exact ⟨x, rfl, .inr ⟨x, by rw [← h3]; exact hA, rfl⟩⟩
  · exact ⟨x, hx, .inl (by rw [h5]; simp)⟩
  · exact ⟨x, hx, .inr h5⟩
set_option maxRecDepth 100000 in
theorem c_CloneTimer (A : Option Addr) (n c : Nat) (ts : List Timer) (w : World) (hm : n ≤ 1048576) (h : Rd w A n 3 (ts.map Timer.cells)) :
    Calls Try.prog 38 #[.slice A n c] w fun e w' => (∃ A' c', e = .returned (.slice A' n c') ∧ Row w' w.heap.size 26 3 Timer.cells A' n c' ts) ∧ Bw w w' := by
  have hl := h.len
  have kn := fun (W : World) (a : Option Addr) (l c : Nat) => Lib.run_eql_slice_nil (P := Try.prog) W 24 26 a l c 0 0 Try.underlying24
  cases A with
  | none =>
    have h0 : n = 0 := by
      rcases Nat.eq_zero_or_pos n with h0 | h0
      · exact h0
      · obtain ⟨b, off, hA, _⟩ := h.at_ h0; cases hA
    subst h0
    obtain rfl : ts = [] := by simpa using hl
    go_enter Try.func38, Try.ntmps38
    go_wp2
    go_ret
    exact ⟨⟨_, _, rfl, Row.nil _ _ _ _ _⟩, Bw.refl _⟩
  | some a =>
    obtain ⟨i0, hi, hz0, hz1, hz2⟩ := info_parts infoTimer
    have Hi := Lib.hid hi
    have Hz0 := Lib.hid hz0
    have Hz1 := Lib.hid hz1
    have Hz2 := Lib.hid hz2
    clear hi hz0 hz1 hz2 hl
    go_enter Try.func38, Try.ntmps38
    go_wp2_with (at_builtin; refine wpList_append_rd (enc := Timer.cells) rfl _ _ 24 rfl w.heap.size 26 i0 _ 3 24 Try.underlying24 Hi.out Hz0.out Hz1.out Hz2.out rfl (by decide) (fun _ => rfl) ?_ _ _ _ _ rfl (Row.empty w w.heap.size _ _ _ (Nat.le_refl _)) _ n _ ts rfl (h.keep (Bw.alloc (Bw.refl _) _)) ?_ ?_ ?_ ?_; exact oneTimer; (unfold maxLen; omega); omega; simp; intro A2 c2 w2 hrow2 hg2 hmv2 hnn2)
    go_ret
    refine ⟨⟨A2, c2, by simp, by simpa using hrow2⟩, Bw.ofRow (Bw.alloc (Bw.refl _) _) hg2 (fun x hx => by simp at hx; subst hx; simp)⟩
set_option maxRecDepth 100000 in
theorem c_DeleteTimer (A : Option Addr) (n c : Nat) (ts : List Timer) (i j : Nat) (lo : Nat) (w : World) (hm : n ≤ 1048576) (hij : i ≤ j) (hjn : j ≤ n) (hrw : Row w lo 26 3 Timer.cells A n c ts) :
    Calls Try.prog 61 #[.slice A n c, .int .i64 i, .int .i64 j] w fun e w' => e = .returned (.slice A (i + (n - j)) c) ∧ Row w' lo 26 3 Timer.cells A (i + (n - j)) c (ts.take i ++ ts.drop j) ∧ w.grownBy w' (Value.ownBlock (.slice A n c)) := by
  have hl := hrw.len
  have ⟨hnc, hcm⟩ := hrw.caps
  unfold maxLen at hcm
  by_cases he : i = j
  · subst he
    have e1 : ts.take i ++ ts.drop i = ts := List.take_append_drop _ _
    have e2 : i + (n - i) = n := by omega
    have H1 := Lib.hid e1
    have H2 := Lib.hid e2
    clear e1 e2 hl
    go_enter Try.func61, Try.ntmps61
    go_wp2
    all_goals
      go_ret
      exact ⟨rfl, by first | exact hrw | (have hni : n = i := (by omega); subst hni; exact hrw), World.grownBy.refl _ _⟩
  · have hneq : ((i : Int) == (j : Int)) = false := by simp; omega
    obtain ⟨g, rfl, hlo, hgl⟩ := hrw.form (by omega)
    obtain ⟨i0, hi, hz0, hz1, hz2⟩ := info_parts infoTimer
    have Hi := Lib.hid hi
    have Hz0 := Lib.hid hz0
    have Hz1 := Lib.hid hz1
    have Hz2 := Lib.hid hz2
    have Hl := Lib.hid hl
    clear hi hz0 hz1 hz2 hl
    go_enter Try.func61, Try.ntmps61
    have hc0 : ¬ c = 0 := by omega
    have hi1 : (i : Int) ≤ (c : Int) := by omega
    have hj1 : (j : Int) ≤ (n : Int) := by omega
    have hn1 : (n : Int) ≤ (c : Int) := by omega
    have hi0 : (0 : Int) ≤ (i : Int) := by omega
    have hj0 : (0 : Int) ≤ (j : Int) := by omega
    have hlt : i + (n - j) < n := by omega
    have hne : ¬ c = i + (n - j) := by omega
    have hzv : ∀ w, (zeroValue 26).run Try.prog w = .ok (.agg #[.int .i64 0, .int .i64 0, .int .i64 0]) w := fun w => by kernel_rfl
    have Hzv := Lib.hid hzv
    clear hzv
    by_cases hcj : c = j
    · have hjn' : n = j := by omega
      subst hcj
      subst hjn'
      have hne2 : ¬ n = i := by omega
      have hlt2 : i < n := by omega
      have hlt3 : (i : Int) ≤ (n : Int) := by omega
      go_wp2_with fail
      refine wp_region_still_tail 6 (by kernel_rfl) (by kernel_rfl) ?_
      simp only [List.take_succ_cons, List.take_zero, List.drop_succ_cons, List.drop_zero]
      (repeat still_step)
      (with_reducible refine wpStill_nil ?_)
      change wpList _ _ _ _ _ w.drew
      refine wpList_append_within (enc := Timer.cells) rfl _ _ 24 rfl lo 26 i0 3 Try.underlying24 Hi.out Hz1.out (by decide) (fun _ => rfl) oneTimer g _ _ ts (show Row w.drew lo 26 3 Timer.cells (some ⟨g, 0, none⟩) _ _ ts from ⟨hrw.own.drew, hrw.len⟩) i _ (by omega) (by omega) rfl _ _ _ rfl (by omega) (.inl (by omega)) ?_
      intro w1 row1 hg1
      have hg01 := (World.grownBy.refl w (some g)).trans (show w.grownBy w1 (some g) from ⟨hg1.os, hg1.tape, hg1.output, hg1.size, hg1.block⟩)
      try simp only [Nat.sub_self, Nat.add_zero] at row1
      go_wp2_with (refine wpList_clear_spare (enc := Timer.cells) rfl _ 24 rfl lo 26 3 (.agg #[.int .i64 0, .int .i64 0, .int .i64 0]) Try.underlying24 Hzv.out rfl (by intro u hu; simp [Value.cells] at hu; subst hu; rfl) g _ _ _ row1 _ _ _ rfl ?_ ?_ ?_; omega; (first | rfl | (simp; done) | (simp; omega)); intro w2 row2 hg2)
      go_ret
      exact ⟨by simp, by simpa using row2, hg01.trans hg2⟩
    · go_wp2_with fail
      refine wp_region_still_tail 6 (by kernel_rfl) (by kernel_rfl) ?_
      simp only [List.take_succ_cons, List.take_zero, List.drop_succ_cons, List.drop_zero]
      (repeat still_step)
      (with_reducible refine wpStill_nil ?_)
      change wpList _ _ _ _ _ w.drew
      refine wpList_append_within (enc := Timer.cells) rfl _ _ 24 rfl lo 26 i0 3 Try.underlying24 Hi.out Hz1.out (by decide) (fun _ => rfl) oneTimer g _ _ ts (show Row w.drew lo 26 3 Timer.cells (some ⟨g, 0, none⟩) _ _ ts from ⟨hrw.own.drew, hrw.len⟩) i _ (by omega) (by omega) rfl _ _ _ rfl (by omega) (.inr rfl) ?_
      intro w1 row1 hg1
      have hg01 := (World.grownBy.refl w (some g)).trans (show w.grownBy w1 (some g) from ⟨hg1.os, hg1.tape, hg1.output, hg1.size, hg1.block⟩)
      try simp only [Nat.sub_self, Nat.add_zero] at row1
      go_wp2_with (refine wpList_clear_spare (enc := Timer.cells) rfl _ 24 rfl lo 26 3 (.agg #[.int .i64 0, .int .i64 0, .int .i64 0]) Try.underlying24 Hzv.out rfl (by intro u hu; simp [Value.cells] at hu; subst hu; rfl) g _ _ _ row1 _ _ _ rfl ?_ ?_ ?_; omega; (first | rfl | (simp; done) | (simp; omega)); intro w2 row2 hg2)
      go_ret
      exact ⟨by simp, by simpa using row2, hg01.trans hg2⟩
end Go.Proofs.Ytjejfkndiecmaaa
