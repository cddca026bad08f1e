
/- slices.Clone and own of lists of numbers. -/
import Derived.Test.YtpjljbhodnlhmaaGreatDoorI
import Derived.Test.YtpjljbhodnlhmaaGreatDoorK10
import Derived.Deep.RegionHeld3
namespace Go.Proofs.YtpjljbhodnlhmaaGreatDoor
open Go.RowKit
theorem oneInt : ∀ (t : Int) (u : Value), u ∈ icell t → u.oneCell' = true := by
  intro t u hu
  simp only [icell, List.mem_cons, List.not_mem_nil, or_false] at hu
  subst hu; rfl
set_option maxRecDepth 100000 in
theorem c_CloneInt (A : Option Addr) (n c : Nat) (ts : List Int) (w : World) (hm : n ≤ 1048576) (h : Rd w A n 1 (ts.map icell)) :
    Calls Tryz.prog 25 #[.slice A n c] w fun e w' => (∃ A' c', e = .returned (.slice A' n c') ∧ Row w' w.heap.size 3 1 icell A' n c' ts) ∧ Bw w w' := by
  have hl := h.len
  have kn := fun (W : World) (a : Option Addr) (l c : Nat) => Lib.run_eql_slice_nil (P := Tryz.prog) W 22 3 a l c 0 0 Tryz.underlying22
  cases A with
  | none =>
    have h0 : n = 0 := by
      rcases Nat.eq_zero_or_pos n with h0 | h0
      · exact h0
      · obtain ⟨b, off, hA, _⟩ := h.at_ h0; cases hA
    subst h0
    obtain rfl : ts = [] := by simpa using hl
    go_enter Tryz.func25, Tryz.ntmps25
    go_wp2
    go_ret
    exact ⟨⟨_, _, rfl, Row.nil _ _ _ _ _⟩, Bw.refl _⟩
  | some a =>
    obtain ⟨i0, hi, hz0, hz1, hz2⟩ := info_parts infoInt
    have Hi := Lib.hid hi
    have Hz0 := Lib.hid hz0
    have Hz1 := Lib.hid hz1
    have Hz2 := Lib.hid hz2
    clear hi hz0 hz1 hz2 hl
    go_enter Tryz.func25, Tryz.ntmps25
    go_wp2_with (at_builtin; refine wpList_append_rd (enc := icell) rfl _ _ 22 rfl w.heap.size 3 i0 _ 1 8 Tryz.underlying22 Hi.out Hz0.out Hz1.out Hz2.out rfl (by decide) (fun _ => rfl) ?_ _ _ _ _ rfl (Row.empty w w.heap.size _ _ _ (Nat.le_refl _)) _ n _ ts rfl (h.keep (Bw.alloc (Bw.refl _) _)) ?_ ?_ ?_ ?_; exact oneInt; (unfold maxLen; omega); omega; simp; intro A2 c2 w2 hrow2 hg2 hmv2 hnn2)
    go_ret
    refine ⟨⟨A2, c2, by simp, by simpa using hrow2⟩, Bw.ofRow (Bw.alloc (Bw.refl _) _) hg2 (fun x hx => by simp at hx; subst hx; simp)⟩
theorem c_l1Own (A : Option Addr) (n c : Nat) (ts : List Int) (w : World) (hm : n ≤ 1048576) (h : Rd w A n 1 (ts.map icell)) :
    Calls Tryz.prog 21 #[.slice A n c] w fun e w' => (∃ A' c', e = .returned (.slice A' n c') ∧ Row w' w.heap.size 3 1 icell A' n c' ts) ∧ Bw w w' := by
  have hl := h.len
  obtain ⟨i0, hi, hz0, hz1, hz2⟩ := info_parts infoInt
  have Hi := Lib.hid hi
  have Hz0 := Lib.hid hz0
  have Hz1 := Lib.hid hz1
  have Hz2 := Lib.hid hz2
  clear hi hz0 hz1 hz2 hl
  go_enter Tryz.func21, Tryz.ntmps21
  go_wp2_with (at_builtin; refine wpList_append_rd (enc := icell) rfl _ _ 22 rfl w.heap.size 3 i0 _ 1 8 Tryz.underlying22 Hi.out Hz0.out Hz1.out Hz2.out rfl (by decide) (fun _ => rfl) ?_ _ _ _ _ rfl (Row.empty w w.heap.size _ _ _ (Nat.le_refl _)) _ n _ ts rfl (h.keep (Bw.alloc (Bw.refl _) _)) ?_ ?_ ?_ ?_; exact oneInt; (unfold maxLen; omega); omega; simp; intro A2 c2 w2 hrow2 hg2 hmv2 hnn2)
  go_ret
  refine ⟨⟨A2, c2, by simp, by simpa using hrow2⟩, Bw.ofRow (Bw.alloc (Bw.refl _) _) hg2 (fun x hx => by simp at hx; subst hx; simp)⟩
end Go.Proofs.YtpjljbhodnlhmaaGreatDoor
