
/- ParseTree: the reference's entry; marks of a tree. -/
import Derived.Test.YthciecmofgoebaaDoorQ8
namespace Go.Proofs.YthciecmofgoebaaDoor
open Go.RowKit Go.Shelf
theorem ptP_len (s : ByteArray) : (ptP s).length ≤ 8 := by
  unfold ptP
  split
  · rename_i h
    rw [ptB, Bool.and_eq_true] at h
    exact (goodP_iff.1 h.2).1.2
  · simp
theorem c_sParseTree (s : ByteArray) (hs : s.size ≤ 1048576) (w : World) :
    Calls Tryd.prog 10 #[.string s] w fun e w' => (∃ A c, e = .returned (.tuple #[.agg #[.slice A (ptP s).length c], .bool (ptB s)]) ∧ Row w' w.heap.size 3 1 icell A (ptP s).length c (ptP s)) ∧ Bw w w' := by
  go_enter Tryd.func10, Tryd.ntmps10
  go_wp2_with fail
  have hbx := (Bw.refl w).alloc (.cells #[.slice none 0 0] 28)
  refine (c_l6Parse s hs _).mono ?_
  rintro e w1 ⟨⟨A, c, rfl, row⟩, hb⟩
  have d1 := hb.cellv (p := ⟨w.heap.size, 0, none⟩) (v := .slice none 0 0) (by go_simp)
  have z1 : w1.frozen? ⟨w.heap.size, 0, none⟩ = false := (hb.frz ⟨w.heap.size, 0, none⟩ (by simp)).trans (by go_simp)
  go_wp2
  (try simp only [Exit.inBlock, Exit.then])
  refine bodyPost_ret (v := .tuple #[.agg #[.slice A (ptP s).length c], .bool (ptB s)]) (by simp [results, Tryd.results10, go_sem, d1]) rfl ⟨⟨A, c, rfl, (row.grown (setCell_grown w1 w.heap.size _) (fun x hx he => by have := (row.lt x hx).1; have := Option.some.inj he; simp at *; omega)).mono (by simp)⟩, (hbx.trans hb).setCell (by simp) _⟩
theorem c_markTree (A : Option Addr) (n c : Nat) (ts : List Int) (k0 : Int) (lo : Nat) (w : World) (hn : n ≤ 1048576) (hk0 : 0 ≤ k0) (hk1 : k0 ≤ 1000000000) (h : Row w lo 3 1 icell A n c ts) (hlo : lo ≤ w.heap.size) :
    Calls Tryd.prog 12 #[.agg #[.slice A n c], .int .i64 k0] w fun e w' => e = .returned (.int .i64 (k0 + n)) ∧ Row w' lo 3 1 icell A n c (marksI n k0) ∧ w.grownBy w' (Value.ownBlock (.slice A n c)) := by
  go_enter Tryd.func12, Tryd.ntmps12
  go_wp2_with fail
  refine (c_markIntS A n c ts k0 lo _ hn hk0 (by omega) (h.keep ((Bw.refl _).alloc _))).mono ?_
  rintro e w1 ⟨rfl, row1, hg1⟩
  go_wp2
  go_ret
  exact ⟨rfl, row1, (World.grownBy_alloc w _ _).trans hg1⟩
theorem c_heldTree (A : Option Addr) (n c : Nat) (k0 : Int) (w : World) (hn : n ≤ 1048576) (hk0 : 0 ≤ k0) (hk1 : k0 ≤ 1000000000) (h : Rd w A n 1 ((marksI n k0).map icell)) :
    Calls Tryd.prog 13 #[.agg #[.slice A n c], .int .i64 k0] w fun e w' => e = .returned (.int .i64 (k0 + n)) ∧ Bw w w' := by
  have hge : ¬ k0 + (n : Int) < 0 := by omega
  go_enter Tryd.func13, Tryd.ntmps13
  go_wp2_with fail
  refine (c_heldIntS A n c k0 _ hn hk0 (by omega) (h.keep ((Bw.refl _).alloc _))).mono ?_
  rintro e w1 ⟨rfl, rfl⟩
  go_wp2
  go_ret
  exact ⟨rfl, (Bw.refl _).alloc _⟩
end Go.Proofs.YthciecmofgoebaaDoor
