
/- ParseTree: the reference's entry; marks of a tree. -/
import Derived.Test.YthciecmofgoebaaGreatDoorQ8
namespace Go.Proofs.YthciecmofgoebaaGreatDoor
open Go.RowKit Go.Shelf
theorem ptP_len (s : ByteArray) : (ptP s).length ≤ 8 := by
  unfold ptP
  split
  · rename_i h
    rw [ptB, Bool.and_eq_true] at h
    exact (goodP_iff.1 h.2).1.2
  · simp
theorem c_sParseTree (s : ByteArray) (hs : s.size ≤ 1048576) (w : World) :
    Calls Tryz.prog 12 #[.string s] w fun e w' => (∃ A c, e = .returned (.tuple #[.agg #[.slice A (ptP s).length c], .bool (ptB s)]) ∧ Row w' w.heap.size 3 1 icell A (ptP s).length c (ptP s)) ∧ Bw w w' := by
  go_enter Tryz.func12, Tryz.ntmps12
  go_wp2_with fail
  have hbx := (Bw.refl w).alloc (.cells #[.slice none 0 0] 26)
  refine (c_l6Parse s hs _).mono ?_
  rintro e w1 ⟨⟨A, c, rfl, row⟩, hb⟩
  have d1 := hb.cellv (p := ⟨w.heap.size, 0, none⟩) (v := .slice none 0 0) (by go_simp)
  have z1 : w1.frozen? ⟨w.heap.size, 0, none⟩ = false := (hb.frz ⟨w.heap.size, 0, none⟩ (by simp)).trans (by go_simp)
  go_wp2
  (try simp only [Exit.inBlock, Exit.then])
  refine bodyPost_ret (v := .tuple #[.agg #[.slice A (ptP s).length c], .bool (ptB s)]) (by simp [results, Tryz.results12, go_sem, d1]) rfl ⟨⟨A, c, rfl, (row.grown (setCell_grown w1 w.heap.size _) (fun x hx he => by have := (row.lt x hx).1; have := Option.some.inj he; simp at *; omega)).mono (by simp)⟩, (hbx.trans hb).setCell (by simp) _⟩
end Go.Proofs.YthciecmofgoebaaGreatDoor
