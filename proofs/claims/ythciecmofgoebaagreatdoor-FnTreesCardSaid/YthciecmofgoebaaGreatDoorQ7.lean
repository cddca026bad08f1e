
/- ParseTree: the program's side. -/
import Derived.Test.YthciecmofgoebaaGreatDoorQ6
import Derived.Test.YthciecmofgoebaaGreatDoorTT
import Derived.Test.YthciecmofgoebaaGreatDoorP5T
namespace Go.Proofs.YthciecmofgoebaaGreatDoor
open Go.RowKit Go.Shelf
theorem splL_piece (b : UInt8) : ∀ (l : List UInt8) (x : List UInt8), x ∈ splL b l → x.length ≤ l.length
  | [], x, h => by simp [splL] at h; subst h; simp
  | c :: l, x, h => by
    rw [splL] at h
    split at h
    · rcases List.mem_cons.1 h with rfl | h
      · simp
      · have := splL_piece b l x h; simp; omega
    · split at h
      · simp at h; subst h; simp
      · rename_i y r hy
        rcases List.mem_cons.1 h with rfl | h
        · have := splL_piece b l y (by rw [hy]; simp); simp; omega
        · have := splL_piece b l x (by rw [hy]; simp [h]); simp; omega
theorem splB_piece (b : UInt8) (s : ByteArray) (k : Nat) (hk : k < (splB b s).length) : (strAt (splB b s) k).size ≤ s.size := by
  rw [strAt_lt hk]
  have hm := List.getElem_mem hk
  obtain ⟨x, hx, he⟩ := List.mem_map.1 hm
  have := splL_piece b _ x hx
  have e : (mkB x).size = x.length := by simp [mkB, ByteArray.size]
  rw [← he, e]
  simpa using this
theorem splL_join (b : UInt8) : ∀ l : List UInt8, Lib.join (splL b l) [b] = l
  | [] => by simp [splL, Lib.join_one]
  | c :: l => by
    have ih := splL_join b l
    have hne := splL_ne b l
    rw [splL]
    split
    · rename_i hc
      subst hc
      cases h : splL c l with
      | nil => exact absurd h hne
      | cons x r =>
        rw [h, Lib.join_cons] at ih
        rw [Lib.join_cons]
        simp only [Lib.joinTail, List.map_cons, List.flatten_cons, List.nil_append, List.cons_append] at ih ⊢
        rw [ih]
    · split
      · rename_i h; exact absurd h hne
      · rename_i x r h
        rw [h, Lib.join_cons] at ih
        rw [Lib.join_cons, List.cons_append, ih]
theorem splB_join (b : UInt8) (s : ByteArray) : (⟨(Lib.join ((splB b s).map (·.data.toList)) [b]).toArray⟩ : ByteArray) = s := by
  have e : (splB b s).map (·.data.toList) = splL b s.data.toList := by
    rw [splB, List.map_map]
    have : (fun x : ByteArray => x.data.toList) ∘ mkB = id := funext fun x => by simp [mkB]
    rw [this, List.map_id]
  rw [e, splL_join]
noncomputable def ptB (s : ByteArray) : Bool := (splB 32 s).all rdB && goodP (-1 :: (splB 32 s).map rdV)
noncomputable def ptP (s : ByteArray) : List Int := if ptB s = true then -1 :: (splB 32 s).map rdV else []
theorem ptP_no {s : ByteArray} (h : ptB s = false) : ptP s = [] := by simp [ptP, h]
theorem ptP_yes {s : ByteArray} (h : ptB s = true) : ptP s = -1 :: (splB 32 s).map rdV := by simp [ptP, h]
/-- The row that a literal of one number lays. -/
theorem Row.oneI (w : World) (lo : Nat) (x : Int) (hlo : lo ≤ w.heap.size) : Row (w.alloc (.cells #[.int .i64 x] 3)) lo 3 1 icell (some ⟨w.heap.size, 0, none⟩) 1 1 [x] := by
  refine ⟨?_, rfl⟩
  have := World.ownsRow_lit (base := lo) (e := 3) (size := 1) w #[.int .i64 x] 1 hlo (by unfold maxLen; omega) rfl
  exact this
set_option maxRecDepth 100000 in
theorem c_iParseTree (s : ByteArray) (hs : s.size ≤ 1048576) (w : World) (hp : PEnv w) :
    Calls Tryz.prog 7 #[.string s] w fun e w' => (∃ A c, e = .returned (.tuple #[.agg #[.slice A (ptP s).length c], .bool (ptB s)]) ∧ Row w' w.heap.size 3 1 icell A (ptP s).length c (ptP s)) ∧ Bw w w' := by
  have hlen := splB_len 32 s
  have HSZ := Lib.hid (fun k hk => Nat.le_trans (splB_piece 32 s k hk) hs)
  obtain ⟨i0, hi, hz0, hz1, hz2⟩ := info_parts infoInt
  have Hi := Lib.hid hi
  have Hz0 := Lib.hid hz0
  have Hz1 := Lib.hid hz1
  have Hz2 := Lib.hid hz2
  clear hi hz0 hz1 hz2
  have hbx := (Bw.refl w).alloc (.cells #[.slice none 0 0] 26)
  go_enter Tryz.func7, Tryz.ntmps7
  go_wp2_with fail
  refine (c_Split s 32 hs _ (hp.keep hbx)).mono ?_
  rintro e w1 ⟨⟨A1, c1, rfl, row1⟩, hb1⟩
  have d1 := hb1.cellv (p := ⟨w.heap.size, 0, none⟩) (v := .slice none 0 0) (by go_simp)
  have z1 : w1.frozen? ⟨w.heap.size, 0, none⟩ = false := (hb1.frz ⟨w.heap.size, 0, none⟩ (by simp)).trans (by go_simp)
  have k1 := hbx.trans hb1
  go_wp2_with fail
  refine (c_parseInts _ _ _ (splB 32 s) HSZ.out _ (hp.keep k1) (by omega) (row1.rd (fun _ => rfl))).mono ?_
  rintro e w2 ⟨⟨A2, c2, rfl, row2⟩, hb2⟩
  have d2 := hb2.cellv d1
  have hlt1 : w.heap.size < w1.heap.size := World.block_lt_of_cell? w1 ⟨w.heap.size, 0, none⟩ d1
  have z2 := (hb2.frz ⟨w.heap.size, 0, none⟩ hlt1).trans z1
  have hlt2 : w.heap.size < w2.heap.size := World.block_lt_of_cell? w2 ⟨w.heap.size, 0, none⟩ d2
  have k2 := k1.trans hb2
  clear d1 z1 hlt1
  have hpl : (pvL (splB 32 s)).length ≤ 1048577 := by
    unfold pvL; split
    · simp; omega
    · simp
  cases ha : (splB 32 s).all rdB
  · have HB := Lib.hid (show ptB s = false by simp [ptB, ha])
    have HP := Lib.hid (ptP_no HB.out)
    clear ha
    go_wp2_with (at_builtin; refine wpList_append_rd (enc := icell) rfl _ _ 24 rfl w2.heap.size 3 i0 _ 1 8 Tryz.underlying24 Hi.out Hz0.out Hz1.out Hz2.out rfl (by decide) (fun _ => rfl) ?_ _ _ _ _ rfl (Row.oneI w2 w2.heap.size (-1) (Nat.le_refl _)) _ _ _ (pvL (splB 32 s)) rfl ((row2.rd (fun _ => rfl)).keep ((Bw.refl _).alloc _)) ?_ ?_ ?_ ?_; (intro t u hu; simp [icell] at hu; subst hu; rfl); (unfold maxLen; omega); omega; simp; intro A3 c3 w3 row3 hg3 hmv3 hnn3; have k3 : Bw w2 w3 := Bw.ofRow ((Bw.refl w2).alloc _) hg3 (fun x hx => by simp at hx; subst hx; simp); have d3 := k3.cellv d2; have z3 := (k3.frz ⟨w.heap.size, 0, none⟩ hlt2).trans z2; have z3a := (((Bw.refl w3).alloc (.cells #[.slice A3 (1 + (pvL (splB 32 s)).length) c3] 26)).frz ⟨w.heap.size, 0, none⟩ (World.block_lt_of_cell? w3 ⟨w.heap.size, 0, none⟩ d3)).trans z3; have hlt3 : w.heap.size < w3.heap.size := World.block_lt_of_cell? w3 ⟨w.heap.size, 0, none⟩ d3; have hne3 : w.heap.size ≠ w3.heap.size := (by omega); have hne4 : w3.heap.size ≠ w.heap.size := (by omega))
    have r0 := ((Bw.refl (w3.setCell ⟨w.heap.size, 0, none⟩ (.slice none 0 0))).alloc (.cells #[.slice A3 (1 + (pvL (splB 32 s)).length) c3] 26)).cellv (World.cell?_setCell_same _ _ _ d3)
    go_wp2
    (try simp only [Exit.inBlock, Exit.then])
    refine bodyPost_ret (v := .tuple #[.agg #[.slice none 0 0], .bool false]) (by simp [results, Tryz.results7, go_sem, r0]) rfl ⟨⟨none, 0, by rw [HB.out, HP.out]; rfl, by rw [HP.out]; exact Row.nil _ _ _ _ _⟩, ?_⟩
    (repeat (first | exact k2.trans k3 | (with_reducible refine Bw.setCell ?_ (by simp) _) | (with_reducible refine Bw.alloc ?_ _)))
  · have HV := Lib.hid (show pvL (splB 32 s) = (splB 32 s).map rdV by rw [pvL, ha]; simp)
    cases hg : goodP (-1 :: (splB 32 s).map rdV)
    · have HB := Lib.hid (show ptB s = false by rw [ptB, ha, hg]; rfl)
      have HP := Lib.hid (ptP_no HB.out)
      have HG := Lib.hid (show goodP ([-1] ++ pvL (splB 32 s)) = false by rw [HV.out]; exact hg)
      clear ha hg
      go_wp2_with (at_builtin; refine wpList_append_rd (enc := icell) rfl _ _ 24 rfl w2.heap.size 3 i0 _ 1 8 Tryz.underlying24 Hi.out Hz0.out Hz1.out Hz2.out rfl (by decide) (fun _ => rfl) ?_ _ _ _ _ rfl (Row.oneI w2 w2.heap.size (-1) (Nat.le_refl _)) _ _ _ (pvL (splB 32 s)) rfl ((row2.rd (fun _ => rfl)).keep ((Bw.refl _).alloc _)) ?_ ?_ ?_ ?_; (intro t u hu; simp [icell] at hu; subst hu; rfl); (unfold maxLen; omega); omega; simp; intro A3 c3 w3 row3 hg3 hmv3 hnn3; have k3 : Bw w2 w3 := Bw.ofRow ((Bw.refl w2).alloc _) hg3 (fun x hx => by simp at hx; subst hx; simp); have d3 := k3.cellv d2; have z3 := (k3.frz ⟨w.heap.size, 0, none⟩ hlt2).trans z2; have z3a := (((Bw.refl w3).alloc (.cells #[.slice A3 (1 + (pvL (splB 32 s)).length) c3] 26)).frz ⟨w.heap.size, 0, none⟩ (World.block_lt_of_cell? w3 ⟨w.heap.size, 0, none⟩ d3)).trans z3; have hlt3 : w.heap.size < w3.heap.size := World.block_lt_of_cell? w3 ⟨w.heap.size, 0, none⟩ d3; have hne3 : w.heap.size ≠ w3.heap.size := (by omega); have hne4 : w3.heap.size ≠ w.heap.size := (by omega))
      have rd3 := row3.rd (fun _ => rfl)
      go_wp2_with (go_at_call 9; refine (c_IsValidTree _ _ _ _ HG.out _ (by omega) (rd3.keep ((Bw.refl _).alloc _))).mono ?_; rintro e w4 ⟨rfl, hb4⟩; have k34 := (k3.alloc (.cells #[.slice A3 (1 + (pvL (splB 32 s)).length) c3] 26)).trans hb4; have d4 := k34.cellv d2; have z4 := (k34.frz ⟨w.heap.size, 0, none⟩ hlt2).trans z2; have t4 := hb4.cellv (p := ⟨w3.heap.size, 0, none⟩) (v := .slice A3 (1 + (pvL (splB 32 s)).length) c3) (by go_simp))
      go_wp2
      (try simp only [Exit.inBlock, Exit.then])
      refine bodyPost_ret (v := .tuple #[.agg #[.slice none 0 0], .bool false]) (by simp [results, Tryz.results7, go_sem, d4]) rfl ⟨⟨none, 0, by rw [HB.out, HP.out]; rfl, by rw [HP.out]; exact Row.nil _ _ _ _ _⟩, ?_⟩
      (repeat (first | exact k2.trans k34 | (with_reducible refine Bw.setCell ?_ (by simp) _) | (with_reducible refine Bw.alloc ?_ _)))
    · have HB := Lib.hid (show ptB s = true by rw [ptB, ha, hg]; rfl)
      have HP := Lib.hid (ptP_yes HB.out)
      have HG := Lib.hid (show goodP ([-1] ++ pvL (splB 32 s)) = true by rw [HV.out]; exact hg)
      clear ha hg
      go_wp2_with (at_builtin; refine wpList_append_rd (enc := icell) rfl _ _ 24 rfl w2.heap.size 3 i0 _ 1 8 Tryz.underlying24 Hi.out Hz0.out Hz1.out Hz2.out rfl (by decide) (fun _ => rfl) ?_ _ _ _ _ rfl (Row.oneI w2 w2.heap.size (-1) (Nat.le_refl _)) _ _ _ (pvL (splB 32 s)) rfl ((row2.rd (fun _ => rfl)).keep ((Bw.refl _).alloc _)) ?_ ?_ ?_ ?_; (intro t u hu; simp [icell] at hu; subst hu; rfl); (unfold maxLen; omega); omega; simp; intro A3 c3 w3 row3 hg3 hmv3 hnn3; have k3 : Bw w2 w3 := Bw.ofRow ((Bw.refl w2).alloc _) hg3 (fun x hx => by simp at hx; subst hx; simp); have d3 := k3.cellv d2; have z3 := (k3.frz ⟨w.heap.size, 0, none⟩ hlt2).trans z2; have z3a := (((Bw.refl w3).alloc (.cells #[.slice A3 (1 + (pvL (splB 32 s)).length) c3] 26)).frz ⟨w.heap.size, 0, none⟩ (World.block_lt_of_cell? w3 ⟨w.heap.size, 0, none⟩ d3)).trans z3; have hlt3 : w.heap.size < w3.heap.size := World.block_lt_of_cell? w3 ⟨w.heap.size, 0, none⟩ d3; have hne3 : w.heap.size ≠ w3.heap.size := (by omega); have hne4 : w3.heap.size ≠ w.heap.size := (by omega))
      have rd3 := row3.rd (fun _ => rfl)
      go_wp2_with (go_at_call 9; refine (c_IsValidTree _ _ _ _ HG.out _ (by omega) (rd3.keep ((Bw.refl _).alloc _))).mono ?_; rintro e w4 ⟨rfl, hb4⟩; have k34 := (k3.alloc (.cells #[.slice A3 (1 + (pvL (splB 32 s)).length) c3] 26)).trans hb4; have d4 := k34.cellv d2; have z4 := (k34.frz ⟨w.heap.size, 0, none⟩ hlt2).trans z2; have t4 := hb4.cellv (p := ⟨w3.heap.size, 0, none⟩) (v := .slice A3 (1 + (pvL (splB 32 s)).length) c3) (by go_simp))
      have hW : w.heap.size < w2.heap.size := hlt2
      have r4 := (row3.keep ((Bw.refl w3).alloc (.cells #[.slice A3 (1 + (pvL (splB 32 s)).length) c3] 26))).keep hb4
      have r5 := r4.grown (setCell_grown w4 w.heap.size (.slice A3 (1 + (pvL (splB 32 s)).length) c3)) (fun x hx he => by have := (r4.lt x hx).1; simp at he; omega)
      have eL : [-1] ++ pvL (splB 32 s) = ptP s := by rw [HP.out, HV.out]; rfl
      have eN : 1 + (pvL (splB 32 s)).length = (ptP s).length := by rw [← eL]; simp; omega
      rw [eL] at r5
      go_wp2
      (try simp only [Exit.inBlock, Exit.then])
      refine bodyPost_ret (v := .tuple #[.agg #[.slice A3 (1 + (pvL (splB 32 s)).length) c3], .bool true]) (by simp [results, Tryz.results7, go_sem, d4]) rfl ⟨⟨A3, c3, by rw [HB.out, ← eN], by rw [← eN]; exact r5.mono (by omega)⟩, ?_⟩
      (repeat (first | exact k2.trans k34 | (with_reducible refine Bw.setCell ?_ (by simp) _) | (with_reducible refine Bw.alloc ?_ _)))
end Go.Proofs.YthciecmofgoebaaGreatDoor
