
/- ParseEntries: Split at "; "; one entry's text read by the program. -/
import Derived.Test.YtajfmfeegiicaaaDoorY2
import Derived.Test.YtajfmfeegiicaaaDoorQ6
import Derived.Test.YtajfmfeegiicaaaDoorK15
import Derived.Deep.RegionLaw
namespace Go.Proofs.YtajfmfeegiicaaaDoor
open Go.RowKit Go.Shelf
theorem c_Split2 (s : ByteArray) (hs : s.size ≤ 1048576) (w : World) (hp : PEnv w) :
    Calls Tryd.prog 23 #[.string s, .string ⟨#[59, 32]⟩] w fun e w' => (∃ A c, e = .returned (.slice A (spl2 s).length c) ∧ Row w' w.heap.size 9 1 scell A (spl2 s).length c (spl2 s)) ∧ Bw w w' := by
  obtain ⟨m, hm⟩ := hp.m
  have hcon := Any.strings_Split lays146 infoStr s ⟨#[59, 32]⟩ m w (by omega) hm (by decide)
  have ⟨hl, hle⟩ := spl2_len s
  rw [← hl] at hcon
  refine hcon.mono ?_
  rintro e w' ⟨rfl, rfl⟩
  refine ⟨⟨_, _, rfl, ⟨?_, rfl⟩⟩, (Bw.refl w).alloc _⟩
  have := World.ownsRow_lit (base := w.heap.size) (e := 9) (size := 1) w ((spl2 s).map Value.string).toArray (spl2 s).length (Nat.le_refl _) (by unfold maxLen; omega) (by simp)
  have e : ((spl2 s).map Value.string) = (spl2 s).flatMap scell := by
    induction spl2 s with
    | nil => rfl
    | cons x r ih => simp [scell, ih]
  rw [List.toList_toArray] at this
  rw [← e]
  exact this
theorem splL_piece (b : UInt8) : ∀ (l : List UInt8) (x : List UInt8), x ∈ splL b l → x.length ≤ l.length
  | [], x, h => by simp [splL] at h; subst h; simp
  | c :: l, x, h => by
    rw [splL] at h
    split at h
    · rcases List.mem_cons.1 h with rfl | h
      · simp
      · have := splL_piece b l x h; simp; omega
    · split at h
      · simp at h; subst h; simp
      · rename_i y r hy
        rcases List.mem_cons.1 h with rfl | h
        · have := splL_piece b l y (by rw [hy]; simp); simp; omega
        · have := splL_piece b l x (by rw [hy]; simp [h]); simp; omega
theorem splB_piece (b : UInt8) (s : ByteArray) (k : Nat) (hk : k < (splB b s).length) : (strAt (splB b s) k).size ≤ s.size := by
  rw [strAt_lt hk]
  have hm := List.getElem_mem hk
  obtain ⟨x, hx, he⟩ := List.mem_map.1 hm
  have := splL_piece b _ x hx
  have e : (mkB x).size = x.length := by simp [mkB, ByteArray.size]
  rw [← he, e]
  simpa using this
theorem splB_pos (b : UInt8) (s : ByteArray) : 1 ≤ (splB b s).length := by
  have := splL_ne b s.data.toList
  cases h : splL b s.data.toList with
  | nil => exact absurd h this
  | cons x r => simp [splB, h]
theorem Rd.litS (w : World) (x y : ByteArray) (t : TypeId) : Rd (w.alloc (.cells #[.string x, .string y] t)) (some ⟨w.heap.size, 0, none⟩) 2 1 (([x, y] : List ByteArray).map scell) := by
  refine ⟨rfl, fun _ => ⟨_, _, rfl, by simp, fun k j l u hk hj => ?_⟩⟩
  match k, j with
  | 0, 0 => simp [scell] at hk; subst hk; simp at hj; subst hj; simp
  | 1, 0 => simp [scell] at hk; subst hk; simp at hj; subst hj; simp
  | 0, j + 1 => simp [scell] at hk; subst hk; simp at hj
  | 1, j + 1 => simp [scell] at hk; subst hk; simp at hj
  | k + 2, j => simp at hk
theorem oneI1 : ∀ (t : Int) (u : Value), u ∈ icell t → u.oneCell' = true := by
  intro t u hu; simp [icell] at hu; subst hu; rfl
theorem ysetg (w : World) (a : Addr) (u : Value) : w.grownBy (w.setCell a u) (some a.block) :=
  ⟨rfl, rfl, rfl, by simp, fun k _ hk => heap_setCell_other w a k u (fun e => hk (by rw [e]))⟩
theorem moved_of {w : World} {A A2 : Option Addr} (h : Moved w A A2) (hn : A2 ≠ none) : ∃ x, A2 = some x ∧ (w.heap.size ≤ x.block ∨ ∃ y, A = some y ∧ x.block = y.block) := by
  rcases h with h | ⟨x, hx, h | h⟩
  · cases A2 with
    | none => exact absurd rfl hn
    | some x => exact ⟨x, rfl, .inr ⟨x, h ▸ rfl, rfl⟩⟩
  · exact ⟨x, hx, .inl (by omega)⟩
  · exact ⟨x, hx, .inr h⟩
theorem own_neq {A : Option Addr} {n c q : Nat} (h : ∀ x, A = some x → x.block ≠ q) : some q ≠ Value.ownBlock (.slice A n c) := fun he => by
  cases A with
  | none => simp [Value.ownBlock] at he
  | some z => simp only [Value.ownBlock, Option.some.injEq] at he; exact h z rfl he.symm
theorem own_neq2 {A B : Option Addr} {n c : Nat} (h : ∀ x y, A = some x → B = some y → x.block ≠ y.block) : ∀ y, B = some y → Value.ownBlock (.slice A n c) ≠ some y.block := fun y hy he => by
  cases A with
  | none => simp [Value.ownBlock] at he
  | some z => simp only [Value.ownBlock, Option.some.injEq] at he; exact h z y rfl hy he
/-- An entry while it is read: its box, the result's box, its faces, the words. -/
structure PEt (w0 w : World) (q : Nat) (num unt : Int) (A : Option Addr) (n c : Nat) (fs : List Int) (Aw : Option Addr) (nw cw : Nat) (ws : List ByteArray) : Prop where
  lt : w0.heap.size < q
  t0 : w.cell? ⟨q, 0, none⟩ = some (.int .i64 num)
  t1 : w.cell? ⟨q, 1, none⟩ = some (.slice A n c)
  t2 : w.cell? ⟨q, 2, none⟩ = some (.int .i64 unt)
  tf : ∀ j, w.frozen? ⟨q, j, none⟩ = false
  r0 : w.cell? ⟨w0.heap.size, 0, none⟩ = some (.int .i64 0)
  r1 : w.cell? ⟨w0.heap.size, 1, none⟩ = some (.slice none 0 0)
  r2 : w.cell? ⟨w0.heap.size, 2, none⟩ = some (.int .i64 0)
  rf : ∀ j, w.frozen? ⟨w0.heap.size, j, none⟩ = false
  row : Row w (w0.heap.size + 1) 3 1 icell A n c fs
  nq : ∀ x, A = some x → x.block ≠ q
  wrow : Row w (w0.heap.size + 1) 9 1 scell Aw nw cw ws
  wq : ∀ x, Aw = some x → x.block ≠ q
  dis : ∀ x y, A = some x → Aw = some y → x.block ≠ y.block
  b : Bw w0 w
section
variable {w0 w w' : World} {q : Nat} {num unt : Int} {A : Option Addr} {n c : Nat} {fs : List Int} {Aw : Option Addr} {nw cw : Nat} {ws : List ByteArray}
theorem PEt.keep (h : PEt w0 w q num unt A n c fs Aw nw cw ws) (hb : Bw w w') : PEt w0 w' q num unt A n c fs Aw nw cw ws :=
  have hq : q < w.heap.size := World.block_lt_of_cell? w ⟨q, 0, none⟩ h.t0
  have hr : w0.heap.size < w.heap.size := World.block_lt_of_cell? w ⟨w0.heap.size, 0, none⟩ h.r0
  ⟨h.lt, hb.cellv h.t0, hb.cellv h.t1, hb.cellv h.t2, fun j => (hb.frz ⟨q, j, none⟩ hq).trans (h.tf j), hb.cellv h.r0, hb.cellv h.r1, hb.cellv h.r2, fun j => (hb.frz ⟨w0.heap.size, j, none⟩ hr).trans (h.rf j), h.row.keep hb, h.nq, h.wrow.keep hb, h.wq, h.dis, h.b.trans hb⟩
theorem PEt.push {A2 : Option Addr} {n2 c2 : Nat} {us : List Int} (h : PEt w0 w q num unt A n c fs Aw nw cw ws) (hr : Row w' (w0.heap.size + 1) 3 1 icell A2 n2 c2 us) (hg : w.grownBy w' (Value.ownBlock (.slice A n c))) (hmv : ∃ x, A2 = some x ∧ (w.heap.size ≤ x.block ∨ ∃ y, A = some y ∧ x.block = y.block)) :
    PEt w0 (w'.setCell ⟨q, 1, none⟩ (.slice A2 n2 c2)) q num unt A2 n2 c2 us Aw nw cw ws ∧ w'.cell? ⟨q, 1, none⟩ = some (.slice A n c) ∧ ∀ j, w'.frozen? ⟨q, j, none⟩ = false := by
  have hq : q < w.heap.size := World.block_lt_of_cell? w ⟨q, 0, none⟩ h.t0
  have hr0 : w0.heap.size < w.heap.size := World.block_lt_of_cell? w ⟨w0.heap.size, 0, none⟩ h.r0
  have hlt := h.lt
  have nA := own_neq (n := n) (c := c) h.nq
  have nR : some w0.heap.size ≠ Value.ownBlock (.slice A n c) := own_neq (fun x hx => by have := (h.row.lt x hx).1; omega)
  have t0 := hg.cell h.t0 nA
  have t1 := hg.cell h.t1 nA
  have t2 := hg.cell h.t2 nA
  have tf : ∀ j, w'.frozen? ⟨q, j, none⟩ = false := fun j => (hg.frozen_far ⟨q, j, none⟩ hq nA).trans (h.tf j)
  have r0 := hg.cell h.r0 nR
  have r1 := hg.cell h.r1 nR
  have r2 := hg.cell h.r2 nR
  have rf : ∀ j, w'.frozen? ⟨w0.heap.size, j, none⟩ = false := fun j => (hg.frozen_far ⟨w0.heap.size, j, none⟩ hr0 nR).trans (h.rf j)
  have ne2 : ∀ x, A2 = some x → x.block ≠ q := by
    obtain ⟨x0, hx0, hh⟩ := hmv
    intro x hx
    rw [hx0] at hx; injection hx with hx; subst hx
    rcases hh with hh | ⟨y, hy, hh⟩
    · omega
    · rw [hh]; exact h.nq y hy
  have dis2 : ∀ x y, A2 = some x → Aw = some y → x.block ≠ y.block := by
    obtain ⟨x0, hx0, hh⟩ := hmv
    intro x y hx hy
    rw [hx0] at hx; injection hx with hx; subst hx
    rcases hh with hh | ⟨z, hz, hh⟩
    · have := (h.wrow.lt y hy).2; omega
    · rw [hh]; exact h.dis z y hz hy
  have gs := ysetg w' ⟨q, 1, none⟩ (.slice A2 n2 c2)
  have nS : some w0.heap.size ≠ some q := by simp; omega
  exact ⟨⟨h.lt, (World.cell?_setCell_other _ _ _ _ (by simp)).trans t0, World.cell?_setCell_same _ _ _ t1, (World.cell?_setCell_other _ _ _ _ (by simp)).trans t2, fun j => (World.frozen?_setCell _ _ _ _).trans (tf j), gs.cell r0 nS, gs.cell r1 nS, gs.cell r2 nS, fun j => (World.frozen?_setCell _ _ _ _).trans (rf j), hr.grown gs (fun x hx he => ne2 x hx (Option.some.inj he).symm), ne2, (h.wrow.grown hg (own_neq2 h.dis)).grown gs (fun x hx he => h.wq x hx (Option.some.inj he).symm), h.wq, dis2, (Bw.ofRow h.b hg (fun x hx => by have := (h.row.lt x hx).1; omega)).setCell (by dsimp only; omega) _⟩, t1, tf⟩
end
noncomputable def iV0 (p : ByteArray) : Ev := if iB p = true then iV p else ev0
theorem iV0_no {p : ByteArray} (h : iB p = false) : iV0 p = ev0 := by simp [iV0, h]
theorem fcs_take {x : ByteArray} {k : Nat} (hk : k < x.size) : (fcs x).take (k + 1) = (fcs x).take k ++ [((x[k]).toNat : Int) - 48] := by
  have hl : k < (fcs x).length := by simpa [fcs] using hk
  rw [List.take_succ_eq_append_getElem hl]
  congr 2
  simp only [fcs, List.getElem_map]
  rfl
set_option maxRecDepth 100000 in
set_option maxHeartbeats 2000000 in
theorem c_parseEntry (p : ByteArray) (hs : p.size ≤ 1048576) (w : World) (hp : PEnv w) :
    Calls Tryd.prog 25 #[.string p] w fun e w' => (∃ A c, e = .returned (.tuple #[.agg #[.int .i64 (iV0 p).num, .slice A (iV0 p).fs.length c, .int .i64 (iV0 p).unt], .bool (iB p)]) ∧ Row w' w.heap.size 3 1 icell A (iV0 p).fs.length c (iV0 p).fs) ∧ Bw w w' := by
  have hbx := (Bw.refl w).alloc (.cells #[.int .i64 0, .slice none 0 0, .int .i64 0] 49)
  obtain ⟨i0, hi, hz0, hz1, hz2⟩ := info_parts infoInt
  have Hi := Lib.hid hi
  have Hz0 := Lib.hid hz0
  have Hz1 := Lib.hid hz1
  have Hz2 := Lib.hid hz2
  clear hi hz0 hz1 hz2
  go_enter Tryd.func25, Tryd.ntmps25
  go_wp2_with fail
  refine (c_Split p 32 hs _ (hp.keep hbx)).mono ?_
  rintro e w1 ⟨⟨Aw, cw, rfl, row1⟩, hb1⟩
  have k1 := hbx.trans hb1
  have r0 := hb1.cellv (p := ⟨w.heap.size, 0, none⟩) (v := .int .i64 0) (by go_simp)
  have r1 := hb1.cellv (p := ⟨w.heap.size, 1, none⟩) (v := .slice none 0 0) (by go_simp)
  have r2 := hb1.cellv (p := ⟨w.heap.size, 2, none⟩) (v := .int .i64 0) (by go_simp)
  have rf : ∀ j, w1.frozen? ⟨w.heap.size, j, none⟩ = false := fun j => (hb1.frz ⟨w.heap.size, j, none⟩ (by simp)).trans (by go_simp)
  simp only [World.size_alloc] at row1
  have rf0 := rf 0
  have rf1 := rf 1
  have rf2 := rf 2
  by_cases h5 : (splB 32 p).length = 5
  · have h5i : ((((splB 32 p).length : Nat) : Int) != 5) = false := by rw [h5]; rfl
    have HW := Lib.hid (fun k hk => splB_piece 32 p k hk)
    have HI := Lib.hid (show iB p = (rdB (strAt (splB 32 p) 0) && rdB (strAt (splB 32 p) 4)) by simp [iB, h5])
    have HV := Lib.hid (show iV p = ⟨rdV (strAt (splB 32 p) 0), rdV (strAt (splB 32 p) 4), fcs (strAt (splB 32 p) 2)⟩ from rfl)
    have hz0 := HW.out 0 (by omega)
    have hz2 := HW.out 2 (by omega)
    have hz4 := HW.out 4 (by omega)
    generalize splB 32 p = ws at *
    have H5 := Lib.hid h5
    obtain ⟨g, rfl, hg0, hg1, _, hc⟩ := row1.strs (by omega)
    have q0 := hc 0 (by omega)
    have q2 := hc 2 (by omega)
    have q4 := hc 4 (by omega)
    rw [h5] at row1 ⊢
    clear hc h5
    generalize strAt ws 0 = x0 at *
    generalize hx2 : strAt ws 2 = x2 at *
    have HX2 := Lib.hid hx2
    clear hx2
    generalize strAt ws 4 = x4 at *
    have hsl := World.block_lt_of_cell? w1 ⟨w.heap.size, 0, none⟩ r0
    have HPI := Lib.hid (fun (W : World) (hb : Bw (w1.alloc (.cells #[.string x0, .string x4] 9)) W) => c_parseInts (some ⟨w1.heap.size, 0, none⟩) 2 2 [x0, x4] (fun k hk => by
      match k, hk with
      | 0, _ => exact (show x0.size ≤ 1048576 by omega)
      | 1, _ => exact (show x4.size ≤ 1048576 by omega)) W (hp.keep ((k1.alloc _).trans hb)) (by omega) ((Rd.litS w1 x0 x4 9).keep hb))
    cases hok : (rdB x0 && rdB x4)
    · have HN := Lib.hid (show ([x0, x4] : List ByteArray).all rdB = false ∧ pvL [x0, x4] = [] by
        have : ([x0, x4] : List ByteArray).all rdB = false := by simpa using hok
        exact ⟨this, by rw [pvL, this]; simp⟩)
      have HB := Lib.hid (HI.out.trans hok)
      have HV0 := Lib.hid (iV0_no HB.out)
      clear hok
      rw [HN.out.1, HN.out.2] at HPI
      go_wp2_with fail
      go_region_law (first | (go_simp; go_at_call 46; refine (HPI.out _ (by (repeat (first | with_reducible assumption | exact Bw.refl _ | (with_reducible refine Bw.setCell ?_ (by simp) _) | (with_reducible refine Bw.alloc ?_ _) | (with_reducible refine Bw.drew ?_) | (with_reducible refine Bw.drewN ?_ _))))).mono ?_; rintro e w2 ⟨⟨B, cB, rfl, rowB⟩, hb2⟩; have s0 := (((Bw.refl w1).alloc (.cells #[.string x0, .string x4] 9)).trans ((by (repeat (first | with_reducible assumption | exact Bw.refl _ | (with_reducible refine Bw.setCell ?_ (by simp) _) | (with_reducible refine Bw.alloc ?_ _) | (with_reducible refine Bw.drew ?_) | (with_reducible refine Bw.drewN ?_ _))) : Bw _ _).trans hb2)).cellv r0; have s1 := (((Bw.refl w1).alloc (.cells #[.string x0, .string x4] 9)).trans ((by (repeat (first | with_reducible assumption | exact Bw.refl _ | (with_reducible refine Bw.setCell ?_ (by simp) _) | (with_reducible refine Bw.alloc ?_ _) | (with_reducible refine Bw.drew ?_) | (with_reducible refine Bw.drewN ?_ _))) : Bw _ _).trans hb2)).cellv r1; have s2 := (((Bw.refl w1).alloc (.cells #[.string x0, .string x4] 9)).trans ((by (repeat (first | with_reducible assumption | exact Bw.refl _ | (with_reducible refine Bw.setCell ?_ (by simp) _) | (with_reducible refine Bw.alloc ?_ _) | (with_reducible refine Bw.drew ?_) | (with_reducible refine Bw.drewN ?_ _))) : Bw _ _).trans hb2)).cellv r2; have kz := (((Bw.refl w1).alloc (.cells #[.string x0, .string x4] 9)).trans ((by (repeat (first | with_reducible assumption | exact Bw.refl _ | (with_reducible refine Bw.setCell ?_ (by simp) _) | (with_reducible refine Bw.alloc ?_ _) | (with_reducible refine Bw.drew ?_) | (with_reducible refine Bw.drewN ?_ _))) : Bw _ _).trans hb2)); have sf0 := (kz.frz ⟨w.heap.size, 0, none⟩ hsl).trans rf0; have sf1 := (kz.frz ⟨w.heap.size, 1, none⟩ hsl).trans rf1; have sf2 := (kz.frz ⟨w.heap.size, 2, none⟩ hsl).trans rf2))
      all_goals
        go_wp2
        refine bodyPost_ret (v := .tuple #[.agg #[.int .i64 0, .slice none 0 0, .int .i64 0], .bool false]) (by simp [results, Tryd.results25, go_sem, s0, s1, s2]) rfl ⟨⟨none, 0, by rw [HB.out, HV0.out]; rfl, by rw [HV0.out]; exact Row.nil _ _ _ _ _⟩, (((k1.trans kz).setCell (by simp) _).setCell (by simp) _).setCell (by simp) _⟩
    · have HN := Lib.hid (show ([x0, x4] : List ByteArray).all rdB = true ∧ pvL [x0, x4] = [rdV x0, rdV x4] by
        have : ([x0, x4] : List ByteArray).all rdB = true := by simpa using hok
        exact ⟨this, by rw [pvL, this]; simp⟩)
      have HB := Lib.hid (HI.out.trans hok)
      have HV0 := Lib.hid (show iV0 p = ⟨rdV x0, rdV x4, fcs x2⟩ by rw [iV0, if_pos HB.out, HV.out])
      clear hok
      rw [HN.out.1, HN.out.2] at HPI
      generalize rdV x0 = a at *
      generalize rdV x4 = b at *
      go_wp2_with fail
      go_region_law (first | (go_simp; go_at_call 46; refine (HPI.out _ (by (repeat (first | with_reducible assumption | exact Bw.refl _ | (with_reducible refine Bw.setCell ?_ (by simp) _) | (with_reducible refine Bw.alloc ?_ _) | (with_reducible refine Bw.drew ?_) | (with_reducible refine Bw.drewN ?_ _))))).mono ?_; rintro e w2 ⟨⟨B, cB, rfl, rowB⟩, hb2⟩; have kz := (((Bw.refl w1).alloc (.cells #[.string x0, .string x4] 9)).trans ((by (repeat (first | with_reducible assumption | exact Bw.refl _ | (with_reducible refine Bw.setCell ?_ (by simp) _) | (with_reducible refine Bw.alloc ?_ _) | (with_reducible refine Bw.drew ?_) | (with_reducible refine Bw.drewN ?_ _))) : Bw _ _).trans hb2))))
      all_goals
        have kw2 := k1.trans kz
        have W2 := row1.keep kz
        have lw2 := kz.size
        have s0 := kz.cellv r0
        have s1 := kz.cellv r1
        have s2 := kz.cellv r2
        have sf := fun j => (kz.frz ⟨w.heap.size, j, none⟩ hsl).trans (rf j)
        have q2b := kz.cellv q2
        obtain ⟨gB, rfl, hB0, hB1, hBf, hBc⟩ := rowB.ints (by simp)
        have p0 : w2.cell? ⟨gB, 0, none⟩ = some (.int .i64 a) := by simpa [intAt] using hBc 0 (by simp)
        have p1 : w2.cell? ⟨gB, 1, none⟩ = some (.int .i64 b) := by simpa [intAt] using hBc 1 (by simp)
        clear hBc q0 q4 r0 r1 r2 rf0 rf1 rf2 HPI row1
        go_wp2_with fail
        go_region
        generalize hwq : World.drew (w2.alloc (.cells #[.int .i64 a, .slice none 0 0, .int .i64 b] 49)) = wq
        have hbq : Bw w2 wq := by rw [← hwq]; exact ((Bw.refl w2).alloc _).drew
        have hlt2 : w.heap.size < w2.heap.size := by omega
        have P0 : PEt w wq w2.heap.size a b none 0 0 [] (some ⟨g, 0, none⟩) 5 cw ws :=
          ⟨hlt2, by rw [← hwq]; exact ((Bw.refl (w2.alloc _)).drew).cellv (by go_simp), by rw [← hwq]; exact ((Bw.refl (w2.alloc _)).drew).cellv (by go_simp), by rw [← hwq]; exact ((Bw.refl (w2.alloc _)).drew).cellv (by go_simp), fun j => by rw [← hwq]; exact (((Bw.refl (w2.alloc _)).drew).frz ⟨w2.heap.size, j, none⟩ (by simp)).trans (by go_simp), hbq.cellv s0, hbq.cellv s1, hbq.cellv s2, fun j => (hbq.frz ⟨w.heap.size, j, none⟩ hlt2).trans (sf j), Row.nil _ _ _ _ _, fun x hx => (by cases hx), W2.keep hbq, fun x hx => (by simp only [Option.some.injEq] at hx; subst hx; dsimp only; omega), fun x y hx => (by cases hx), kw2.trans hbq⟩
        have q2c := hbq.cellv q2b
        clear hwq s0 s1 s2 sf q2b p0 p1 W2 rowB kz hb2
        generalize w2.heap.size = q at *
        have HP0 := Lib.hid P0
        clear P0
        go_wp2_with fail
        go_loopw [40] (fun i wr => ∃ k : Nat, ∃ A' c', k ≤ x2.size ∧ i = .int .i64 k ∧ PEt w wr q a b A' k c' ((fcs x2).take k) (some ⟨g, 0, none⟩) 5 cw ws) (fun i _ => x2.size - (intOf i).toNat)
        case atStart => exact ⟨0, _, _, Nat.zero_le _, rfl, HP0.out⟩
        case round =>
          obtain ⟨k, A', c', hk, rfl, hP⟩ := hrel
          have HP := Lib.hid hP
          have hfl : ((fcs x2).take k).length = k := by simp [fcs]; omega
          have hrowL := hP.row.len
          have hfacts : PEt w wr q a b A' k c' ((fcs x2).take k) (some ⟨g, 0, none⟩) 5 cw ws := hP
          have t1 := hP.t1
          have t0 := hP.t0
          have t2 := hP.t2
          obtain ⟨g', hg', _, _, _, hc⟩ := hP.wrow.strs (by omega)
          obtain rfl : g = g' := by simpa using hg'
          have q2d := hc 2 (by omega)
          rw [HX2.out] at q2d
          clear hc hg'
          have hqlt : q < wr.heap.size := World.block_lt_of_cell? wr ⟨q, 0, none⟩ hP.t0
          have hwlt : w.heap.size < wr.heap.size := World.block_lt_of_cell? wr ⟨w.heap.size, 0, none⟩ hP.r0
          by_cases hltk : k < x2.size
          · have HD := Lib.hid (fcs_take hltk)
            have hbl8 : (x2[k]).toNat < 256 := UInt8.toNat_lt _
            have hwc := IntWalk.i64_in ((x2[k]).toNat : Int) (by omega)
            have hwv := IntWalk.i64_in (((x2[k]).toNat : Int) - 48) (by omega)
            have ta : ∀ o, (wr.alloc o).cell? ⟨q, 1, none⟩ = some (.slice A' k c') := fun o => (HP.out.keep ((Bw.refl wr).alloc o)).t1
            generalize hfs : (fcs x2).take k = fs at *
            clear hfs hfacts hP
            go_wp2_with fail
            go_region_law (refine step_append_rd (enc := icell) ?_ (.tmp 44) (.tmp 52) 47 ?_ (w.heap.size + 1) 3 i0 (.int .i64 0) 1 8 Tryd.underlying47 Hi.out Hz0.out Hz1.out Hz2.out rfl ?_ (fun _ => rfl) oneI1 A' k c' fs ?_ ?_ (some ⟨wr.heap.size, 0, none⟩) 1 1 [((x2[k]).toNat : Int) - 48] ?_ ?_ ?_ ?_ ?_ ?_; (focus rfl); (focus rfl); (focus decide); (focus rfl); (focus (exact HP.out.row.keep (((Bw.refl wr).alloc _).drew))); (focus rfl); (focus (exact (Rd.one wr #[.int .i64 (((x2[k]).toNat : Int) - 48)] 3 (((x2[k]).toNat : Int) - 48) 1 rfl).keep ((Bw.refl _).drew))); (focus (unfold maxLen; omega)); (focus omega); (focus (simp; omega)); (intro A2 c2 w4 row4 hg4 hmv4 hnn4); (have hQ := (HP.out.keep (((Bw.refl wr).alloc (.cells #[.int .i64 (((x2[k]).toNat : Int) - 48)] 3)).drew)).push row4 hg4 (moved_of hmv4 (hnn4 (by omega)))); (have t4 := hQ.2.1); (have f4 := hQ.2.2 1))
            all_goals
              go_wp2_with fail
              go_roundw
              case rel => exact ⟨k + 1, A2, c2, by omega, by go_num, by rw [HD.out]; exact hQ.1⟩
              case measure => simp [intOf]; omega
          · obtain rfl : k = x2.size := by omega
            have hfe : (fcs x2).take x2.size = fcs x2 := List.take_of_length_le (by simp [fcs])
            rw [hfe] at HP hfl
            have r0 := HP.out.r0
            have r1 := HP.out.r1
            have r2 := HP.out.r2
            have rf0 := HP.out.rf 0
            have rf1 := HP.out.rf 1
            have rf2 := HP.out.rf 2
            clear hfacts hP
            go_wp2
            have hrow := HP.out.row
            have hne : ∀ x, A' = some x → some w.heap.size ≠ some x.block := fun x hx he => by have := (hrow.lt x hx).1; have := Option.some.inj he; omega
            refine bodyPost_ret (v := .tuple #[.agg #[.int .i64 a, .slice A' x2.size c', .int .i64 b], .bool true]) (by simp [results, Tryd.results25, go_sem, r0, r1, r2]) rfl ⟨⟨A', c', by rw [HB.out, HV0.out]; simp only [hfl], by rw [HV0.out]; simp only [hfl]; exact (((hrow.grown (ysetg _ ⟨w.heap.size, 0, none⟩ _) hne).grown (ysetg _ ⟨w.heap.size, 1, none⟩ _) hne).grown (ysetg _ ⟨w.heap.size, 2, none⟩ _) hne).mono (by omega)⟩, ((HP.out.b.setCell (by simp) _).setCell (by simp) _).setCell (by simp) _⟩
  · have h5i : ((((splB 32 p).length : Nat) : Int) != 5) = true := by simp; omega
    have HB := Lib.hid (show iB p = false by simp [iB, h5])
    have HV := Lib.hid (iV0_no HB.out)
    clear h5
    go_wp2
    refine bodyPost_ret (v := .tuple #[.agg #[.int .i64 0, .slice none 0 0, .int .i64 0], .bool false]) (by simp [results, Tryd.results25, go_sem, r0, r1, r2]) rfl ⟨⟨none, 0, by rw [HB.out, HV.out]; rfl, by rw [HV.out]; exact Row.nil _ _ _ _ _⟩, ((k1.setCell (by simp) _).setCell (by simp) _).setCell (by simp) _⟩
end Go.Proofs.YtajfmfeegiicaaaDoor
