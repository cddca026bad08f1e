
/- ParseTree: the reference's side. -/
import Derived.Test.YthciecmofgoebaaGreatDoorQ7
import Derived.Test.YthciecmofgoebaaGreatDoorQ3
namespace Go.Proofs.YthciecmofgoebaaGreatDoor
open Go.RowKit Go.Shelf
theorem joinT_size2 {ts : List Int} {sep : ByteArray} (hs : sep.size ≤ 1) (hv : ∀ k, k < ts.length → intAt ts k ≤ 9) : ∀ k, k ≤ ts.length → (joinT (ts.take k) sep).size ≤ k * 2 := by
  intro k
  induction k with
  | zero => intro _; simp [joinT, numW, Lib.join_nil, ByteArray.size]
  | succ k ih =>
    intro hk
    have hvk := hv k (by omega)
    have hz : (numT (intAt ts k).toNat).size = 1 := by rw [numT_small (by omega)]; rfl
    rcases Nat.eq_zero_or_pos k with rfl | h1
    · have e : ts.take 1 = [intAt ts 0] := by
        cases ts with
        | nil => simp at hk
        | cons x r => simp [intAt]
      rw [Nat.zero_add, e, joinT_one]; omega
    · rw [joinT_succ h1 (by omega)]
      have := ih (by omega)
      simp only [ByteArray.size_append]
      omega
theorem pt_facts {s : ByteArray} (ha : (splB 32 s).all rdB = true) (hg : goodP (-1 :: (splB 32 s).map rdV) = true) : nodesT (-1 :: (splB 32 s).map rdV) = s ∧ s.size ≤ 40 := by
  have hv : ∀ k, k < ((splB 32 s).map rdV).length → 0 ≤ intAt ((splB 32 s).map rdV) k ∧ intAt ((splB 32 s).map rdV) k ≤ 7 := fun k hk => by
    have := goodP_at hg (k := k + 1) (by omega) (by simpa using hk)
    rw [← drop_at] at this
    simpa using this
  have hw : numW ((splB 32 s).map rdV) = splB 32 s := by
    apply List.ext_getElem
    · simp [numW]
    · intro k h1 h2
      have hk : k < ((splB 32 s).map rdV).length := by simpa using h2
      have h3 := (hv k hk).1
      rw [intAt_lt hk] at h3
      simp only [List.getElem_map] at h3
      simp only [numW, List.getElem_map]
      have hr : rdB (splB 32 s)[k] = true := List.all_eq_true.1 ha _ (List.getElem_mem h2)
      have hn := (rd_spec hr).2.2
      have e : rdV (splB 32 s)[k] = ((rdV (splB 32 s)[k]).toNat : Int) := by omega
      rw [e, numZ_nat] at hn
      exact hn
  have hn : nodesT (-1 :: (splB 32 s).map rdV) = s := by
    have : nodesT (-1 :: (splB 32 s).map rdV) = joinT ((splB 32 s).map rdV) ⟨#[32]⟩ := by simp [nodesT]
    rw [this, joinT, hw]
    exact splB_join 32 s
  refine ⟨hn, ?_⟩
  have h8 := (goodP_iff.1 hg).1.2
  have hz := joinT_size2 (ts := (splB 32 s).map rdV) (sep := ⟨#[32]⟩) (by decide) (fun k hk => by have := hv k hk; omega) _ (Nat.le_refl _)
  rw [List.take_length] at hz
  have e : joinT ((splB 32 s).map rdV) ⟨#[32]⟩ = s := by have := hn; simp only [nodesT, List.drop_succ_cons, List.drop_zero] at this; exact this
  rw [e] at hz
  simp only [List.length_cons] at h8
  omega
theorem own_ne {A : Option Addr} {m c b : Nat} (h : ∀ x, A = some x → x.block ≠ b) : some b ≠ Value.ownBlock (.slice A m c) := fun he => by
  cases A with
  | none => simp [Value.ownBlock] at he
  | some y => have := h y rfl; simp only [Value.ownBlock, Option.some.injEq] at he; omega
/-- The parts and the numbers while the reference reads. -/
structure PT (w wr : World) (T : Nat) (A1 : Option Addr) (n1 c1 : Nat) (ws : List ByteArray) (A : Option Addr) (m c : Nat) (L : List Int) : Prop where
  lt : w.heap.size < T
  t : wr.cell? ⟨T, 0, none⟩ = some (.slice A m c)
  tf : wr.frozen? ⟨T, 0, none⟩ = false
  r : wr.cell? ⟨w.heap.size, 0, none⟩ = some (.slice none 0 0)
  rf : wr.frozen? ⟨w.heap.size, 0, none⟩ = false
  row : Row wr (w.heap.size + 1) 3 1 icell A m c L
  nT : ∀ x, A = some x → x.block ≠ T
  wrow : Row wr (w.heap.size + 1) 9 1 scell A1 n1 c1 ws
  wT : ∀ x, A1 = some x → x.block ≠ T
  dis : ∀ x y, A = some x → A1 = some y → x.block ≠ y.block
  b : Bw w wr
section
variable {w wr w2 : World} {T n1 c1 m c : Nat} {A1 A : Option Addr} {ws : List ByteArray} {L : List Int}
theorem PT.keep (h : PT w wr T A1 n1 c1 ws A m c L) (hb : Bw wr w2) : PT w w2 T A1 n1 c1 ws A m c L :=
  ⟨h.lt, hb.cellv h.t, (hb.frz ⟨T, 0, none⟩ (World.block_lt_of_cell? wr ⟨T, 0, none⟩ h.t)).trans h.tf, hb.cellv h.r, (hb.frz ⟨w.heap.size, 0, none⟩ (World.block_lt_of_cell? wr ⟨w.heap.size, 0, none⟩ h.r)).trans h.rf, h.row.keep hb, h.nT, h.wrow.keep hb, h.wT, h.dis, h.b.trans hb⟩
theorem PT.push {y : Int} {A2 : Option Addr} {c2 : Nat} (h : PT w wr T A1 n1 c1 ws A m c L) (hrow : Row w2 (w.heap.size + 1) 3 1 icell A2 (m + 1) c2 (L ++ [y])) (hg : wr.grownBy w2 (Value.ownBlock (.slice A m c))) (hmv : ∃ x, A2 = some x ∧ (wr.heap.size < x.block ∨ ∃ y, A = some y ∧ x.block = y.block)) :
    PT w (w2.setCell ⟨T, 0, none⟩ (.slice A2 (m + 1) c2)) T A1 n1 c1 ws A2 (m + 1) c2 (L ++ [y]) ∧ w2.cell? ⟨T, 0, none⟩ = some (.slice A m c) ∧ w2.frozen? ⟨T, 0, none⟩ = false := by
  have hT : T < wr.heap.size := World.block_lt_of_cell? wr ⟨T, 0, none⟩ h.t
  have hlt := h.lt
  have t2 : w2.cell? ⟨T, 0, none⟩ = some (.slice A m c) := hg.cell h.t (own_ne h.nT)
  have f2 : w2.frozen? ⟨T, 0, none⟩ = false := (hg.frozen_far ⟨T, 0, none⟩ hT (own_ne h.nT)).trans h.tf
  have hrn : ∀ x, A = some x → x.block ≠ w.heap.size := fun x hx => by have := (h.row.lt x hx).1; omega
  have hW : w.heap.size < wr.heap.size := by omega
  have r2 : w2.cell? ⟨w.heap.size, 0, none⟩ = some (.slice none 0 0) := hg.cell h.r (own_ne hrn)
  have rf2 : w2.frozen? ⟨w.heap.size, 0, none⟩ = false := (hg.frozen_far ⟨w.heap.size, 0, none⟩ hW (own_ne hrn)).trans h.rf
  have nT2 : ∀ x, A2 = some x → x.block ≠ T := by
    obtain ⟨x0, hx0, hh⟩ := hmv
    intro x hx
    rw [hx0] at hx; injection hx with hx; subst hx
    rcases hh with hh | ⟨y, hy, hh⟩
    · omega
    · rw [hh]; exact h.nT y hy
  have dis2 : ∀ x y, A2 = some x → A1 = some y → x.block ≠ y.block := by
    obtain ⟨x0, hx0, hh⟩ := hmv
    intro x y hx hy
    rw [hx0] at hx; injection hx with hx; subst hx
    rcases hh with hh | ⟨z, hz, hh⟩
    · have := (h.wrow.lt y hy).2; omega
    · rw [hh]; exact h.dis z y hz hy
  have gs := setCell_grown w2 T (.slice A2 (m + 1) c2)
  have w2row : Row w2 (w.heap.size + 1) 9 1 scell A1 n1 c1 ws := h.wrow.grown hg (fun x hx he => by
    cases A with
    | none => simp [Value.ownBlock] at he
    | some z => simp only [Value.ownBlock, Option.some.injEq] at he; exact h.dis z x rfl hx he)
  have hb2 : Bw w w2 := Bw.ofRow h.b hg (fun x hx => by have := (h.row.lt x hx).1; omega)
  have neW : some w.heap.size ≠ some T := fun e => by have := Option.some.inj e; omega
  exact ⟨⟨h.lt, World.cell?_setCell_same _ _ _ t2, (World.frozen?_setCell _ _ _ _).trans f2, gs.cell r2 neW, (World.frozen?_setCell _ _ _ _).trans rf2, hrow.grown gs (fun x hx he => nT2 x hx (Option.some.inj he).symm), nT2, w2row.grown gs (fun x hx he => h.wT x hx (Option.some.inj he).symm), h.wT, dis2, hb2.setCell (by dsimp only; omega) _⟩, t2, f2⟩
end
set_option maxRecDepth 100000 in
theorem c_l6Parse (s : ByteArray) (hs : s.size ≤ 1048576) (w : World) :
    Calls Tryz.prog 31 #[.string s] w fun e w' => (∃ A c, e = .returned (.tuple #[.agg #[.slice A (ptP s).length c], .bool (ptB s)]) ∧ Row w' w.heap.size 3 1 icell A (ptP s).length c (ptP s)) ∧ Bw w w' := by
  have hlen := splB_len 32 s
  go_enter Tryz.func31, Tryz.ntmps31
  go_wp2_with fail
  refine (c_l1Split s 32 hs _).mono ?_
  rintro e w1 ⟨⟨A1, c1, rfl, row1⟩, hb1⟩
  have rl := Row.oneI (w.alloc (.cells #[.slice none 0 0] 26)) (w.heap.size + 1) (-1) (by simp)
  simp only [World.size_alloc] at rl
  have P1 : PT w w1 (w.heap.size + 1 + 1) A1 (splB 32 s).length c1 (splB 32 s) (some ⟨w.heap.size + 1, 0, none⟩) 1 1 [-1] :=
    ⟨by omega, hb1.cellv (by go_simp), (hb1.frz ⟨w.heap.size + 1 + 1, 0, none⟩ (by simp)).trans (by go_simp), hb1.cellv (by go_simp), (hb1.frz ⟨w.heap.size, 0, none⟩ (by simp; omega)).trans (by go_simp), (rl.keep ((Bw.refl _).alloc _)).keep hb1, fun x hx => by (simp only [Option.some.injEq] at hx; subst hx; dsimp only; omega), row1.mono (by simp), fun x hx => by (have := (row1.lt x hx).1; simp at this; omega), fun x y hx hy => by (have := (row1.lt y hy).1; simp only [Option.some.injEq] at hx; subst hx; simp at this ⊢; omega), Bw.trans (by (repeat (first | exact Bw.refl _ | (with_reducible refine Bw.alloc ?_ _)))) hb1⟩
  clear rl row1 hb1
  generalize w.heap.size + 1 + 1 = T at *
  have HP1 := Lib.hid P1
  have t1 := P1.t
  have f1 := P1.tf
  have r1 := P1.r
  have rf1 := P1.rf
  clear P1
  by_cases h40 : 40 < s.size
  · have HB := Lib.hid (show ptB s = false by
      cases h : ptB s
      · rfl
      · rw [ptB, Bool.and_eq_true] at h
        have := (pt_facts h.1 h.2).2
        omega)
    have HP := Lib.hid (ptP_no HB.out)
    go_wp2
    (try simp only [Exit.inBlock, Exit.then])
    refine bodyPost_ret (v := .tuple #[.agg #[.slice none 0 0], .bool false]) (by simp [results, Tryz.results31, go_sem, r1]) rfl ⟨⟨none, 0, by rw [HB.out, HP.out]; rfl, by rw [HP.out]; exact Row.nil _ _ _ _ _⟩, HP1.out.b.setCell (by simp) _⟩
  · go_wp2_with fail
    clear t1 f1 r1 rf1
    have HSZ := Lib.hid (fun k hk => Nat.le_trans (splB_piece 32 s k hk) hs)
    go_loopw [6] (fun i wr => ∃ k : Nat, ∃ A' c', k ≤ (splB 32 s).length ∧ i = .int .i64 k ∧ PT w wr T A1 (splB 32 s).length c1 (splB 32 s) A' (k + 1) c' (-1 :: ((splB 32 s).take k).map rdV) ∧ (∀ j, j < k → rdB (strAt (splB 32 s) j) = true)) (fun i _ => (splB 32 s).length - (intOf i).toNat)
    case atStart => exact ⟨0, _, _, Nat.zero_le _, rfl, HP1.out, fun j hj => absurd hj (by omega)⟩
    case round =>
      obtain ⟨k, A', c', hk, rfl, hP, hno⟩ := hrel
      have HP2 := Lib.hid hP
      have Hno := Lib.hid hno
      have t1 := hP.t
      have f1 := hP.tf
      have r1 := hP.r
      have rf1 := hP.rf
      clear hP hno
      by_cases hlt : k < (splB 32 s).length
      · obtain ⟨b, off, rfl, hb, hc⟩ := (HP2.out.wrow.rd (fun _ => rfl)).strs (by omega)
        have q0 := hc k hlt
        clear hc
        have HD := Lib.hid (rd_take_succ (splB 32 s) k hlt)
        have hsz := HSZ.out k hlt
        have HNO := Lib.hid (fun e => pvL_no (ws := splB 32 s) (k := k) hlt e)
        cases hr : rdB (strAt (splB 32 s) k)
        · have HC := Lib.hid (fun W => c_l1Read (strAt (splB 32 s) k) hsz W)
          rw [hr] at HC
          have HB := Lib.hid (show ptB s = false by rw [ptB, (HNO.out hr).1]; rfl)
          have HP := Lib.hid (ptP_no HB.out)
          clear hr
          generalize strAt (splB 32 s) k = x at q0 HC
          go_wp2_with (go_at_call 49; refine (HC.out _).mono ?_; rintro e w3 ⟨rfl, hb3⟩; have HP3 := Lib.hid (HP2.out.keep hb3); have r3 := HP3.out.r; have rf3 := HP3.out.rf)
          (try simp only [Exit.inBlock, Exit.then])
          refine bodyPost_ret (v := .tuple #[.agg #[.slice none 0 0], .bool false]) (by simp [results, Tryz.results31, go_sem, r3]) rfl ⟨⟨none, 0, by rw [HB.out, HP.out]; rfl, by rw [HP.out]; exact Row.nil _ _ _ _ _⟩, HP3.out.b.setCell (by simp) _⟩
        · have HC := Lib.hid (fun W => c_l1Read (strAt (splB 32 s) k) hsz W)
          rw [hr] at HC
          have HR := Lib.hid (snoc_lt Hno.out hr)
          clear hr
          generalize hxs : strAt (splB 32 s) k = x at q0 HC HD
          clear hxs
          have hml : ((splB 32 s).take k).length = k := by simp; omega
          go_wp2_with (first | (go_at_call 49; refine (HC.out _).mono ?_; rintro e w3 ⟨rfl, hb3⟩; have HP3 := Lib.hid (HP2.out.keep hb3); have t3 := HP3.out.t; have f3 := HP3.out.tf; have row3 := HP3.out.row; have hs3 := HP3.out.b.size; have hs4 := World.block_lt_of_cell? _ _ HP3.out.r) | (at_builtin; refine append_intL rfl _ _ rfl _ _ _ _ rfl row3 _ _ rfl rfl ?_ ?_ ?_; omega; exact hs4; intro A2 c2 w2 row2 hg2 hmv2; have hpush := Lib.hid (HP3.out.push row2 hg2 hmv2); have t2 := hpush.out.2.1; have f2 := hpush.out.2.2))
          go_roundw
          case rel => exact ⟨k + 1, A2, c2, by omega, by go_num, by rw [HD.out]; exact hpush.out.1, HR.out⟩
          case measure => simp [intOf]; omega
      · obtain rfl : k = (splB 32 s).length := by omega
        have HN := Lib.hid (pvL_yes (ws := splB 32 s) Hno.out).1
        have e : (splB 32 s).take (splB 32 s).length = splB 32 s := List.take_length
        rw [e] at HP2
        clear e
        have rd2 := HP2.out.row.rd (fun _ => rfl)
        cases hg : goodP (-1 :: (splB 32 s).map rdV)
        · have HB := Lib.hid (show ptB s = false by rw [ptB, HN.out, hg]; rfl)
          have HP := Lib.hid (ptP_no HB.out)
          have HG := Lib.hid hg
          clear hg
          generalize hL : -1 :: (splB 32 s).map rdV = L at rd2 HG
          clear hL
          go_wp2_with (go_at_call 25; refine (c_l6Good _ _ _ L HG.out _ (by omega) rd2).mono ?_; rintro e w3 ⟨rfl, hb3⟩; have HP3 := Lib.hid (HP2.out.keep hb3); have r3 := HP3.out.r; have rf3 := HP3.out.rf)
          (try simp only [Exit.inBlock, Exit.then])
          refine bodyPost_ret (v := .tuple #[.agg #[.slice none 0 0], .bool false]) (by simp [results, Tryz.results31, go_sem, r3]) rfl ⟨⟨none, 0, by rw [HB.out, HP.out]; rfl, by rw [HP.out]; exact Row.nil _ _ _ _ _⟩, HP3.out.b.setCell (by simp) _⟩
        · have HB := Lib.hid (show ptB s = true by rw [ptB, HN.out, hg]; rfl)
          have HP := Lib.hid (ptP_yes HB.out)
          have HF := Lib.hid (pt_facts HN.out hg).1
          have HG := Lib.hid hg
          clear hg
          rw [← HP.out] at rd2 HF HG HP2
          have hLl := Lib.hid (show (ptP s).length = (splB 32 s).length + 1 by rw [HP.out]; simp)
          have he2 : ((nodesT (ptP s)).toList == s.toList) = true := by rw [HF.out]; simp
          go_wp2_with (first | (go_at_call 25; refine (c_l6Good _ _ _ (ptP s) HG.out _ (by omega) rd2).mono ?_; rintro e w3 ⟨rfl, hb3⟩; have t3 := hb3.cellv t1) | (go_at_call 26; refine (c_l6Text _ _ _ (ptP s) HG.out _ (by omega) (rd2.keep hb3)).mono ?_; rintro e w4 ⟨rfl, hb4⟩; have HP4 := Lib.hid (HP2.out.keep (hb3.trans hb4)); have r4 := HP4.out.r; have rf4 := HP4.out.rf; have t4 := HP4.out.t))
          (try simp only [Exit.inBlock, Exit.then])
          refine bodyPost_ret (v := .tuple #[.agg #[.slice A' ((splB 32 s).length + 1) c'], .bool true]) (by simp [results, Tryz.results31, go_sem, r4]) rfl ⟨⟨A', c', by rw [HB.out, hLl.out], by rw [hLl.out]; exact (HP4.out.row.grown (setCell_grown w4 w.heap.size _) (fun x hx he => by have := (HP4.out.row.lt x hx).1; have := Option.some.inj he; omega)).mono (by omega)⟩, HP4.out.b.setCell (by simp) _⟩
end Go.Proofs.YthciecmofgoebaaGreatDoor
