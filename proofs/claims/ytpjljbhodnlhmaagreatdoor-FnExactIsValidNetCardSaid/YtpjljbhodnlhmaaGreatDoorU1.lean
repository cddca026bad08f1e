
/- Receivers: the law's own helpers. -/
import Derived.Test.YtpjljbhodnlhmaaGreatDoorMR
import Derived.Test.YtpjljbhodnlhmaaGreatDoorR2
import Derived.Test.YtpjljbhodnlhmaaGreatDoorFT
namespace Go.Proofs.YtpjljbhodnlhmaaGreatDoor
open Go.RowKit Go.ChangeShapes Go.WideShapes Go.ChangeAt Go.Joins Go.Deep
theorem c_szRequestSL (A : Option Addr) (n c : Nat) (L : Int) (h0 : 0 ≤ L) (h1 : L ≤ 1048576) (hm : n ≤ 9223372036854775807) (w : World) : Calls Tryz.prog 114 #[.slice A n c, .int .i64 L] w fun e w' => (∃ m : Int, e = .returned (.int .i64 m) ∧ (m < 0 ∨ n ≤ 1048576)) ∧ w = w' := by
  go_enter Tryz.func114, Tryz.ntmps114
  by_cases h : (n : Int) ≤ L
  all_goals
    go_wp2
    go_ret
    refine ⟨⟨_, rfl, by omega⟩, rfl⟩
theorem c_szReceiver (st : Bool) (ck t : Int) (A : Option Addr) (n c : Nat) (ts : List Slot) (hf : fitL ts) (B : Option Addr) (m d : Nat) (hn : n ≤ 9223372036854775807) (hm : m ≤ 9223372036854775807) (w : World) (h : Rd w A n 2 (ts.map Slot.cells)) : Calls Tryz.prog 76 #[.agg #[.bool st, .int .i64 ck, .int .i64 t, .slice A n c, .slice B m d], .int .i64 1048576] w fun e w' => (∃ x : Int, e = .returned (.int .i64 x) ∧ (x < 0 ∨ (n ≤ 1048576 ∧ m ≤ 1048576))) ∧ Bw w w' := by
  have hbx : Bw w (w.alloc (.cells #[.bool st, .int .i64 ck, .int .i64 t, .slice A n c, .slice B m d] 117)) := Bw.alloc (Bw.refl _) _
  go_enter Tryz.func76, Tryz.ntmps76
  go_wp2_with (go_at_call 113; refine (c_szReceiveWindow t _ _ _ ts hf hn _ (h.keep hbx)).mono ?_; rintro e w1 ⟨⟨x, rfl, hmx, hmm⟩, hb1⟩; have b5 := hb1.cellv (p := ⟨w.heap.size, 4, none⟩) (v := .slice B m d) (by go_simp))
  · go_ret
    exact ⟨⟨_, rfl, by omega⟩, hbx.trans hb1⟩
  · refine (c_szRequestSL _ _ _ x (by omega) hmx hm _).mono ?_
    rintro e w2 ⟨⟨y, rfl, hyy⟩, rfl⟩
    go_wp2_with fail
    all_goals
      go_ret
      exact ⟨⟨_, rfl, by omega⟩, hbx.trans hb1⟩
set_option maxRecDepth 100000 in
set_option maxHeartbeats 2000000 in
theorem c_toReceiver (st : Bool) (ck t : Int) (A : Option Addr) (n c : Nat) (ts : List Slot) (B : Option Addr) (m d : Nat) (rs : List Request) (w : World) (hn : n ≤ 1048576) (hm : m ≤ 1048576) (h : Rd w A n 2 (ts.map Slot.cells)) (hh : Rd w B m 4 (rs.map Request.cells)) :
    Calls Tryz.prog 82 #[.agg #[.bool st, .int .i64 ck, .int .i64 t, .slice A n c, .slice B m d]] w fun e w' => (∃ A' c' B' d', e = .returned (.agg #[.bool st, .int .i64 ck, .int .i64 t, .slice A' n c', .slice B' m d']) ∧ Row w' w.heap.size 148 2 Slot.cells A' n c' ts ∧ Row w' w.heap.size 151 4 Request.cells B' m d' rs) ∧ Bw w w' := by
  go_enter Tryz.func82, Tryz.ntmps82
  go_wp2_with (first | (go_at_call 123; refine (c_toReceiveWindow t _ _ _ ts _ hn (h.keep (Bw.alloc (Bw.alloc (Bw.alloc (Bw.refl _) _) _) _))).mono ?_; rintro e w1 ⟨⟨A1, c1, rfl, row1⟩, hb1⟩; have hr1 := hb1.rule; have hf1 := hb1.frz; have hs1 : w.heap.size + 3 ≤ w1.heap.size := (by have := hb1.size; simpa using this); have fz1 : ∀ j, w1.frozen? ⟨w.heap.size + 1, j, none⟩ = false := (fun j => (hb1.frz ⟨w.heap.size + 1, j, none⟩ (by simp; try omega)).trans (by first | go_simp | simp [go_sem])); have fz2 : ∀ j, w1.frozen? ⟨w.heap.size + 2, j, none⟩ = false := (fun j => (hb1.frz ⟨w.heap.size + 2, j, none⟩ (by simp; try omega)).trans (by first | go_simp | simp [go_sem])); have b00 := hb1.cellv (p := ⟨w.heap.size, 0, none⟩) (v := .bool st) (by go_simp); have b01 := hb1.cellv (p := ⟨w.heap.size, 1, none⟩) (v := .int .i64 ck) (by go_simp); have b02 := hb1.cellv (p := ⟨w.heap.size, 2, none⟩) (v := .int .i64 t) (by go_simp); have b03 := hb1.cellv (p := ⟨w.heap.size, 3, none⟩) (v := .slice A n c) (by go_simp); have b04 := hb1.cellv (p := ⟨w.heap.size, 4, none⟩) (v := .slice B m d) (by go_simp); have b10 := hb1.cellv (p := ⟨w.heap.size + 1, 0, none⟩) (v := .bool false) (by go_simp); have b11 := hb1.cellv (p := ⟨w.heap.size + 1, 1, none⟩) (v := .int .i64 0) (by go_simp); have b12 := hb1.cellv (p := ⟨w.heap.size + 1, 2, none⟩) (v := .int .i64 0) (by go_simp); have b13 := hb1.cellv (p := ⟨w.heap.size + 1, 3, none⟩) (v := .slice none 0 0) (by go_simp); have b14 := hb1.cellv (p := ⟨w.heap.size + 1, 4, none⟩) (v := .slice none 0 0) (by go_simp); have b20 := hb1.cellv (p := ⟨w.heap.size + 2, 0, none⟩) (v := .bool st) (by go_simp); have b21 := hb1.cellv (p := ⟨w.heap.size + 2, 1, none⟩) (v := .int .i64 ck) (by go_simp); have b22 := hb1.cellv (p := ⟨w.heap.size + 2, 2, none⟩) (v := .int .i64 0) (by go_simp); have b23 := hb1.cellv (p := ⟨w.heap.size + 2, 3, none⟩) (v := .slice none 0 0) (by go_simp); have b24 := hb1.cellv (p := ⟨w.heap.size + 2, 4, none⟩) (v := .slice none 0 0) (by go_simp); have hb : Bw w w1 := Bw.trans (Bw.alloc (Bw.alloc (Bw.alloc (Bw.refl _) _) _) _) hb1; have k5 := ((hb.setCell (p := ⟨w.heap.size + 2, 2, none⟩) (by simp) (.int .i64 t)).setCell (p := ⟨w.heap.size + 2, 3, none⟩) (by simp) (.slice A1 n c1))) | (go_at_call 124; refine (c_toRequestS _ _ _ rs _ hm (hh.keep k5)).mono ?_; rintro e w2 ⟨⟨B2, d2, rfl, row2⟩, hb2⟩; have hr2 := hb2.rule; have hf2 := hb2.frz; have hs2 : w1.heap.size ≤ w2.heap.size := (by have := hb2.size; simpa using this); have gz1 : ∀ j, w2.frozen? ⟨w.heap.size + 1, j, none⟩ = false := (fun j => (hb2.frz ⟨w.heap.size + 1, j, none⟩ (by simp; omega)).trans (by simp [go_sem, fz1])); have gz2 : ∀ j, w2.frozen? ⟨w.heap.size + 2, j, none⟩ = false := (fun j => (hb2.frz ⟨w.heap.size + 2, j, none⟩ (by simp; omega)).trans (by simp [go_sem, fz2])); have e10 := hb2.cellv (p := ⟨w.heap.size + 1, 0, none⟩) (v := .bool false) (by simp [go_sem, *]); have e11 := hb2.cellv (p := ⟨w.heap.size + 1, 1, none⟩) (v := .int .i64 0) (by simp [go_sem, *]); have e12 := hb2.cellv (p := ⟨w.heap.size + 1, 2, none⟩) (v := .int .i64 0) (by simp [go_sem, *]); have e13 := hb2.cellv (p := ⟨w.heap.size + 1, 3, none⟩) (v := .slice none 0 0) (by simp [go_sem, *]); have e14 := hb2.cellv (p := ⟨w.heap.size + 1, 4, none⟩) (v := .slice none 0 0) (by simp [go_sem, *]); have e20 := hb2.cellv (p := ⟨w.heap.size + 2, 0, none⟩) (v := .bool st) (by simp [go_sem, *]); have e21 := hb2.cellv (p := ⟨w.heap.size + 2, 1, none⟩) (v := .int .i64 ck) (by simp [go_sem, *]); have e22 := hb2.cellv (p := ⟨w.heap.size + 2, 2, none⟩) (v := .int .i64 t) (by simp [go_sem, *]); have e23 := hb2.cellv (p := ⟨w.heap.size + 2, 3, none⟩) (v := .slice A1 n c1) (by simp [go_sem, *]); have e24 := hb2.cellv (p := ⟨w.heap.size + 2, 4, none⟩) (v := .slice none 0 0) (by simp [go_sem, *])))
  have lt1 := row1.lt
  have lt2 := row2.lt
  have ne1 : ∀ (k : Nat), k < w.heap.size + 3 → ∀ x, A1 = some x → k ≠ x.block := fun k hk x hx he => by have := (lt1 x hx).1; simp at this; omega
  have ne2 : ∀ (k : Nat), k < w.heap.size + 3 → ∀ x, B2 = some x → k ≠ x.block := fun k hk x hx he => by have := (lt2 x hx).1; simp at this; omega
  have ra0 := row1.store ⟨w.heap.size + 2, 2, none⟩ (.int .i64 t) (ne1 (w.heap.size + 2) (by omega))
  have ra1 := ra0.store ⟨w.heap.size + 2, 3, none⟩ (.slice A1 n c1) (ne1 (w.heap.size + 2) (by omega))
  have rb0 := (ra1.keep hb2).store ⟨w.heap.size + 2, 4, none⟩ (.slice B2 m d2) (ne1 (w.heap.size + 2) (by omega))
  have rb1 := rb0.store ⟨w.heap.size + 1, 0, none⟩ (.bool st) (ne1 (w.heap.size + 1) (by omega))
  have rb2 := rb1.store ⟨w.heap.size + 1, 1, none⟩ (.int .i64 ck) (ne1 (w.heap.size + 1) (by omega))
  have rb3 := rb2.store ⟨w.heap.size + 1, 2, none⟩ (.int .i64 t) (ne1 (w.heap.size + 1) (by omega))
  have rb4 := rb3.store ⟨w.heap.size + 1, 3, none⟩ (.slice A1 n c1) (ne1 (w.heap.size + 1) (by omega))
  have rb5 := rb4.store ⟨w.heap.size + 1, 4, none⟩ (.slice B2 m d2) (ne1 (w.heap.size + 1) (by omega))
  have rc0 := row2.store ⟨w.heap.size + 2, 4, none⟩ (.slice B2 m d2) (ne2 (w.heap.size + 2) (by omega))
  have rc1 := rc0.store ⟨w.heap.size + 1, 0, none⟩ (.bool st) (ne2 (w.heap.size + 1) (by omega))
  have rc2 := rc1.store ⟨w.heap.size + 1, 1, none⟩ (.int .i64 ck) (ne2 (w.heap.size + 1) (by omega))
  have rc3 := rc2.store ⟨w.heap.size + 1, 2, none⟩ (.int .i64 t) (ne2 (w.heap.size + 1) (by omega))
  have rc4 := rc3.store ⟨w.heap.size + 1, 3, none⟩ (.slice A1 n c1) (ne2 (w.heap.size + 1) (by omega))
  have rc5 := rc4.store ⟨w.heap.size + 1, 4, none⟩ (.slice B2 m d2) (ne2 (w.heap.size + 1) (by omega))
  have k7 := (((((((k5.trans hb2).setCell (p := ⟨w.heap.size + 2, 4, none⟩) (by simp) (.slice B2 m d2)).setCell (p := ⟨w.heap.size + 1, 0, none⟩) (by simp) (.bool st)).setCell (p := ⟨w.heap.size + 1, 1, none⟩) (by simp) (.int .i64 ck)).setCell (p := ⟨w.heap.size + 1, 2, none⟩) (by simp) (.int .i64 t)).setCell (p := ⟨w.heap.size + 1, 3, none⟩) (by simp) (.slice A1 n c1)).setCell (p := ⟨w.heap.size + 1, 4, none⟩) (by simp) (.slice B2 m d2))
  exact bodyPost_ret (v := .agg #[.bool st, .int .i64 ck, .int .i64 t, .slice A1 n c1, .slice B2 m d2]) (by simp [results, Tryz.results82, go_sem, e10, e11, e12, e13, e14, e20, e21, e22, e23, e24]) rfl ⟨⟨_, _, _, _, rfl, rb5.mono (by simp; omega), rc5.mono (by simp; omega)⟩, k7⟩
set_option maxRecDepth 100000 in
theorem c_eqReceiver (st : Bool) (ck t : Int) (A A' : Option Addr) (n c c' : Nat) (ts : List Slot) (B B' : Option Addr) (m d d' : Nat) (rs : List Request) (w : World) (hn : n ≤ 9223372036854775807) (hm : m ≤ 9223372036854775807) (h : Rd w A n 2 (ts.map Slot.cells)) (h' : Rd w A' n 2 (ts.map Slot.cells)) (hh : Rd w B m 4 (rs.map Request.cells)) (hh' : Rd w B' m 4 (rs.map Request.cells)) :
    Calls Tryz.prog 58 #[.agg #[.bool st, .int .i64 ck, .int .i64 t, .slice A n c, .slice B m d], .agg #[.bool st, .int .i64 ck, .int .i64 t, .slice A' n c', .slice B' m d']] w fun e w' => e = .returned (.bool true) ∧ Bw w w' := by
  have b2 : Bw w ((w.alloc (.cells #[.bool st, .int .i64 ck, .int .i64 t, .slice A n c, .slice B m d] 96)).alloc (.cells #[.bool st, .int .i64 ck, .int .i64 t, .slice A' n c', .slice B' m d'] 96)) := Bw.alloc (Bw.alloc (Bw.refl _) _) _
  cases st
  all_goals
    go_enter Tryz.func58, Tryz.ntmps58
    go_wp2_with (first | (go_at_call 105; refine (c_eqReceiveWindow t _ _ _ _ _ ts _ hn (h.keep b2) (h'.keep b2)).mono ?_; rintro e w1 ⟨rfl, hb1⟩; have d5 := hb1.cellv (p := ⟨w.heap.size, 4, none⟩) (v := .slice B m d) (by go_simp); have f5 := hb1.cellv (p := ⟨w.heap.size + 1, 4, none⟩) (v := .slice B' m d') (by go_simp)) | (go_at_call 106; refine (c_eqRequestS _ _ _ _ _ rs _ hm (hh.keep (b2.trans hb1)) (hh'.keep (b2.trans hb1))).mono ?_; rintro e w2 ⟨rfl, hb2⟩))
    go_ret
    exact ⟨rfl, (b2.trans hb1).trans hb2⟩
theorem trod_twoV {H : Type} {enc : TypeId × Value → H} {P : Program} {w : World} {t : TypeId} {f0 f1 : Field} {n : Nat} {a b : Value} {x : DataW H × List MemPlace} {base : Nat} {spare : Nat → Bool} {held : Bool} (ht : P.underlying t = some (.struct #[f0, f1])) (hone : oneCellFields P #[f0, f1] = true) (hC : P.cellsOf t = 2) (h : DataW.trod enc P w base spare held n t [a, b] = some x) :
    ∃ (y0 y1 : DataW H × List MemPlace) (m : Nat), DataW.trod enc P w base spare held m f0.type [a] = some y0 ∧ DataW.trod enc P w base spare held m f1.type [b] = some y1 := by
  obtain ⟨a', b', y0, y1, m, hab, h0, h1⟩ := trod_two ht hone hC h
  simp only [List.cons.injEq, and_true] at hab
  obtain ⟨rfl, rfl⟩ := hab
  exact ⟨y0, y1, m, h0, h1⟩
set_option maxRecDepth 100000 in
theorem open_receiver {H : Type} {enc : TypeId × Value → H} {w : World} {v : Value} {d : DataW H} {p : List MemPlace} (hv : Value.okWide Tryz.prog w .any 0 117 v) (h : DataW.Trod enc Tryz.prog w 0 (fun _ => true) true 117 v d p) :
    ∃ (st : Bool) (ck t : Int) (A : Option Addr) (n c : Nat) (ts : List Slot) (B : Option Addr) (m d : Nat) (rs : List Request), v = .agg #[.bool st, .int .i64 ck, .int .i64 t, .slice A n c, .slice B m d] ∧ n ≤ c ∧ c ≤ maxLen ∧ fitL ts ∧ Rd w A n 2 (ts.map Slot.cells) ∧ m ≤ d ∧ d ≤ maxLen ∧ Rd w B m 4 (rs.map Request.cells) := by
  obtain ⟨cs, rfl, hsz⟩ := okWide_struct Tryz.underlying117 hv
  have hC : Tryz.prog.cellsOf 117 = 5 := by kernel_rfl
  have cW : Tryz.prog.cellsOf 114 = 2 := by kernel_rfl
  have cI : Tryz.prog.cellsOf 3 = 1 := by kernel_rfl
  have cB : Tryz.prog.cellsOf 4 = 1 := by kernel_rfl
  have cH : Tryz.prog.cellsOf 115 = 1 := by kernel_rfl
  rw [hC] at hsz
  obtain ⟨l⟩ := cs
  match l, hsz with
  | [a0, a1, a2, a3, a4], _ =>
    obtain ⟨fuel, hf⟩ := h
    obtain ⟨xs, k, _, _, hl, hlen, hf2⟩ := DataW.trod_struct Tryz.underlying117 hf
    have h0 := hf2 0 _ rfl
    have h1 := hf2 1 _ rfl
    have h2 := hf2 2 _ rfl
    have h3 := hf2 3 _ rfl
    match xs, hlen with
    | [y0, y1, y2, y3], _ =>
      simp [Value.cells, cB] at h0
      simp [Value.cells, cI] at h1
      simp [Value.cells, cW] at h2
      simp [Value.cells, cH] at h3
      obtain ⟨st, hst, _⟩ := DataW.trod_bool Tryz.underlying4 h0
      obtain ⟨ck, hck, _⟩ := DataW.trod_int Tryz.underlying3 h1
      obtain ⟨u0, u1, k2, g0, g1⟩ := trod_twoV Tryz.underlying114 (by kernel_rfl) (by kernel_rfl) h2
      obtain ⟨t, ht, _⟩ := DataW.trod_int Tryz.underlying3 g0
      obtain ⟨A, n, c, ts, rfl, e1, e2, e3⟩ := trod_rd (sz := 2) (T := { s : Slot // s.item.size ≤ maxLen }) (fun t => t.1.cells) Tryz.underlying112 (by kernel_rfl) (by omega) (fun n cs x hx => trod_slot hx) g1
      obtain ⟨B, m, d, rs, hB, f1, f2, f3⟩ := trod_rd (sz := 4) Request.cells Tryz.underlying115 (by kernel_rfl) (by omega) (fun n cs x hx => trod_request hx) h3
      simp only [List.cons.injEq, and_true] at hst hck ht
      subst hst hck ht hB
      refine ⟨st, ck, t, A, n, c, ts.map (·.1), B, m, d, rs, rfl, e1, e2, fun k hk => ?_, by simpa [List.map_map, Function.comp_def] using e3, f1, f2, f3⟩
      rw [slotAt_lt hk]
      simp only [List.getElem_map]
      exact (ts[k]'(by simpa using hk)).2
end Go.Proofs.YtpjljbhodnlhmaaGreatDoor
