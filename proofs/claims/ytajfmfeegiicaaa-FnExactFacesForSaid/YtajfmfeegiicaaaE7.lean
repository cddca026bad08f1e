
/- FacesFor: both sides; marks in an element. -/
import Derived.Test.YtajfmfeegiicaaaE6
namespace Go.Proofs.Ytajfmfeegiicaaa
open Go.RowKit
theorem oneInt : ∀ (t : Int) (u : Value), u ∈ icell t → u.oneCell' = true := by
  intro t u hu
  simp only [icell, List.mem_cons, List.not_mem_nil, or_false] at hu
  subst hu; rfl
set_option maxRecDepth 100000 in
theorem c_CloneInt (A : Option Addr) (n c : Nat) (ts : List Int) (w : World) (hm : n ≤ 1048576) (h : Rd w A n 1 (ts.map icell)) :
    Calls Try.prog 33 #[.slice A n c] w fun e w' => (∃ A' c', e = .returned (.slice A' n c') ∧ Row w' w.heap.size 3 1 icell A' n c' ts) ∧ Bw w w' := by
  have hl := h.len
  have kn := fun (W : World) (a : Option Addr) (l c : Nat) => Lib.run_eql_slice_nil (P := Try.prog) W 35 3 a l c 0 0 Try.underlying35
  cases A with
  | none =>
    have h0 : n = 0 := by
      rcases Nat.eq_zero_or_pos n with h0 | h0
      · exact h0
      · obtain ⟨b, off, hA, _⟩ := h.at_ h0; cases hA
    subst h0
    obtain rfl : ts = [] := by simpa using hl
    go_enter Try.func33, Try.ntmps33
    go_wp2
    go_ret
    exact ⟨⟨_, _, rfl, Row.nil _ _ _ _ _⟩, Bw.refl _⟩
  | some a =>
    obtain ⟨i0, hi, hz0, hz1, hz2⟩ := info_parts infoInt
    have Hi := Lib.hid hi
    have Hz0 := Lib.hid hz0
    have Hz1 := Lib.hid hz1
    have Hz2 := Lib.hid hz2
    clear hi hz0 hz1 hz2 hl
    go_enter Try.func33, Try.ntmps33
    go_wp2_with (at_builtin; refine wpList_append_rd (enc := icell) rfl _ _ 35 rfl w.heap.size 3 i0 _ 1 8 Try.underlying35 Hi.out Hz0.out Hz1.out Hz2.out rfl (by decide) (fun _ => rfl) ?_ _ _ _ _ rfl (Row.empty w w.heap.size _ _ _ (Nat.le_refl _)) _ n _ ts rfl (h.keep (Bw.alloc (Bw.refl _) _)) ?_ ?_ ?_ ?_; exact oneInt; (unfold maxLen; omega); omega; simp; intro A2 c2 w2 hrow2 hg2 hmv2 hnn2)
    go_ret
    refine ⟨⟨A2, c2, by simp, by simpa using hrow2⟩, Bw.ofRow (Bw.alloc (Bw.refl _) _) hg2 (fun x hx => by simp at hx; subst hx; simp)⟩
theorem c_l1Own (A : Option Addr) (n c : Nat) (ts : List Int) (w : World) (hm : n ≤ 1048576) (h : Rd w A n 1 (ts.map icell)) :
    Calls Try.prog 31 #[.slice A n c] w fun e w' => (∃ A' c', e = .returned (.slice A' n c') ∧ Row w' w.heap.size 3 1 icell A' n c' ts) ∧ Bw w w' := by
  have hl := h.len
  obtain ⟨i0, hi, hz0, hz1, hz2⟩ := info_parts infoInt
  have Hi := Lib.hid hi
  have Hz0 := Lib.hid hz0
  have Hz1 := Lib.hid hz1
  have Hz2 := Lib.hid hz2
  clear hi hz0 hz1 hz2 hl
  go_enter Try.func31, Try.ntmps31
  go_wp2_with (at_builtin; refine wpList_append_rd (enc := icell) rfl _ _ 35 rfl w.heap.size 3 i0 _ 1 8 Try.underlying35 Hi.out Hz0.out Hz1.out Hz2.out rfl (by decide) (fun _ => rfl) ?_ _ _ _ _ rfl (Row.empty w w.heap.size _ _ _ (Nat.le_refl _)) _ n _ ts rfl (h.keep (Bw.alloc (Bw.refl _) _)) ?_ ?_ ?_ ?_; exact oneInt; (unfold maxLen; omega); omega; simp; intro A2 c2 w2 hrow2 hg2 hmv2 hnn2)
  go_ret
  refine ⟨⟨A2, c2, by simp, by simpa using hrow2⟩, Bw.ofRow (Bw.alloc (Bw.refl _) _) hg2 (fun x hx => by simp at hx; subst hx; simp)⟩
theorem c_l14Find (ck : Int) (A : Option Addr) (n c : Nat) (es : List Ev) (ts : List Ent) (x : Int) {mm : Int} (hmm : posN es n x = mm) (w : World) (hn : n ≤ 9223372036854775807) (h : RdE w A n es ts) :
    Calls Try.prog 30 #[.agg #[.int .i64 ck, .slice A n c], .int .i64 x] w fun e w' => e = .returned (.int .i64 mm) ∧ Bw w w' := by
  subst hmm
  have hbx : Bw w (w.alloc (.cells #[.int .i64 ck, .slice A n c] 29)) := Bw.alloc (Bw.refl _) _
  go_enter Try.func30, Try.ntmps30
  go_wp2
  go_loopw [5] (fun i wr => ∃ k : Nat, k ≤ n ∧ i = .int .i64 k ∧ (∀ j, j < k → (evAt es j).num ≠ x) ∧ Bw (w.alloc (.cells #[.int .i64 ck, .slice A n c] 29)) wr) (fun i _ => n - (intOf i).toNat)
  case atStart => exact ⟨0, Nat.zero_le _, rfl, fun j hj => absurd hj (by omega), Bw.refl _⟩
  case round =>
    obtain ⟨k, hk, rfl, hst, hbl⟩ := hrel
    have Hst := Lib.hid hst
    clear hst
    have b1 := hbl.cellv (p := ⟨w.heap.size, 1, none⟩) (v := .slice A n c) (by go_simp)
    by_cases hkn : k < n
    · obtain ⟨b, off, rfl, hb, hc⟩ := (h.keep (hbx.trans hbl)).at_ (by omega)
      have ⟨h0, h1, h2⟩ := hc k (by omega)
      clear hc
      cases hpp : ((evAt es k).num == x)
      · have Hp := Lib.hid hpp
        go_wp2
        go_roundw
        case rel => exact ⟨k + 1, by omega, by go_num, snoc_lt Hst.out (by simpa using Hp.out), hbl⟩
        case measure => simp [intOf]; omega
      · have Hp := Lib.hid hpp
        go_wp2
        go_ret
        exact ⟨ret_int (posN_at hkn (by simpa using Hp.out) Hst.out).symm, hbx.trans hbl⟩
    · go_wp2
      go_ret
      exact ⟨ret_int (posN_none (fun j hj => Hst.out j (by omega))).symm, hbx.trans hbl⟩
theorem c_find (ck : Int) (A : Option Addr) (n c : Nat) (es : List Ev) (ts : List Ent) (x : Int) {mm : Int} (hmm : posN es n x = mm) (w : World) (hn : n ≤ 9223372036854775807) (h : RdE w A n es ts) :
    Calls Try.prog 32 #[.agg #[.int .i64 ck, .slice A n c], .int .i64 x] w fun e w' => e = .returned (.int .i64 mm) ∧ Bw w w' := by
  have HM := Lib.hid hmm
  clear hmm
  have hbx : Bw w ((w.alloc (.cells #[.int .i64 ck, .slice A n c] 29)).alloc (.cells #[.int .i64 x] 3)) := by (repeat (first | with_reducible assumption | exact Bw.refl _ | (with_reducible refine Bw.setCell ?_ (by simp) _) | (with_reducible refine Bw.alloc ?_ _) | (with_reducible refine Bw.drew ?_) | (with_reducible refine Bw.drewN ?_ _)))
  go_enter Try.func32, Try.ntmps32
  go_wp2_with (go_at_call 41; refine (c_IndexFuncFind _ n _ _ es ts x (w.heap.size + 1) HM.out _ (Nat.le_refl _) hn (h.keep hbx) (by go_simp)).mono ?_; rintro e w1 ⟨rfl, hb1⟩)
  go_ret
  exact ⟨rfl, hbx.trans hb1⟩
def facesC (ck : Int) (es : List Ev) (x : Int) : Bool := elB ck es && inR x 0 65535
def facesR (ck : Int) (es : List Ev) (x : Int) : List Int := if facesC ck es x = true ∧ 0 ≤ posN es es.length x then (evAt es (posN es es.length x).toNat).fs else []
theorem faces_no {ck : Int} {es : List Ev} {x : Int} (h : facesC ck es x = false) : facesR ck es x = [] := by simp [facesR, h]
theorem faces_none {ck : Int} {es : List Ev} {x : Int} (h : posN es es.length x = -1) : facesR ck es x = [] := by simp [facesR, h]
theorem faces_at {ck : Int} {es : List Ev} {x : Int} {k : Nat} (hc : facesC ck es x = true) (h : posN es es.length x = k) : facesR ck es x = (evAt es k).fs := by simp [facesR, h, hc]
set_option maxRecDepth 100000 in
theorem c_sFacesFor (ck : Int) (A : Option Addr) (n c : Nat) (es : List Ev) (ts : List Ent) (x : Int) {L : List Int} (hL : facesR ck es x = L) (w : World) (hm : n ≤ 1048576) (hm2 : ∀ k, k < n → (entAt ts k).n ≤ 1048576) (h : RdE w A n es ts) :
    Calls Try.prog 13 #[.agg #[.int .i64 ck, .slice A n c], .int .i64 x] w fun e w' => (∃ A' c', e = .returned (.tuple #[.slice A' L.length c', .bool (facesC ck es x)]) ∧ Row w' w.heap.size 3 1 icell A' L.length c' L) ∧ Bw w w' := by
  subst hL
  have hl := Lib.hid h.len
  have hbx : Bw w (w.alloc (.cells #[.int .i64 ck, .slice A n c] 29)) := Bw.alloc (Bw.refl _) _
  cases hg : elB ck es
  · have HC := Lib.hid (show facesC ck es x = false by simp [facesC, hg])
    rw [faces_no HC.out, HC.out]
    go_enter Try.func13, Try.ntmps13
    go_wp2_with (go_at_call 20; refine (c_l14Good ck _ _ _ es ts hg _ (by omega) (h.keep hbx)).mono ?_; rintro e w1 ⟨rfl, hb1⟩)
    go_ret2
    first | exact ⟨⟨_, _, rfl, Row.nil _ _ _ _ _⟩, hbx.trans hb1⟩ | exact ⟨⟨_, _, rfl, Row.empty w1 _ _ _ _ (hbx.trans hb1).size⟩, (hbx.trans hb1).alloc _⟩
  · have HG := Lib.hid hg
    cases hs : inR x 0 65535
    · have HC := Lib.hid (show facesC ck es x = false by simp [facesC, hs])
      rw [faces_no HC.out, HC.out]
      go_enter Try.func13, Try.ntmps13
      go_wp2_with (first | (go_at_call 20; refine (c_l14Good ck _ _ _ es ts hg _ (by omega) (h.keep hbx)).mono ?_; rintro e w1 ⟨rfl, hb1⟩) | (go_at_call 29; refine (c_l2Good _ hs _).mono ?_; rintro e w2 ⟨rfl, rfl⟩))
      go_ret2
      first | exact ⟨⟨_, _, rfl, Row.nil _ _ _ _ _⟩, hbx.trans hb1⟩ | exact ⟨⟨_, _, rfl, Row.empty w1 _ _ _ _ (hbx.trans hb1).size⟩, (hbx.trans hb1).alloc _⟩
    · have HC := Lib.hid (show facesC ck es x = true by simp [facesC, hs, hg])
      rcases posN_cases es n x with hp | ⟨k, hk, hp, _⟩
      · rw [faces_none (by rw [hl.out]; exact hp), HC.out]
        go_enter Try.func13, Try.ntmps13
        go_wp2_with (first | (go_at_call 20; refine (c_l14Good ck _ _ _ es ts hg _ (by omega) (h.keep hbx)).mono ?_; rintro e w1 ⟨rfl, hb1⟩; have d0 := hb1.cellv (p := ⟨w.heap.size, 0, none⟩) (v := .int .i64 ck) (by go_simp); have d1 := hb1.cellv (p := ⟨w.heap.size, 1, none⟩) (v := .slice A n c) (by go_simp)) | (go_at_call 29; refine (c_l2Good _ hs _).mono ?_; rintro e w2 ⟨rfl, rfl⟩) | (go_at_call 30; refine (c_l14Find ck _ _ _ es ts x hp _ (by omega) ((h.keep hbx).keep hb1)).mono ?_; rintro e w3 ⟨rfl, hb3⟩))
        go_ret2
        have hb03 := (hbx.trans hb1).trans hb3
        first | exact ⟨⟨_, _, rfl, Row.nil _ _ _ _ _⟩, hb03⟩ | exact ⟨⟨_, _, rfl, Row.empty w3 _ _ _ _ hb03.size⟩, hb03.alloc _⟩
      · have HI := Lib.hid ((h.keep hbx).ints hk)
        have HM := Lib.hid (hm2 k hk)
        rw [faces_at HC.out (by rw [hl.out]; exact hp), HC.out]
        obtain ⟨b, off, rfl, hb, hc⟩ := (h.keep hbx).at_ (by omega)
        have ⟨q0, q1, q2⟩ := hc k hk
        clear hc
        go_enter Try.func13, Try.ntmps13
        go_wp2_with (first | (go_at_call 20; refine (c_l14Good ck _ _ _ es ts hg _ (by omega) (h.keep hbx)).mono ?_; rintro e w1 ⟨rfl, hb1⟩; have d0 := hb1.cellv (p := ⟨w.heap.size, 0, none⟩) (v := .int .i64 ck) (by go_simp); have d1 := hb1.cellv (p := ⟨w.heap.size, 1, none⟩) (v := .slice (some ⟨b, off, none⟩) n c) (by go_simp); have p1 := hb1.cellv q1) | (go_at_call 29; refine (c_l2Good _ hs _).mono ?_; rintro e w2 ⟨rfl, rfl⟩) | (go_at_call 30; refine (c_l14Find ck _ _ _ es ts x hp _ (by omega) ((h.keep hbx).keep hb1)).mono ?_; rintro e w3 ⟨rfl, hb3⟩; have e1 := hb3.cellv d1; have r1 := hb3.cellv p1) | (go_at_call 31; refine (c_l1Own _ _ _ _ _ HM.out ((HI.out.keep hb1).keep hb3)).mono ?_; rintro e w4 ⟨⟨A4, c4, rfl, row4⟩, hb4⟩))
        go_ret2
        have hb03 := (hbx.trans hb1).trans hb3
        have hln := HI.out.ilen
        rw [hln]
        exact ⟨⟨_, _, rfl, row4.mono hb03.size⟩, hb03.trans hb4⟩
set_option maxRecDepth 100000 in
theorem c_iFacesFor (ck : Int) (A : Option Addr) (n c : Nat) (es : List Ev) (ts : List Ent) (x : Int) {L : List Int} (hL : facesR ck es x = L) (w : World) (hm : n ≤ 1048576) (hcap : n ≤ c) (hm2 : ∀ k, k < n → (entAt ts k).n ≤ 1048576) (h : RdE w A n es ts) :
    Calls Try.prog 14 #[.agg #[.int .i64 ck, .slice A n c], .int .i64 x] w fun e w' => (∃ A' c', e = .returned (.tuple #[.slice A' L.length c', .bool (facesC ck es x)]) ∧ Row w' w.heap.size 3 1 icell A' L.length c' L) ∧ Bw w w' := by
  subst hL
  have hl := Lib.hid h.len
  have hbx : Bw w (w.alloc (.cells #[.int .i64 ck, .slice A n c] 29)) := Bw.alloc (Bw.refl _) _
  cases hg : elB ck es
  · have HC := Lib.hid (show facesC ck es x = false by simp [facesC, hg])
    rw [faces_no HC.out, HC.out]
    go_enter Try.func14, Try.ntmps14
    go_wp2_with (go_at_call 9; refine (c_IsValidElement ck _ _ _ es ts hg _ (by omega) hcap (h.keep hbx)).mono ?_; rintro e w1 ⟨rfl, hb1⟩)
    go_ret2
    first | exact ⟨⟨_, _, rfl, Row.nil _ _ _ _ _⟩, hbx.trans hb1⟩ | exact ⟨⟨_, _, rfl, Row.empty w1 _ _ _ _ (hbx.trans hb1).size⟩, (hbx.trans hb1).alloc _⟩
  · have HG := Lib.hid hg
    cases hs : inR x 0 65535
    · have HC := Lib.hid (show facesC ck es x = false by simp [facesC, hs])
      rw [faces_no HC.out, HC.out]
      go_enter Try.func14, Try.ntmps14
      go_wp2_with (first | (go_at_call 9; refine (c_IsValidElement ck _ _ _ es ts hg _ (by omega) hcap (h.keep hbx)).mono ?_; rintro e w1 ⟨rfl, hb1⟩) | (go_at_call 22; refine (c_IsSerial _ hs _).mono ?_; rintro e w2 ⟨rfl, rfl⟩))
      go_ret2
      first | exact ⟨⟨_, _, rfl, Row.nil _ _ _ _ _⟩, hbx.trans hb1⟩ | exact ⟨⟨_, _, rfl, Row.empty w1 _ _ _ _ (hbx.trans hb1).size⟩, (hbx.trans hb1).alloc _⟩
    · have HC := Lib.hid (show facesC ck es x = true by simp [facesC, hs, hg])
      rcases posN_cases es n x with hp | ⟨k, hk, hp, _⟩
      · rw [faces_none (by rw [hl.out]; exact hp), HC.out]
        go_enter Try.func14, Try.ntmps14
        go_wp2_with (first | (go_at_call 9; refine (c_IsValidElement ck _ _ _ es ts hg _ (by omega) hcap (h.keep hbx)).mono ?_; rintro e w1 ⟨rfl, hb1⟩; have d0 := hb1.cellv (p := ⟨w.heap.size, 0, none⟩) (v := .int .i64 ck) (by go_simp); have d1 := hb1.cellv (p := ⟨w.heap.size, 1, none⟩) (v := .slice A n c) (by go_simp)) | (go_at_call 22; refine (c_IsSerial _ hs _).mono ?_; rintro e w2 ⟨rfl, rfl⟩) | (go_at_call 32; refine (c_find ck _ _ _ es ts x hp _ (by omega) ((h.keep hbx).keep hb1)).mono ?_; rintro e w3 ⟨rfl, hb3⟩))
        go_ret2
        have hb03 := (hbx.trans hb1).trans hb3
        first | exact ⟨⟨_, _, rfl, Row.nil _ _ _ _ _⟩, hb03⟩ | exact ⟨⟨_, _, rfl, Row.empty w3 _ _ _ _ hb03.size⟩, hb03.alloc _⟩
      · have HI := Lib.hid ((h.keep hbx).ints hk)
        have HM := Lib.hid (hm2 k hk)
        rw [faces_at HC.out (by rw [hl.out]; exact hp), HC.out]
        obtain ⟨b, off, rfl, hb, hc⟩ := (h.keep hbx).at_ (by omega)
        have ⟨q0, q1, q2⟩ := hc k hk
        clear hc
        go_enter Try.func14, Try.ntmps14
        go_wp2_with (first | (go_at_call 9; refine (c_IsValidElement ck _ _ _ es ts hg _ (by omega) hcap (h.keep hbx)).mono ?_; rintro e w1 ⟨rfl, hb1⟩; have d0 := hb1.cellv (p := ⟨w.heap.size, 0, none⟩) (v := .int .i64 ck) (by go_simp); have d1 := hb1.cellv (p := ⟨w.heap.size, 1, none⟩) (v := .slice (some ⟨b, off, none⟩) n c) (by go_simp); have p1 := hb1.cellv q1) | (go_at_call 22; refine (c_IsSerial _ hs _).mono ?_; rintro e w2 ⟨rfl, rfl⟩) | (go_at_call 32; refine (c_find ck _ _ _ es ts x hp _ (by omega) ((h.keep hbx).keep hb1)).mono ?_; rintro e w3 ⟨rfl, hb3⟩; have e1 := hb3.cellv d1; have r1 := hb3.cellv p1) | (go_at_call 33; refine (c_CloneInt _ _ _ _ _ HM.out ((HI.out.keep hb1).keep hb3)).mono ?_; rintro e w4 ⟨⟨A4, c4, rfl, row4⟩, hb4⟩))
        go_ret2
        have hb03 := (hbx.trans hb1).trans hb3
        have hln := HI.out.ilen
        rw [hln]
        exact ⟨⟨_, _, rfl, row4.mono hb03.size⟩, hb03.trans hb4⟩
end Go.Proofs.Ytajfmfeegiicaaa
