
/- Links: the two tests of one; the law's own helpers. -/
import Derived.Test.YtilgllbojdkhhaaDoorS2
namespace Go.Proofs.YtilgllbojdkhhaaDoor
open Go.RowKit Go.Shelf Go.ChangeShapes Go.WideShapes Go.ChangeAt Go.Joins Go.Deep
theorem grown_setCell (w : World) (a : Addr) (u : Value) : w.grownBy (w.setCell a u) (some a.block) :=
  ⟨rfl, rfl, rfl, by simp, fun k _ hk => heap_setCell_other w a k u (fun e => hk (by rw [e]))⟩
theorem Row.store {T : Type} {w : World} {lo : Nat} {e : TypeId} {sz : Nat} {enc : T → List Value} {A : Option Addr} {n c : Nat} {ts : List T} (h : Row w lo e sz enc A n c ts) (p : Addr) (u : Value) (ha : ∀ x, A = some x → p.block ≠ x.block) : Row (w.setCell p u) lo e sz enc A n c ts :=
  h.grown (grown_setCell w p u) (fun x hx he => ha x hx (Option.some.inj he))
/-- The four letters of fates: k, l, d, s. -/
def ftAt (b : UInt8) : Bool := decide (b.toNat = 107) || (decide (b.toNat = 108) || (decide (b.toNat = 100) || decide (b.toNat = 115)))
def ftB (s : ByteArray) : Bool := s.data.toList.all ftAt
theorem ftB_no {s : ByteArray} {k : Nat} (h : k < s.size) (hb : ftAt s[k] = false) : ftB s = false := by
  rw [ftB, List.all_eq_false]
  exact ⟨s[k], by rw [show s[k] = s.data[k]'h from rfl]; exact Array.getElem_mem_toList _, by simp [hb]⟩
theorem ftB_yes {s : ByteArray} (h : ∀ k (hk : k < s.size), ftAt s[k] = true) : ftB s = true := by
  rw [ftB, List.all_eq_true]
  intro b hb
  obtain ⟨k, hk, rfl⟩ := List.getElem_of_mem hb
  exact h k (by simpa using hk)
def ftL : List UInt8 := [107, 108, 100, 115]
theorem ftL_has (b : UInt8) : ftL.contains b = ftAt b := by
  rw [Bool.eq_iff_iff]
  simp only [ftL, List.contains_iff_mem, List.mem_cons, List.not_mem_nil, or_false, ftAt, Bool.or_eq_true, decide_eq_true_eq, ← UInt8.toNat_inj]
  rfl
theorem trim_nilF (l : List UInt8) : Lib.trimS l ftL = [] ↔ l.all ftAt = true := by
  have hf : (fun b => ftL.contains b) = ftAt := funext ftL_has
  unfold Lib.trimS Lib.trimLeftS Lib.trimRightS
  rw [hf, drop_nil, List.all_reverse]
  constructor
  · intro h
    have h1 : l.reverse.dropWhile ftAt = [] := by
      cases hd : l.reverse.dropWhile ftAt with
      | nil => rfl
      | cons a t =>
        have h2 : ftAt a = false := by
          have := List.head?_dropWhile_not ftAt l.reverse
          rw [hd] at this
          simpa using this
        rw [hd, List.all_cons, h2] at h
        cases h
    rw [drop_nil, List.all_reverse] at h1
    exact h1
  · intro h
    have : l.reverse.dropWhile ftAt = [] := drop_nil.2 (by rw [List.all_reverse]; exact h)
    rw [this]; rfl
theorem trim_eqF (s : ByteArray) : (⟨(Lib.trimS s.data.toList ftL).toArray⟩ : ByteArray).toList = [] ↔ ftB s = true := by
  rw [Lib.toList_data, ftB, ← trim_nilF]
def shortB (s : ByteArray) : Bool := decide (s.size ≤ 60)
def longS (s : ByteArray) : Bool := !shortB s
def shortsB (ss : List ByteArray) : Bool := ss.all shortB
theorem idx_shorts (ss : List ByteArray) : decide (0 ≤ idxPI longS ss) = !shortsB ss := by
  rw [idxPI]
  split
  · rename_i h
    have h1 : shortsB ss = false := by
      rw [shortsB, List.all_eq_false]
      have := List.findIdx_getElem (xs := ss) (p := longS) (w := h)
      exact ⟨_, List.getElem_mem _, by simpa [longS] using this⟩
    simp [h1]
  · rename_i h
    have h1 : shortsB ss = true := by
      rw [shortsB, List.all_eq_true]
      intro x hx
      have := mt List.findIdx_lt_length.2 h
      simp only [not_exists, not_and] at this
      have := this x hx
      simpa [longS] using this
    simp [h1]
theorem c_link1 (s : ByteArray) (hs : s.size ≤ maxLen) {r : Bool} (hr : longS s = r) (w : World) : Calls Tryd.prog 38 #[.string s] w fun e w' => e = .returned (.bool r) ∧ w = w' := by
  have HR := Lib.hid (show decide ((60 : Int) < s.size) = r by rw [← hr, longS, shortB]; by_cases h : s.size ≤ 60 <;> simp [h] <;> omega)
  clear hr
  unfold maxLen at hs
  go_enter Tryd.func38, Tryd.ntmps38
  go_wp2
  go_ret
  exact ⟨ret_bool HR.out, rfl⟩
theorem c_IndexFuncLinks (A : Option Addr) (n c : Nat) (ss : List ByteArray) (hf : fitS ss) {mm : Int} (hmm : idxPI longS ss = mm) (w : World) (hm : n ≤ 9223372036854775807) (h : Rd w A n 1 (ss.map scell)) :
    Calls Tryd.prog 52 #[.slice A n c, .func (.func 38) #[] #[]] w fun e w' => e = .returned (.int .i64 mm) ∧ w = w' := by
  subst hmm
  have hl := Lib.hid h.slen
  have HF := Lib.hid hf
  clear hf
  go_enter Tryd.func52, Tryd.ntmps52
  go_wp2
  go_loop [8] (fun i => ∃ k : Nat, k ≤ n ∧ i = .int .i64 k ∧ (∀ j (hj : j < k) (hj2 : j < ss.length), longS ss[j] = false)) (fun i => n - (intOf i).toNat)
  case atStart => exact ⟨0, Nat.zero_le _, rfl, fun j hj => absurd hj (by omega)⟩
  case round =>
    obtain ⟨k, hk, rfl, hst⟩ := hrel
    have Hst := Lib.hid hst
    clear hst
    by_cases hkn : k < n
    · obtain ⟨b, off, rfl, hb, hc⟩ := h.strs (by omega)
      have h0 := hc k hkn
      clear hc
      have hkt : k < ss.length := by rw [hl.out]; exact hkn
      have Ht := Lib.hid (strAt_lt hkt)
      have Hs := Lib.hid (HF.out k hkt)
      cases hp : longS (strAt ss k)
      · have Hp := Lib.hid hp
        go_wp2_with (go_at_call 38; refine (c_link1 _ Hs.out Hp.out _).mono ?_; rintro e w1 ⟨rfl, rfl⟩)
        go_round
        case rel =>
          refine ⟨k + 1, by omega, by go_num, ?_⟩
          intro j hj hj2
          rcases Nat.lt_succ_iff_lt_or_eq.1 hj with h9 | h9
          · exact Hst.out j h9 hj2
          · subst h9; rw [← Ht.out]; exact hp
        case measure => simp [intOf]; omega
      · have Hp := Lib.hid hp
        go_wp2_with (go_at_call 38; refine (c_link1 _ Hs.out Hp.out _).mono ?_; rintro e w1 ⟨rfl, rfl⟩)
        go_ret
        have he := idxP_eq (p := longS) (ts := ss) hkt (by rw [← Ht.out]; exact hp) (fun j hj => Hst.out j hj (by omega))
        exact ⟨ret_int (by simp [idxPI, he, hkt]), rfl⟩
    · go_wp2
      go_ret
      have he := idxP_none (p := longS) (ts := ss) (fun j hj => Hst.out j (by rw [hl.out] at hj; omega) hj)
      exact ⟨ret_int (by simp [idxPI, he]), rfl⟩
theorem c_ContainsFuncLinks (A : Option Addr) (n c : Nat) (ss : List ByteArray) (hf : fitS ss) {r : Bool} (hr : shortsB ss = r) (w : World) (hm : n ≤ 9223372036854775807) (h : Rd w A n 1 (ss.map scell)) :
    Calls Tryd.prog 37 #[.slice A n c, .func (.func 38) #[] #[]] w fun e w' => e = .returned (.bool (!r)) ∧ w = w' := by
  subst hr
  generalize hm : idxPI longS ss = mm
  have HR := Lib.hid (show decide (0 ≤ mm) = !shortsB ss by rw [← hm, idx_shorts])
  have HM := Lib.hid hm
  clear hm
  go_enter Tryd.func37, Tryd.ntmps37
  go_wp2_with (go_at_call 52; refine (c_IndexFuncLinks _ _ _ ss hf HM.out _ hm h).mono ?_; rintro e w1 ⟨rfl, rfl⟩)
  go_ret
  exact ⟨ret_bool HR.out, rfl⟩
def lkB (ss : List ByteArray) (f : ByteArray) (u : Int) : Bool := decide (ss.length ≤ 8) && (shortsB ss && (decide (f.size ≤ 40) && (ftB f && inR u 0 f.size)))
theorem lkB_iff {ss : List ByteArray} {f : ByteArray} {u : Int} : lkB ss f u = true ↔ ss.length ≤ 8 ∧ shortsB ss = true ∧ f.size ≤ 40 ∧ ftB f = true ∧ inR u 0 f.size = true := by simp [lkB]
set_option maxRecDepth 100000 in
theorem c_IsValidLink (A : Option Addr) (n c : Nat) (ss : List ByteArray) (hf : fitS ss) (f : ByteArray) (hfs : f.size ≤ maxLen) (u : Int) {r : Bool} (hr : lkB ss f u = r) (w : World) (hm : n ≤ 9223372036854775807) (h : Rd w A n 1 (ss.map scell)) :
    Calls Tryd.prog 12 #[.agg #[.slice A n c, .string f, .int .i64 u]] w fun e w' => e = .returned (.bool r) ∧ Bw w w' := by
  subst hr
  unfold maxLen at hfs
  have hl := Lib.hid h.slen
  have hbx : Bw w (w.alloc (.cells #[.slice A n c, .string f, .int .i64 u] 27)) := Bw.alloc (Bw.refl _) _
  by_cases h1 : n ≤ 8
  · cases h2 : shortsB ss
    · go_enter Tryd.func12, Tryd.ntmps12
      go_wp2_with (go_at_call 37; refine (c_ContainsFuncLinks _ _ _ ss hf h2 _ hm (h.keep hbx)).mono ?_; rintro e w1 ⟨rfl, rfl⟩)
      go_ret
      exact ⟨ret_bool (by simp [lkB, h2]), hbx⟩
    · by_cases h3 : f.size ≤ 40
      · have hcon := fun W => Any.strings_Trim_laid lays160 (by kernel_rfl) f ⟨#[107, 108, 100, 115]⟩ W (by omega) (by decide) (ascii_of_all (by decide))
        change ∀ W, Calls Tryd.prog 39 _ W (fun e w' => e = .returned (.string ⟨(Lib.trimS f.data.toList ftL).toArray⟩) ∧ Below W.heap.size W w') at hcon
        have HT := Lib.hid (trim_eqF f)
        generalize (⟨(Lib.trimS f.data.toList ftL).toArray⟩ : ByteArray) = tt at hcon HT
        have HC := Lib.hid hcon
        clear hcon
        cases h4 : ftB f
        · have ht : ¬ tt.toList = [] := by rw [HT.out, h4]; simp
          go_enter Tryd.func12, Tryd.ntmps12
          go_wp2_with (first | (go_at_call 37; refine (c_ContainsFuncLinks _ _ _ ss hf h2 _ hm (h.keep hbx)).mono ?_; rintro e w1 ⟨rfl, rfl⟩) | (go_at_call 39; refine (HC.out _).mono ?_; rintro e w2 ⟨rfl, hb2⟩))
          go_ret
          exact ⟨ret_bool (by simp [lkB, h4, ht]), hbx.trans ⟨hb2⟩⟩
        · have ht : tt.toList = [] := by rw [HT.out, h4]
          generalize h5 : inR u 0 f.size = r5
          have HE := Lib.hid (show lkB ss f u = r5 by simp [lkB, hl.out, h1, h2, h3, h4, h5])
          rw [HE.out]
          go_enter Tryd.func12, Tryd.ntmps12
          go_wp2_with (first | (go_at_call 37; refine (c_ContainsFuncLinks _ _ _ ss hf h2 _ hm (h.keep hbx)).mono ?_; rintro e w1 ⟨rfl, rfl⟩) | (go_at_call 39; refine (HC.out _).mono ?_; rintro e w2 ⟨rfl, hb2⟩; have hb2' := Bw.mk hb2; have d0 := hb2'.cellv (p := ⟨w.heap.size, 0, none⟩) (v := .slice A n c) (by go_simp); have d1 := hb2'.cellv (p := ⟨w.heap.size, 1, none⟩) (v := .string f) (by go_simp); have d2 := hb2'.cellv (p := ⟨w.heap.size, 2, none⟩) (v := .int .i64 u) (by go_simp)) | (go_at_call 40; refine (c_within _ _ _ h5 _).mono ?_; rintro e w3 ⟨rfl, rfl⟩))
          go_ret
          exact ⟨ret_bool (by simp [ht]), hbx.trans ⟨hb2⟩⟩
      · go_enter Tryd.func12, Tryd.ntmps12
        go_wp2_with (go_at_call 37; refine (c_ContainsFuncLinks _ _ _ ss hf h2 _ hm (h.keep hbx)).mono ?_; rintro e w1 ⟨rfl, rfl⟩)
        go_ret
        exact ⟨ret_bool (by simp [lkB, h3]), hbx⟩
  · go_enter Tryd.func12, Tryd.ntmps12
    go_wp2_with fail
    go_ret
    exact ⟨ret_bool (by simp [lkB, hl.out]; intros; omega), hbx⟩
end Go.Proofs.YtilgllbojdkhhaaDoor
