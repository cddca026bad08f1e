
/- Paths in trees, and which nodes a tree has. -/
import Derived.Test.YthciecmofgoebaaI3
import Derived.Test.YthciecmofgoebaaP1
namespace Go.Proofs.Ythciecmofgoebaa
open Go.RowKit
def up (ps : List Int) : Nat → Int → List Int
  | 0, _ => []
  | f + 1, x => if x < 0 then [] else x :: up ps f (intAt ps x.toNat)
theorem up_end (ps : List Int) (f : Nat) {x : Int} (h : x < 0) : up ps f x = [] := by cases f <;> simp [up, h]
theorem up_step (ps : List Int) {f m : Nat} (h : m < f) : up ps f m = (m : Int) :: up ps (f - 1) (intAt ps m) := by
  obtain ⟨g, rfl⟩ : ∃ g, f = g + 1 := ⟨f - 1, by omega⟩
  have : ¬ (m : Int) < 0 := by omega
  simp [up, this]
theorem up_len (ps : List Int) (f : Nat) (x : Int) : (up ps f x).length ≤ f := by
  induction f generalizing x with
  | zero => simp [up]
  | succ f ih =>
    simp only [up]; split
    · simp
    · have := ih (intAt ps x.toNat); simp; omega
def pathP (ps : List Int) (x : Int) : List Int := (up ps 9 x).reverse
theorem pathP_len (ps : List Int) (x : Int) : (pathP ps x).length ≤ 9 := by simpa [pathP] using up_len ps 9 x
theorem c_path (A : Option Addr) (n c : Nat) (ps : List Int) (x : Int) (hg : goodP ps = true) (x0 : 0 ≤ x) (x1 : x < n) (w : World) (h : Rd w A n 1 (ps.map icell)) :
    Calls Try.prog 22 #[.agg #[.slice A n c], .int .i64 x] w fun e w' => (∃ A' c', e = .returned (.slice A' (pathP ps x).length c') ∧ Row w' w.heap.size 3 1 icell A' (pathP ps x).length c' (pathP ps x)) ∧ Bw w w' := by
  have hl := Lib.hid h.ilen
  have hn8 : n ≤ 8 := by rw [← hl.out]; exact (goodP_iff.1 hg).1.2
  have Hlt := Lib.hid (show ∀ k, k < n → -1 ≤ intAt ps k ∧ intAt ps k < k from fun k hk => goodP_lt hg (by rw [hl.out]; exact hk))
  obtain ⟨b, off, rfl, hb, hc⟩ := h.ints (by omega)
  have Hc := Lib.hid hc
  clear hc
  have Hlen := Lib.hid (up_len ps 9 x)
  go_enter Try.func22, Try.ntmps22
  go_wp2
  go_loopw [1, 5] (fun xv ov wr => ∃ (y : Int) (f : Nat) (acc : List Int), xv = .int .i64 y ∧ -1 ≤ y ∧ y < n ∧ y < f ∧ acc.length ≤ 9 ∧ up ps 9 x = acc ++ up ps f y ∧ (∃ A c, ov = .slice A acc.length c ∧ Row wr (w.heap.size + 1) 3 1 icell A acc.length c acc) ∧ Bw (w.alloc (.cells #[.slice (some ⟨b, off, none⟩) n c] 26)) wr) (fun xv _ _ => (intOf xv + 1).toNat)
  case atStart => exact ⟨x, 9, [], rfl, by omega, x1, by omega, by simp, by simp, ⟨_, _, rfl, Row.nil _ _ _ _ _⟩, Bw.refl _⟩
  case round =>
    obtain ⟨y, f, acc, rfl, y0, y1, yf, hal, hup, ⟨A', c', rfl, hrow⟩, hbl⟩ := hrel
    have Hup := Lib.hid hup
    clear hup
    by_cases hy : 0 ≤ y
    · obtain ⟨m, rfl⟩ : ∃ m : Nat, y = m := ⟨y.toNat, by omega⟩
      have hmn : m < n := by omega
      have ⟨p0, p1⟩ := Hlt.out m hmn
      have hs0 : w.heap.size + 1 ≤ wr.heap.size := by have := hbl.size; simpa using this
      have lt' := hrow.lt
      go_wp2_with ((at_builtin; refine append_int rfl _ _ rfl _ _ _ _ rfl hrow _ _ rfl rfl ?_ ?_ ?_; omega; exact hs0; intro A2 c2 w2 hrow2 hg2 hmv2); have hbw2 : Bw (w.alloc (.cells #[.slice (some ⟨b, off, none⟩) n c] 26)) w2 := Bw.ofRow hbl hg2 (fun x hx => by have := (lt' x hx).1; simpa using this); have q0 := hbw2.cellv (p := ⟨b, off + m, none⟩) (v := .int .i64 (intAt ps m)) (by go_simp; exact Hc.out m hmn); have b0 := hbw2.cellv (p := ⟨w.heap.size, 0, none⟩) (v := .slice (some ⟨b, off, none⟩) n c) (by go_simp))
      go_roundw
      case rel =>
        have hal2 : acc.length + 1 ≤ 9 := by
          have h1 := Hup.out
          rw [up_step ps (show m < f by omega)] at h1
          have h2 := congrArg List.length h1
          simp only [List.length_append, List.length_cons] at h2
          have := Hlen.out
          omega
        refine ⟨intAt ps m, f - 1, acc ++ [(m : Int)], rfl, p0, by omega, by omega, by simp; omega, ?_, ⟨A2, c2, by simp, by simpa using hrow2⟩, hbw2⟩
        rw [Hup.out, up_step ps (show m < f by omega)]; simp
      case measure => simp [intOf]; omega
    · have HE := Lib.hid (show up ps 9 x = acc by rw [Hup.out, up_end ps f (by omega)]; simp)
      go_wp2_with (go_at_call 37; refine (c_Reverse _ _ _ _ _ _ (by omega) hrow).mono ?_; rintro e w2 ⟨rfl, row2, hg2⟩)
      go_ret
      have hP : pathP ps x = acc.reverse := by rw [pathP, HE.out]
      have lt' := hrow.lt
      rw [hP, List.length_reverse]
      exact ⟨⟨_, _, rfl, row2.mono (by omega)⟩, Bw.trans (Bw.alloc (Bw.refl _) _) (Bw.ofRow hbl hg2 (fun x hx => by have := (lt' x hx).1; simpa using this))⟩
theorem c_l6Path (A : Option Addr) (n c : Nat) (ps : List Int) (x : Int) (hg : goodP ps = true) (x0 : 0 ≤ x) (x1 : x < n) (w : World) (h : Rd w A n 1 (ps.map icell)) :
    Calls Try.prog 24 #[.agg #[.slice A n c], .int .i64 x] w fun e w' => (∃ A' c', e = .returned (.slice A' (pathP ps x).length c') ∧ Row w' w.heap.size 3 1 icell A' (pathP ps x).length c' (pathP ps x)) ∧ Bw w w' := by
  have hl := Lib.hid h.ilen
  have hn8 : n ≤ 8 := by rw [← hl.out]; exact (goodP_iff.1 hg).1.2
  have Hlt := Lib.hid (show ∀ k, k < n → -1 ≤ intAt ps k ∧ intAt ps k < k from fun k hk => goodP_lt hg (by rw [hl.out]; exact hk))
  obtain ⟨b, off, rfl, hb, hc⟩ := h.ints (by omega)
  have Hc := Lib.hid hc
  clear hc
  obtain ⟨i0, hi, hz0, hz1, hz2⟩ := info_parts infoInt
  have Hi := Lib.hid hi
  have Hz0 := Lib.hid hz0
  have Hz1 := Lib.hid hz1
  have Hz2 := Lib.hid hz2
  clear hi hz0 hz1 hz2
  have Hlen := Lib.hid (up_len ps 9 x)
  go_enter Try.func24, Try.ntmps24
  go_wp2
  go_loopw [1, 5] (fun xv ov wr => ∃ (y : Int) (f : Nat) (acc : List Int), xv = .int .i64 y ∧ -1 ≤ y ∧ y < n ∧ y < f ∧ acc.length ≤ 9 ∧ up ps 9 x = acc ++ up ps f y ∧ (∃ A c, ov = .slice A acc.length c ∧ Row wr (w.heap.size + 1) 3 1 icell A acc.length c acc.reverse) ∧ Bw (w.alloc (.cells #[.slice (some ⟨b, off, none⟩) n c] 26)) wr) (fun xv _ _ => (intOf xv + 1).toNat)
  case atStart => exact ⟨x, 9, [], rfl, by omega, x1, by omega, by simp, by simp, ⟨_, _, rfl, by have := Row.empty (T := Int) (w.alloc (.cells #[.slice (some ⟨b, off, none⟩) n c] 26)) (w.heap.size + 1) 3 1 icell (by simp); simpa using this⟩, Bw.alloc (Bw.refl _) _⟩
  case round =>
    obtain ⟨y, f, acc, rfl, y0, y1, yf, hal, hup, ⟨A', c', rfl, hrow⟩, hbl⟩ := hrel
    have Hup := Lib.hid hup
    clear hup
    by_cases hy : 0 ≤ y
    · obtain ⟨m, rfl⟩ : ∃ m : Nat, y = m := ⟨y.toNat, by omega⟩
      have hmn : m < n := by omega
      have ⟨p0, p1⟩ := Hlt.out m hmn
      have hs0 : w.heap.size + 1 ≤ wr.heap.size := by have := hbl.size; simpa using this
      go_wp2_with (at_builtin; refine wpList_append_rd (enc := icell) rfl _ _ 24 rfl wr.heap.size 3 i0 (.int .i64 0) 1 8 Try.underlying24 Hi.out Hz0.out Hz1.out Hz2.out rfl (by decide) (fun _ => rfl) ?_ _ _ _ _ rfl (Row.one wr #[.int .i64 m] 3 1 (m : Int) rfl rfl) _ acc.length _ acc.reverse rfl ((hrow.keep (Bw.alloc (Bw.refl _) _)).rd (fun _ => rfl)) ?_ ?_ ?_ ?_; (intro t u hu; simp [icell] at hu; subst hu; rfl); (unfold maxLen; omega); omega; simp; intro A2 c2 w2 hrow2 hg2 hmv2 hnn2; have hbw2 : Bw (w.alloc (.cells #[.slice (some ⟨b, off, none⟩) n c] 26)) w2 := Bw.ofRow (hbl.alloc _) hg2 (fun x hx => by simp at hx; subst hx; simpa using hs0); have q0 := hbw2.cellv (p := ⟨b, off + m, none⟩) (v := .int .i64 (intAt ps m)) (by go_simp; exact Hc.out m hmn); have b0 := hbw2.cellv (p := ⟨w.heap.size, 0, none⟩) (v := .slice (some ⟨b, off, none⟩) n c) (by go_simp))
      go_roundw
      case rel =>
        have hal2 : acc.length + 1 ≤ 9 := by
          have h1 := Hup.out
          rw [up_step ps (show m < f by omega)] at h1
          have h2 := congrArg List.length h1
          simp only [List.length_append, List.length_cons] at h2
          have := Hlen.out
          omega
        refine ⟨intAt ps m, f - 1, acc ++ [(m : Int)], rfl, p0, by omega, by omega, by simp; omega, ?_, ⟨A2, c2, by simp; omega, ?_⟩, hbw2⟩
        · rw [Hup.out, up_step ps (show m < f by omega)]; simp
        · have := hrow2.mono hs0
          rw [Nat.add_comm 1 acc.length] at this
          simpa using this
      case measure => simp [intOf]; omega
    · have HE := Lib.hid (show up ps 9 x = acc by rw [Hup.out, up_end ps f (by omega)]; simp)
      go_wp2
      go_ret
      have hP : pathP ps x = acc.reverse := by rw [pathP, HE.out]
      rw [hP, List.length_reverse]
      exact ⟨⟨_, _, rfl, hrow.mono (by omega)⟩, Bw.trans (Bw.alloc (Bw.refl _) _) hbl⟩
end Go.Proofs.Ythciecmofgoebaa
