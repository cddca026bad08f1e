
/- TickRequests: three rows of the call's own that lie apart; the reference's side. -/
import Derived.Test.YtnejeigcdogolaaR5
import Derived.Test.YtnejeigcdogolaaK13
import Derived.Test.YtnejeigcdogolaaI
namespace Go.Proofs.Ytnejeigcdogolaa
open Go.RowKit
def Apart (A B : Option Addr) : Prop := ∀ x y, A = some x → B = some y → x.block ≠ y.block
theorem Apart.symm {A B : Option Addr} (h : Apart A B) : Apart B A := fun x y hx hy he => h y x hy hx he.symm
theorem Apart.noneL {B : Option Addr} : Apart none B := fun x y hx => by cases hx
theorem Apart.noneR {A : Option Addr} : Apart A none := fun x y _ hy => by cases hy
section
variable {T : Type} {w w' : World} {lo : Nat} {e : TypeId} {sz : Nat} {enc : T → List Value} {A B : Option Addr} {n c : Nat} {ts : List T}
theorem Row.apart (h : Row w lo e sz enc B n c ts) {m d : Nat} (hg : w.grownBy w' (Value.ownBlock (.slice A m d))) (ha : Apart A B) : Row w' lo e sz enc B n c ts :=
  h.grown hg (fun x hx he => by
    cases A with
    | none => simp [Value.ownBlock] at he
    | some y => simp only [Value.ownBlock, Option.some.injEq] at he; exact ha y x rfl hx he)
theorem Row.notOwn (h : Row w lo e sz enc B n c ts) {g m d : Nat} (hg : w.heap.size ≤ g) : some g ≠ Value.ownBlock (.slice B m d) := fun he => by
  cases B with
  | none => simp [Value.ownBlock] at he
  | some y =>
    have := (h.lt y rfl).2
    simp only [Value.ownBlock, Option.some.injEq] at he
    omega
theorem Apart.moved (ha : Apart A B) (h : Row w lo e sz enc B n c ts) {A2 : Option Addr} {s : Nat} (hs : w.heap.size ≤ s) (hm : ∃ x, A2 = some x ∧ (s < x.block ∨ ∃ y, A = some y ∧ x.block = y.block)) : Apart A2 B := fun x y hx hy => by
  obtain ⟨z, hz, h1⟩ := hm
  obtain rfl : z = x := by rw [hz] at hx; exact Option.some.inj hx
  rcases h1 with h1 | ⟨v, hv, h1⟩
  · have := (h.lt y hy).2; omega
  · rw [h1]; exact ha v y hv hy
end
def tkKeep (clock delay : Int) (r : Request) : Option Request :=
  if clock < r.til then some r else if r.tries = 3 then none else if r.state = 1 then some ⟨r.number, 2, clock + 3, r.tries + 1⟩ else some ⟨r.number, 1, clock + delay, r.tries⟩
def tkSent (clock : Int) (r : Request) : Bool := decide (¬ clock < r.til) && (decide (¬ r.tries = 3) && decide (r.state = 1))
def tkLost (clock : Int) (r : Request) : Bool := decide (¬ clock < r.til) && decide (r.tries = 3)
def tkOut (ts : List Request) (clock delay : Int) : List Request := ts.filterMap (tkKeep clock delay)
def tkS (ts : List Request) (clock : Int) : List Int := (ts.filter (tkSent clock)).map (·.number)
def tkL (ts : List Request) (clock : Int) : List Int := (ts.filter (tkLost clock)).map (·.number)
theorem tkOut_len (ts : List Request) (clock delay : Int) : (tkOut ts clock delay).length ≤ ts.length := List.length_filterMap_le _ _
theorem tkS_len (ts : List Request) (clock : Int) : (tkS ts clock).length ≤ ts.length := by simpa [tkS] using List.length_filter_le (tkSent clock) ts
theorem tkL_len (ts : List Request) (clock : Int) : (tkL ts clock).length ≤ ts.length := by simpa [tkL] using List.length_filter_le (tkLost clock) ts
theorem tkOut_succ {ts : List Request} {clock delay : Int} {k : Nat} (hk : k < ts.length) {o : Option Request} (h : tkKeep clock delay (requestAt ts k) = o) : tkOut (ts.take (k + 1)) clock delay = tkOut (ts.take k) clock delay ++ o.toList := by
  rw [requestAt_lt hk] at h
  rw [tkOut, List.take_succ_eq_append_getElem hk, List.filterMap_append, ← h, tkOut]
  congr 1
theorem tkS_succ {ts : List Request} {clock : Int} {k : Nat} (hk : k < ts.length) {b : Bool} (h : tkSent clock (requestAt ts k) = b) : tkS (ts.take (k + 1)) clock = tkS (ts.take k) clock ++ (if b then [(requestAt ts k).number] else []) := by
  rw [requestAt_lt hk] at h ⊢
  rw [tkS, List.take_succ_eq_append_getElem hk, List.filter_append, List.map_append, tkS]
  cases b <;> simp [h]
theorem tkL_succ {ts : List Request} {clock : Int} {k : Nat} (hk : k < ts.length) {b : Bool} (h : tkLost clock (requestAt ts k) = b) : tkL (ts.take (k + 1)) clock = tkL (ts.take k) clock ++ (if b then [(requestAt ts k).number] else []) := by
  rw [requestAt_lt hk] at h ⊢
  rw [tkL, List.take_succ_eq_append_getElem hk, List.filter_append, List.map_append, tkL]
  cases b <;> simp [h]
/-- The three rows. -/
structure Tri (w : World) (lo : Nat) (A : Option Addr) (c : Nat) (os : List Request) (B : Option Addr) (d : Nat) (ss : List Int) (C : Option Addr) (f : Nat) (ls : List Int) : Prop where
  a : Row w lo 37 4 Request.cells A os.length c os
  b : Row w lo 3 1 icell B ss.length d ss
  c : Row w lo 3 1 icell C ls.length f ls
  ab : Apart A B
  ac : Apart A C
  bc : Apart B C
theorem Tri.keep {w w' : World} {lo : Nat} {A : Option Addr} {c : Nat} {os : List Request} {B : Option Addr} {d : Nat} {ss : List Int} {C : Option Addr} {f : Nat} {ls : List Int} (h : Tri w lo A c os B d ss C f ls) (hb : Bw w w') : Tri w' lo A c os B d ss C f ls :=
  ⟨h.a.keep hb, h.b.keep hb, h.c.keep hb, h.ab, h.ac, h.bc⟩
theorem Tri.mono {w : World} {lo lo' : Nat} {A : Option Addr} {c : Nat} {os : List Request} {B : Option Addr} {d : Nat} {ss : List Int} {C : Option Addr} {f : Nat} {ls : List Int} (h : Tri w lo A c os B d ss C f ls) (hl : lo' ≤ lo) : Tri w lo' A c os B d ss C f ls :=
  ⟨h.a.mono hl, h.b.mono hl, h.c.mono hl, h.ab, h.ac, h.bc⟩
theorem Tri.pushA {w w' : World} {lo : Nat} {A A2 : Option Addr} {c c2 : Nat} {os : List Request} {x : Request} {B : Option Addr} {d : Nat} {ss : List Int} {C : Option Addr} {f : Nat} {ls : List Int} (h : Tri w lo A c os B d ss C f ls) (hr : Row w' lo 37 4 Request.cells A2 (os.length + 1) c2 (os ++ [x])) (hg : w.grownBy w' (Value.ownBlock (.slice A os.length c))) (hm : ∃ z, A2 = some z ∧ (w.heap.size < z.block ∨ ∃ y, A = some y ∧ z.block = y.block)) : Tri w' lo A2 c2 (os ++ [x]) B d ss C f ls :=
  ⟨by simpa using hr, h.b.apart hg h.ab, h.c.apart hg h.ac, h.ab.moved h.b (Nat.le_refl _) hm, h.ac.moved h.c (Nat.le_refl _) hm, h.bc⟩
theorem Tri.pushB {w w' : World} {lo : Nat} {A : Option Addr} {c : Nat} {os : List Request} {B B2 : Option Addr} {d d2 : Nat} {ss : List Int} {x : Int} {C : Option Addr} {f : Nat} {ls : List Int} (h : Tri w lo A c os B d ss C f ls) (hr : Row w' lo 3 1 icell B2 (ss.length + 1) d2 (ss ++ [x])) (hg : w.grownBy w' (Value.ownBlock (.slice B ss.length d))) (hm : ∃ z, B2 = some z ∧ (w.heap.size < z.block ∨ ∃ y, B = some y ∧ z.block = y.block)) : Tri w' lo A c os B2 d2 (ss ++ [x]) C f ls :=
  ⟨h.a.apart hg h.ab.symm, by simpa using hr, h.c.apart hg h.bc, (h.ab.symm.moved h.a (Nat.le_refl _) hm).symm, h.ac, h.bc.moved h.c (Nat.le_refl _) hm⟩
theorem Tri.pushC {w w' : World} {lo : Nat} {A : Option Addr} {c : Nat} {os : List Request} {B : Option Addr} {d : Nat} {ss : List Int} {C C2 : Option Addr} {f f2 : Nat} {ls : List Int} {x : Int} (h : Tri w lo A c os B d ss C f ls) (hr : Row w' lo 3 1 icell C2 (ls.length + 1) f2 (ls ++ [x])) (hg : w.grownBy w' (Value.ownBlock (.slice C ls.length f))) (hm : ∃ z, C2 = some z ∧ (w.heap.size < z.block ∨ ∃ y, C = some y ∧ z.block = y.block)) : Tri w' lo A c os B d ss C2 f2 (ls ++ [x]) :=
  ⟨h.a.apart hg h.ac.symm, h.b.apart hg h.bc.symm, by simpa using hr, h.ab, (h.ac.symm.moved h.a (Nat.le_refl _) hm).symm, (h.bc.symm.moved h.b (Nat.le_refl _) hm).symm⟩
theorem Tri.nils (w : World) (lo : Nat) : Tri w lo none 0 [] none 0 [] none 0 [] := ⟨Row.nil _ _ _ _ _, Row.nil _ _ _ _ _, Row.nil _ _ _ _ _, Apart.noneL, Apart.noneL, Apart.noneL⟩
set_option maxRecDepth 100000 in
set_option maxHeartbeats 1000000 in
theorem c_l12Tick (A : Option Addr) (n c : Nat) (ts : List Request) (base clock delay : Int) (hg : goodR ts base = true) (k0 : 0 ≤ clock) (k1 : clock ≤ 9999) (y0 : 1 ≤ delay) (y1 : delay ≤ 8) (w : World) (hn : n ≤ 100) (h : Rd w A n 4 (ts.map Request.cells)) :
    Calls Try.prog 41 #[.slice A n c, .int .i64 clock, .int .i64 delay] w fun e w' => (∃ A c B d C f, e = .returned (.tuple #[.slice A (tkOut ts clock delay).length c, .slice B (tkS ts clock).length d, .slice C (tkL ts clock).length f]) ∧ Tri w' w.heap.size A c (tkOut ts clock delay) B d (tkS ts clock) C f (tkL ts clock)) ∧ Bw w w' := by
  have hl := Lib.hid h.requestlen
  have HB := Lib.hid (show ∀ j, j < ts.length → (0 ≤ (requestAt ts j).tries ∧ (requestAt ts j).tries ≤ 3) from fun j hj => (goodR_bd hg hj).2.2.2.2)
  have HT := Lib.hid (show ts.take n = ts by rw [List.take_of_length_le (by rw [hl.out]; omega)])
  clear hg
  go_enter Try.func41, Try.ntmps41
  go_wp2
  go_loopw [9, 10, 11, 12] (fun ov sv lv i wr => ∃ k : Nat, k ≤ n ∧ i = .int .i64 k ∧ (∃ A c B d C f, ov = .slice A (tkOut (ts.take k) clock delay).length c ∧ sv = .slice B (tkS (ts.take k) clock).length d ∧ lv = .slice C (tkL (ts.take k) clock).length f ∧ Tri wr w.heap.size A c (tkOut (ts.take k) clock delay) B d (tkS (ts.take k) clock) C f (tkL (ts.take k) clock)) ∧ Bw w wr) (fun _ _ _ i _ => n - (intOf i).toNat)
  case atStart =>
    have ra := ((Row.empty (T := Request) w w.heap.size 37 4 Request.cells (Nat.le_refl _)).keep (Bw.alloc (Bw.refl _) (.cells #[] 3))).keep (Bw.alloc (Bw.refl _) (.cells #[] 3))
    have rb := (Row.empty (T := Int) (w.alloc (.cells #[] 37)) w.heap.size 3 1 icell (by simp)).keep (Bw.alloc (Bw.refl _) (.cells #[] 3))
    have rc := Row.empty (T := Int) ((w.alloc (.cells #[] 37)).alloc (.cells #[] 3)) w.heap.size 3 1 icell (by simp; omega)
    simp only [World.size_alloc] at ra rb rc
    refine ⟨0, Nat.zero_le _, rfl, ⟨_, _, _, _, _, _, rfl, rfl, rfl, ⟨ra, rb, rc, ?_, ?_, ?_⟩⟩, by (repeat (first | with_reducible assumption | exact Bw.refl _ | (with_reducible refine Bw.setCell ?_ (by simp) _) | (with_reducible refine Bw.alloc ?_ _) | (with_reducible refine Bw.drew ?_) | (with_reducible refine Bw.drewN ?_ _)))⟩
    all_goals (intro x y hx hy; simp only [Option.some.injEq] at hx hy; subst hx hy; simp; try omega)
  case round =>
    obtain ⟨k, hk, rfl, ⟨A', c', B', d', C', f', rfl, rfl, rfl, tri⟩, hbl⟩ := hrel
    have hs := hbl.size
    by_cases hlt : k < n
    · obtain ⟨b, off, rfl, hb, hc⟩ := (h.keep hbl).request (by omega)
      have ⟨h0, h1, h2, h3⟩ := hc k hlt
      clear hc
      have hkt : k < ts.length := by rw [hl.out]; exact hlt
      have ⟨t0, t1⟩ := HB.out k hkt
      have hlo := tkOut_len (ts.take k) clock delay
      have hls := tkS_len (ts.take k) clock
      have hll := tkL_len (ts.take k) clock
      rw [List.length_take] at hlo hls hll
      have HO := Lib.hid (fun o h => tkOut_succ (clock := clock) (delay := delay) hkt (o := o) h)
      have HS := Lib.hid (fun b h => tkS_succ (clock := clock) hkt (b := b) h)
      have HL := Lib.hid (fun b h => tkL_succ (clock := clock) hkt (b := b) h)
      generalize tkOut (ts.take k) clock delay = os at *
      generalize tkS (ts.take k) clock = ss at *
      generalize tkL (ts.take k) clock = ls at *
      generalize hr : requestAt ts k = r at *
      have q1 := tri.keep (Bw.alloc (Bw.refl wr) (.cells #[.int .i64 r.number, .int .i64 r.state, .int .i64 r.til, .int .i64 r.tries] 37))
      have qa := q1.a
      have qb := q1.b
      have qc := q1.c
      by_cases c1 : clock < r.til
      · have EO := Lib.hid (HO.out (some r) (by simp [tkKeep, c1]))
        have ES := Lib.hid (HS.out false (by simp [tkSent, c1]))
        have EL := Lib.hid (HL.out false (by simp [tkLost, c1]))
        go_wp2_with (at_builtin; refine append_Request rfl _ _ rfl _ _ _ _ rfl qa (r) _ rfl _ rfl ?_ ?_ ?_ ?_; simp; omega; (simp; omega); intro A2 c2 w2 hrow2 hg2 hmv2)
        go_roundw
        case rel =>
          have t1 := q1
          have t2 := t1.pushA hrow2 hg2 hmv2
          refine ⟨k + 1, by omega, by go_num, ?_, Bw.ofRow (hbl.alloc _) hg2 (fun x hx => (t1.a.lt x hx).1)⟩
          rw [EO.out, ES.out, EL.out]
          simp only [Option.toList, if_true, if_false, Bool.false_eq_true, List.append_nil]
          exact ⟨A2, c2, B', d', C', f', by simp, by simp, by simp, t2⟩
        case measure => simp [intOf]; omega
      · by_cases c2 : r.tries = 3
        · have EO := Lib.hid (HO.out none (by simp [tkKeep, c1, c2]))
          have ES := Lib.hid (HS.out false (by simp [tkSent, c1, c2]))
          have EL := Lib.hid (HL.out true (by simp [tkLost, c1, c2]))
          have d2 : (r.tries == 3) = true := by simp [c2]
          clear c2
          go_wp2_with (at_builtin; refine append_int rfl _ _ rfl _ _ _ _ rfl qc _ _ rfl ?_ ?_ ?_ ?_; simp; omega; (simp; omega); intro A2 c2 w2 hrow2 hg2 hmv2)
          go_roundw
          case rel =>
            have t1 := q1
            have t2 := t1.pushC hrow2 hg2 hmv2
            refine ⟨k + 1, by omega, by go_num, ?_, Bw.ofRow (hbl.alloc _) hg2 (fun x hx => (t1.c.lt x hx).1)⟩
            rw [EO.out, ES.out, EL.out]
            simp only [Option.toList, if_true, if_false, Bool.false_eq_true, List.append_nil]
            exact ⟨A', c', B', d', A2, c2, by simp, by simp, by simp, t2⟩
          case measure => simp [intOf]; omega
        · by_cases c3 : r.state = 1
          · have EO := Lib.hid (HO.out (some ⟨r.number, 2, clock + 3, r.tries + 1⟩) (by simp [tkKeep, c1, c2, c3]))
            have ES := Lib.hid (HS.out true (by simp [tkSent, c1, c2, c3]))
            have EL := Lib.hid (HL.out false (by simp [tkLost, c1, c2]))
            have d3 : (r.state == 1) = true := by simp [c3]
            clear c3
            go_wp2_with (first | (at_builtin; refine append_int rfl _ _ rfl _ _ _ _ rfl qb _ _ rfl ?_ ?_ ?_ ?_; simp; omega; (simp; omega); intro A2 c2 w2 hrow2 hg2 hmv2; have q2 := q1.pushB hrow2 hg2 hmv2; have d0 := hg2.cell (a := ⟨wr.heap.size, 0, none⟩) (v := .int .i64 r.number) (by simp) (tri.b.notOwn (Nat.le_refl _)); have d1 := hg2.cell (a := ⟨wr.heap.size, 3, none⟩) (v := .int .i64 r.tries) (by simp) (tri.b.notOwn (Nat.le_refl _)); have qa2 := q2.a) | (at_builtin; refine append_Request rfl _ _ rfl _ _ _ _ rfl qa2 (⟨r.number, 2, clock + 3, r.tries + 1⟩) _ rfl _ rfl rfl ?_ ?_ ?_; omega; (have hs2 := hg2.size; simp at hs2; omega); intro A3 c3 w3 hrow3 hg3 hmv3))
            go_roundw
            case rel =>
              have t3 := q2.pushA hrow3 hg3 hmv3
              refine ⟨k + 1, by omega, by go_num, ?_, Bw.ofRow (Bw.ofRow (hbl.alloc _) hg2 (fun x hx => (q1.b.lt x hx).1)) hg3 (fun x hx => (q2.a.lt x hx).1)⟩
              rw [EO.out, ES.out, EL.out]
              simp only [Option.toList, if_true, if_false, Bool.false_eq_true, List.append_nil]
              exact ⟨A3, c3, A2, c2, C', f', by simp, by simp, by simp, t3⟩
            case measure => simp [intOf]; omega
          · have EO := Lib.hid (HO.out (some ⟨r.number, 1, clock + delay, r.tries⟩) (by simp [tkKeep, c1, c2, c3]))
            have ES := Lib.hid (HS.out false (by simp [tkSent, c1, c2, c3]))
            have EL := Lib.hid (HL.out false (by simp [tkLost, c1, c2]))
            go_wp2_with (at_builtin; refine append_Request rfl _ _ rfl _ _ _ _ rfl qa (⟨r.number, 1, clock + delay, r.tries⟩) _ rfl _ rfl ?_ ?_ ?_ ?_; simp; omega; (simp; omega); intro A2 c2 w2 hrow2 hg2 hmv2)
            go_roundw
            case rel =>
              have t1 := q1
              have t2 := t1.pushA hrow2 hg2 hmv2
              refine ⟨k + 1, by omega, by go_num, ?_, Bw.ofRow (hbl.alloc _) hg2 (fun x hx => (t1.a.lt x hx).1)⟩
              rw [EO.out, ES.out, EL.out]
              simp only [Option.toList, if_true, if_false, Bool.false_eq_true, List.append_nil]
              exact ⟨A2, c2, B', d', C', f', by simp, by simp, by simp, t2⟩
            case measure => simp [intOf]; omega
    · go_wp2
      go_ret3
      obtain rfl : k = n := by omega
      rw [HT.out] at tri
      rw [HT.out]
      exact ⟨⟨_, _, _, _, _, _, rfl, tri⟩, hbl⟩
end Go.Proofs.Ytnejeigcdogolaa
