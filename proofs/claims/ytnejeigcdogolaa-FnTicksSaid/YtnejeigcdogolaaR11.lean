
/- TickRequests: the program's side; both come to one function. -/
import Derived.Test.YtnejeigcdogolaaR10
namespace Go.Proofs.Ytnejeigcdogolaa
open Go.RowKit
theorem results_tmp4 {fn : Func} {t u v x : Tmp} (h : fn.results = #[.tmp t, .tmp u, .tmp v, .tmp x]) (tmps : Array Value) (P : Program) (w : World) :
    (results fn tmps).run P w = .ok (.tuple #[tmps.getD t undef, tmps.getD u undef, tmps.getD v undef, tmps.getD x undef]) w := by
  simp [results, h]
theorem grown_setCell (w : World) (a : Addr) (u : Value) : w.grownBy (w.setCell a u) (some a.block) :=
  ⟨rfl, rfl, rfl, by simp, fun k _ hk => heap_setCell_other w a k u (fun e => hk (by rw [e]))⟩
/-- A store into a block that no row owns. -/
theorem Tri.store {w : World} {lo : Nat} {A : Option Addr} {c : Nat} {os : List Request} {B : Option Addr} {d : Nat} {ss : List Int} {C : Option Addr} {f : Nat} {ls : List Int} (h : Tri w lo A c os B d ss C f ls) (p : Addr) (u : Value) (ha : ∀ x, A = some x → p.block ≠ x.block) (hb : ∀ x, B = some x → p.block ≠ x.block) (hc : ∀ x, C = some x → p.block ≠ x.block) : Tri (w.setCell p u) lo A c os B d ss C f ls :=
  ⟨h.a.grown (grown_setCell w p u) (fun x hx he => ha x hx (Option.some.inj he)), h.b.grown (grown_setCell w p u) (fun x hx he => hb x hx (Option.some.inj he)), h.c.grown (grown_setCell w p u) (fun x hx he => hc x hx (Option.some.inj he)), h.ab, h.ac, h.bc⟩
set_option maxRecDepth 100000 in
set_option maxHeartbeats 2000000 in
theorem c_tickRequests (A : Option Addr) (n c : Nat) (ts : List Request) (base clock delay : Int) (hg : goodR ts base = true) (k0 : 0 ≤ clock) (k1 : clock ≤ 9999) (y0 : 1 ≤ delay) (y1 : delay ≤ 8) (w : World) (hn : n ≤ 100) (h : Rd w A n 4 (ts.map Request.cells)) :
    Calls Try.prog 37 #[.slice A n c, .int .i64 clock, .int .i64 delay] w fun e w' => (∃ A c B d C f, e = .returned (.tuple #[.slice A (tkOut ts clock delay).length c, .slice B (tkS ts clock).length d, .slice C (tkL ts clock).length f]) ∧ Tri w' w.heap.size A c (tkOut ts clock delay) B d (tkS ts clock) C f (tkL ts clock)) ∧ Bw w w' := by
  have hl := Lib.hid h.requestlen
  have HB := Lib.hid (show ∀ j, j < ts.length → (0 ≤ (requestAt ts j).tries ∧ (requestAt ts j).tries ≤ 3) from fun j hj => (goodR_bd hg hj).2.2.2.2)
  have HT := Lib.hid (show ts.take n = ts by rw [List.take_of_length_le (by rw [hl.out]; omega)])
  clear hg
  go_enter Try.func37, Try.ntmps37
  go_wp2
  go_loopw [9, 10, 11, 16] (fun ov sv lv i wr => ∃ k : Nat, k ≤ n ∧ i = .int .i64 k ∧ (∃ A c B d C f, ov = .slice A (tkOut (ts.take k) clock delay).length c ∧ sv = .slice B (tkS (ts.take k) clock).length d ∧ lv = .slice C (tkL (ts.take k) clock).length f ∧ Tri wr w.heap.size A c (tkOut (ts.take k) clock delay) B d (tkS (ts.take k) clock) C f (tkL (ts.take k) clock)) ∧ Bw w wr) (fun _ _ _ i _ => n - (intOf i).toNat)
  case atStart => exact ⟨0, Nat.zero_le _, rfl, ⟨_, _, _, _, _, _, rfl, rfl, rfl, Tri.nils _ _⟩, Bw.refl _⟩
  case round =>
    obtain ⟨k, hk, rfl, ⟨A', c', B', d', C', f', rfl, rfl, rfl, tri⟩, hbl⟩ := hrel
    have hs := hbl.size
    by_cases hlt : k < n
    · obtain ⟨b, off, rfl, hb, hc⟩ := (h.keep hbl).request (by omega)
      have ⟨h0, h1, h2, h3⟩ := hc k hlt
      clear hc
      have hkt : k < ts.length := by rw [hl.out]; exact hlt
      have ⟨t0, t1⟩ := HB.out k hkt
      have hlo := tkOut_len (ts.take k) clock delay
      have hls := tkS_len (ts.take k) clock
      have hll := tkL_len (ts.take k) clock
      rw [List.length_take] at hlo hls hll
      have HO := Lib.hid (fun o h => tkOut_succ (clock := clock) (delay := delay) hkt (o := o) h)
      have HS := Lib.hid (fun b h => tkS_succ (clock := clock) hkt (b := b) h)
      have HL := Lib.hid (fun b h => tkL_succ (clock := clock) hkt (b := b) h)
      generalize tkOut (ts.take k) clock delay = os at *
      generalize tkS (ts.take k) clock = ss at *
      generalize tkL (ts.take k) clock = ls at *
      generalize hr : requestAt ts k = r at *
      have q1 := tri.keep (Bw.alloc (Bw.refl wr) (.cells #[.int .i64 r.number, .int .i64 r.state, .int .i64 r.til, .int .i64 r.tries] 37))
      have qa := q1.a
      have qb := q1.b
      have qc := q1.c
      have lta := tri.a.lt
      have ltb := tri.b.lt
      have ltc := tri.c.lt
      by_cases c1 : clock < r.til
      · have EO := Lib.hid (HO.out (some r) (by simp [tkKeep, c1]))
        have ES := Lib.hid (HS.out false (by simp [tkSent, c1]))
        have EL := Lib.hid (HL.out false (by simp [tkLost, c1]))
        go_wp2_with (at_builtin; refine append_Request rfl _ _ rfl _ _ _ _ rfl qa (r) _ rfl _ rfl ?_ ?_ ?_ ?_; simp; omega; (simp; omega); intro A2 c2 w2 hrow2 hg2 hmv2)
        go_roundw
        case rel =>
          have t2 := q1.pushA hrow2 hg2 hmv2
          refine ⟨k + 1, by omega, by go_num, ?_, Bw.ofRow (hbl.alloc _) hg2 (fun x hx => (q1.a.lt x hx).1)⟩
          rw [EO.out, ES.out, EL.out]
          simp only [Option.toList, if_true, if_false, Bool.false_eq_true, List.append_nil]
          exact ⟨A2, c2, B', d', C', f', by simp, by simp, by simp, t2⟩
        case measure => simp [intOf]; omega
      · by_cases c2 : r.tries = 3
        · have EO := Lib.hid (HO.out none (by simp [tkKeep, c1, c2]))
          have ES := Lib.hid (HS.out false (by simp [tkSent, c1, c2]))
          have EL := Lib.hid (HL.out true (by simp [tkLost, c1, c2]))
          have d2 : (r.tries == 3) = true := by simp [c2]
          clear c2
          go_wp2_with (at_builtin; refine append_int rfl _ _ rfl _ _ _ _ rfl qc _ _ rfl ?_ ?_ ?_ ?_; simp; omega; (simp; omega); intro A2 c2 w2 hrow2 hg2 hmv2)
          go_roundw
          case rel =>
            have t2 := q1.pushC hrow2 hg2 hmv2
            refine ⟨k + 1, by omega, by go_num, ?_, Bw.ofRow (hbl.alloc _) hg2 (fun x hx => (q1.c.lt x hx).1)⟩
            rw [EO.out, ES.out, EL.out]
            simp only [Option.toList, if_true, if_false, Bool.false_eq_true, List.append_nil]
            exact ⟨A', c', B', d', A2, c2, by simp, by simp, by simp, t2⟩
          case measure => simp [intOf]; omega
        · by_cases c3 : r.state = 1
          · have EO := Lib.hid (HO.out (some ⟨r.number, 2, clock + 3, r.tries + 1⟩) (by simp [tkKeep, c1, c2, c3]))
            have ES := Lib.hid (HS.out true (by simp [tkSent, c1, c2, c3]))
            have EL := Lib.hid (HL.out false (by simp [tkLost, c1, c2]))
            have d3 : (r.state == 1) = true := by simp [c3]
            clear c3
            have nb : ∀ (x : Addr) (j : Nat), (∃ y, B' = some y ∧ x.block = y.block) → wr.heap.size ≠ x.block := fun x j ⟨y, hy, he⟩ => by have := (ltb y hy).2; omega
            have NB := Lib.hid nb
            have LA := Lib.hid lta
            have LC := Lib.hid ltc
            clear nb lta ltb ltc
            go_wp2_with (first | (at_builtin; refine append_int rfl _ _ rfl _ _ _ _ rfl qb _ _ rfl ?_ ?_ ?_ ?_; simp; omega; (simp; omega); intro A2 c2 w2 hrow2 hg2 hmv2; have q2 := q1.pushB hrow2 hg2 hmv2; have d0 := hg2.cell (a := ⟨wr.heap.size, 0, none⟩) (v := .int .i64 r.number) (by simp) (tri.b.notOwn (Nat.le_refl _)); have d1 := hg2.cell (a := ⟨wr.heap.size, 1, none⟩) (v := .int .i64 r.state) (by simp) (tri.b.notOwn (Nat.le_refl _)); have d2 := hg2.cell (a := ⟨wr.heap.size, 2, none⟩) (v := .int .i64 r.til) (by simp) (tri.b.notOwn (Nat.le_refl _)); have d4 := hg2.cell (a := ⟨wr.heap.size, 3, none⟩) (v := .int .i64 r.tries) (by simp) (tri.b.notOwn (Nat.le_refl _)); have z1 := (hg2.frozen_far ⟨wr.heap.size, 1, none⟩ (by simp) (tri.b.notOwn (Nat.le_refl _))).trans (by simp : _ = false); have z2 := (hg2.frozen_far ⟨wr.heap.size, 2, none⟩ (by simp) (tri.b.notOwn (Nat.le_refl _))).trans (by simp : _ = false); have z3 := (hg2.frozen_far ⟨wr.heap.size, 3, none⟩ (by simp) (tri.b.notOwn (Nat.le_refl _))).trans (by simp : _ = false); have ne1 : ∀ x, A' = some x → wr.heap.size ≠ x.block := (fun x hx => by have := (LA.out x hx).2; omega); have ne3 : ∀ x, C' = some x → wr.heap.size ≠ x.block := (fun x hx => by have := (LC.out x hx).2; omega); have ne2 : ∀ x, A2 = some x → wr.heap.size ≠ x.block := (fun x hx => by obtain ⟨z, hz, hzz⟩ := hmv2; rw [hx] at hz; obtain rfl := Option.some.inj hz; rcases hzz with hzz | hzz; (simp at hzz; omega); exact NB.out x 0 hzz); have q3 := q2.store ⟨wr.heap.size, 3, none⟩ (.int .i64 (r.tries + 1)) ne1 ne2 ne3; have q4 := q3.store ⟨wr.heap.size, 1, none⟩ (.int .i64 2) ne1 ne2 ne3; have q5 := q4.store ⟨wr.heap.size, 2, none⟩ (.int .i64 (clock + 3)) ne1 ne2 ne3; have b2 := Bw.ofRow (hbl.alloc _) hg2 (fun x hx => (q1.b.lt x hx).1); have b5 := ((b2.setCell (p := ⟨wr.heap.size, 3, none⟩) hs (.int .i64 (r.tries + 1))).setCell (p := ⟨wr.heap.size, 1, none⟩) hs (.int .i64 2)).setCell (p := ⟨wr.heap.size, 2, none⟩) hs (.int .i64 (clock + 3)); have Ne := Lib.hid (And.intro ne1 (And.intro ne2 ne3)); clear ne1 ne2 ne3) | (have qq := q5.a; (at_builtin; refine append_Request rfl _ _ rfl _ _ _ _ rfl qq ⟨r.number, 2, clock + 3, r.tries + 1⟩ _ rfl _ rfl (by simp) ?_ ?_ ?_; omega; (have hs2 := hg2.size; simp at hs2; simp; omega); intro A3 c3 w3 hrow3 hg3 hmv3)))
            go_roundw
            case rel =>
              have t3 := q5.pushA hrow3 hg3 hmv3
              refine ⟨k + 1, by omega, by go_num, ?_, Bw.ofRow b5 hg3 (fun x hx => (q5.a.lt x hx).1)⟩
              rw [EO.out, ES.out, EL.out]
              simp only [Option.toList, if_true, if_false, Bool.false_eq_true, List.append_nil]
              exact ⟨A3, c3, A2, c2, C', f', by simp, by simp, by simp, t3⟩
            case measure => simp [intOf]; omega
          · have EO := Lib.hid (HO.out (some ⟨r.number, 1, clock + delay, r.tries⟩) (by simp [tkKeep, c1, c2, c3]))
            have ES := Lib.hid (HS.out false (by simp [tkSent, c1, c2, c3]))
            have EL := Lib.hid (HL.out false (by simp [tkLost, c1, c2]))
            have q2 := tri.keep (Bw.alloc (Bw.refl wr) (.cells #[.int .i64 r.number, .int .i64 1, .int .i64 (clock + delay), .int .i64 r.tries] 37))
            have qa2 := q2.a
            go_wp2_with (at_builtin; refine append_Request rfl _ _ rfl _ _ _ _ rfl qa2 ⟨r.number, 1, clock + delay, r.tries⟩ _ rfl _ rfl ?_ ?_ ?_ ?_; simp; omega; (simp; omega); intro A2 c2 w2 hrow2 hg2 hmv2)
            go_roundw
            case rel =>
              have t2 := q2.pushA hrow2 hg2 hmv2
              refine ⟨k + 1, by omega, by go_num, ?_, Bw.ofRow (hbl.alloc _) hg2 (fun x hx => (q2.a.lt x hx).1)⟩
              rw [EO.out, ES.out, EL.out]
              simp only [Option.toList, if_true, if_false, Bool.false_eq_true, List.append_nil]
              exact ⟨A2, c2, B', d', C', f', by simp, by simp, by simp, t2⟩
            case measure => simp [intOf]; omega
    · go_wp2
      go_ret3
      obtain rfl : k = n := by omega
      rw [HT.out] at tri
      rw [HT.out]
      exact ⟨⟨_, _, _, _, _, _, rfl, tri⟩, hbl⟩
def tikB (ts : List Request) (base clock delay : Int) : Bool := goodR ts base && (inR clock 0 9999 && inR delay 1 8)
def tikO (ts : List Request) (base clock delay : Int) : List Request := if tikB ts base clock delay then tkOut ts clock delay else []
def tikS (ts : List Request) (base clock delay : Int) : List Int := if tikB ts base clock delay then tkS ts clock else []
def tikL (ts : List Request) (base clock delay : Int) : List Int := if tikB ts base clock delay then tkL ts clock else []
theorem tikO_len (ts : List Request) (base clock delay : Int) : (tikO ts base clock delay).length ≤ ts.length := by
  unfold tikO; split
  · exact tkOut_len _ _ _
  · simp
theorem tikS_len (ts : List Request) (base clock delay : Int) : (tikS ts base clock delay).length ≤ ts.length := by
  unfold tikS; split
  · exact tkS_len _ _
  · simp
theorem tikL_len (ts : List Request) (base clock delay : Int) : (tikL ts base clock delay).length ≤ ts.length := by
  unfold tikL; split
  · exact tkL_len _ _
  · simp
theorem tik_no {ts : List Request} {base clock delay : Int} (h : tikB ts base clock delay = false) : tikO ts base clock delay = [] ∧ tikS ts base clock delay = [] ∧ tikL ts base clock delay = [] := by
  simp [tikO, tikS, tikL, h]
theorem tik_yes {ts : List Request} {base clock delay : Int} (h : tikB ts base clock delay = true) : tikO ts base clock delay = tkOut ts clock delay ∧ tikS ts base clock delay = tkS ts clock ∧ tikL ts base clock delay = tkL ts clock := by
  simp [tikO, tikS, tikL, h]
set_option maxRecDepth 100000 in
theorem c_sTickRequests (A : Option Addr) (n c : Nat) (ts : List Request) (base clock delay : Int) (w : World) (hn : n ≤ 9223372036854775807) (h : Rd w A n 4 (ts.map Request.cells)) :
    Calls Try.prog 8 #[.slice A n c, .int .i64 base, .int .i64 clock, .int .i64 delay] w fun e w' => (∃ A c B d C f, e = .returned (.tuple #[.slice A (tikO ts base clock delay).length c, .slice B (tikS ts base clock delay).length d, .slice C (tikL ts base clock delay).length f, .bool (tikB ts base clock delay)]) ∧ Tri w' w.heap.size A c (tikO ts base clock delay) B d (tikS ts base clock delay) C f (tikL ts base clock delay)) ∧ Bw w w' := by
  have hl := Lib.hid h.requestlen
  cases hb : tikB ts base clock delay
  · have HR := Lib.hid (tik_no hb)
    have Hcl : ∀ w1, Bw w w1 → Tri (((w1.alloc (.cells #[] 37)).alloc (.cells #[] 3)).alloc (.cells #[] 3)) w.heap.size (some ⟨w1.heap.size, 0, none⟩) 0 [] (some ⟨w1.heap.size + 1, 0, none⟩) 0 [] (some ⟨w1.heap.size + 1 + 1, 0, none⟩) 0 [] := fun w1 hbl => by
      have hs := hbl.size
      have ra := ((Row.empty (T := Request) w1 w.heap.size 37 4 Request.cells hs).keep (Bw.alloc (Bw.refl _) (.cells #[] 3))).keep (Bw.alloc (Bw.refl _) (.cells #[] 3))
      have rb := (Row.empty (T := Int) (w1.alloc (.cells #[] 37)) w.heap.size 3 1 icell (by simp; omega)).keep (Bw.alloc (Bw.refl _) (.cells #[] 3))
      have rc := Row.empty (T := Int) ((w1.alloc (.cells #[] 37)).alloc (.cells #[] 3)) w.heap.size 3 1 icell (by simp; omega)
      simp only [World.size_alloc] at ra rb rc
      refine ⟨ra, rb, rc, ?_, ?_, ?_⟩
      all_goals (intro x y hx hy; simp only [Option.some.injEq] at hx hy; subst hx hy; simp; try omega)
    rw [tikB, Bool.and_eq_false_iff] at hb
    cases hg : goodR ts base
    · clear hb
      go_enter Try.func8, Try.ntmps8
      go_wp2_with (go_at_call 38; refine (c_l12Good _ _ _ ts _ hg _ hn h).mono ?_; rintro e w1 ⟨rfl, hb1⟩)
      (try simp only [Exit.inBlock, Exit.then]); refine bodyPost_ret (results_tmp4 rfl _ _ _) rfl ?_
      rw [HR.out.1, HR.out.2.1, HR.out.2.2]
      exact ⟨⟨_, _, _, _, _, _, rfl, Hcl _ hb1⟩, ((hb1.alloc _).alloc _).alloc _⟩
    · cases ht : inR clock 0 9999
      · clear hb
        go_enter Try.func8, Try.ntmps8
        go_wp2_with (first | (go_at_call 38; refine (c_l12Good _ _ _ ts _ hg _ hn h).mono ?_; rintro e w1 ⟨rfl, hb1⟩) | (go_at_call 39; refine (c_l11Clock _ ht _).mono ?_; rintro e w2 ⟨rfl, rfl⟩))
        (try simp only [Exit.inBlock, Exit.then]); refine bodyPost_ret (results_tmp4 rfl _ _ _) rfl ?_
        rw [HR.out.1, HR.out.2.1, HR.out.2.2]
        exact ⟨⟨_, _, _, _, _, _, rfl, Hcl _ hb1⟩, ((hb1.alloc _).alloc _).alloc _⟩
      · have hd : inR delay 1 8 = false := by rcases hb with h1 | h1 <;> simp_all
        clear hb
        go_enter Try.func8, Try.ntmps8
        go_wp2_with (first | (go_at_call 38; refine (c_l12Good _ _ _ ts _ hg _ hn h).mono ?_; rintro e w1 ⟨rfl, hb1⟩) | (go_at_call 39; refine (c_l11Clock _ ht _).mono ?_; rintro e w2 ⟨rfl, rfl⟩) | (go_at_call 40; refine (c_l12Delay _ hd _).mono ?_; rintro e w2 ⟨rfl, rfl⟩))
        (try simp only [Exit.inBlock, Exit.then]); refine bodyPost_ret (results_tmp4 rfl _ _ _) rfl ?_
        rw [HR.out.1, HR.out.2.1, HR.out.2.2]
        exact ⟨⟨_, _, _, _, _, _, rfl, Hcl _ hb1⟩, ((hb1.alloc _).alloc _).alloc _⟩
  · have HR := Lib.hid (tik_yes hb)
    simp only [tikB, Bool.and_eq_true] at hb
    obtain ⟨hg, ht, hd⟩ := hb
    have ⟨x0, x1⟩ := inR_iff.1 ht
    have ⟨y0, y1⟩ := inR_iff.1 hd
    have hn8 : n ≤ 8 := by rw [← hl.out]; exact (goodR_iff.1 hg).2.1
    have Hg := Lib.hid hg
    clear hg
    go_enter Try.func8, Try.ntmps8
    go_wp2_with (first | (go_at_call 38; refine (c_l12Good _ _ _ ts _ Hg.out _ hn h).mono ?_; rintro e w1 ⟨rfl, hb1⟩) | (go_at_call 39; refine (c_l11Clock _ ht _).mono ?_; rintro e w2 ⟨rfl, rfl⟩) | (go_at_call 40; refine (c_l12Delay _ hd _).mono ?_; rintro e w2 ⟨rfl, rfl⟩))
    refine (c_l12Tick _ _ _ ts _ _ _ Hg.out x0 x1 y0 y1 _ (by omega) (h.keep hb1)).mono ?_
    rintro e w3 ⟨⟨A3, c3, B3, d3, C3, f3, rfl, tri⟩, hb3⟩
    go_wp2_with fail
    (try simp only [Exit.inBlock, Exit.then]); refine bodyPost_ret (results_tmp4 rfl _ _ _) rfl ?_
    rw [HR.out.1, HR.out.2.1, HR.out.2.2]
    exact ⟨⟨_, _, _, _, _, _, rfl, tri.mono hb1.size⟩, hb1.trans hb3⟩
set_option maxRecDepth 100000 in
theorem c_iTickRequests (A : Option Addr) (n c : Nat) (ts : List Request) (base clock delay : Int) (w : World) (hn : n ≤ 9223372036854775807) (h : Rd w A n 4 (ts.map Request.cells)) :
    Calls Try.prog 7 #[.slice A n c, .int .i64 base, .int .i64 clock, .int .i64 delay] w fun e w' => (∃ A c B d C f, e = .returned (.tuple #[.slice A (tikO ts base clock delay).length c, .slice B (tikS ts base clock delay).length d, .slice C (tikL ts base clock delay).length f, .bool (tikB ts base clock delay)]) ∧ Tri w' w.heap.size A c (tikO ts base clock delay) B d (tikS ts base clock delay) C f (tikL ts base clock delay)) ∧ Bw w w' := by
  have hl := Lib.hid h.requestlen
  cases hb : tikB ts base clock delay
  · have HR := Lib.hid (tik_no hb)
    rw [tikB, Bool.and_eq_false_iff] at hb
    cases hg : goodR ts base
    · clear hb
      go_enter Try.func7, Try.ntmps7
      go_wp2_with (go_at_call 12; refine (c_AreRequests _ _ _ ts _ hg _ hn h).mono ?_; rintro e w1 ⟨rfl, hb1⟩)
      (try simp only [Exit.inBlock, Exit.then]); refine bodyPost_ret (results_tmp4 rfl _ _ _) rfl ?_
      rw [HR.out.1, HR.out.2.1, HR.out.2.2]
      exact ⟨⟨_, _, _, _, _, _, rfl, Tri.nils _ _⟩, hb1⟩
    · cases ht : inR clock 0 9999
      · clear hb
        go_enter Try.func7, Try.ntmps7
        go_wp2_with (first | (go_at_call 12; refine (c_AreRequests _ _ _ ts _ hg _ hn h).mono ?_; rintro e w1 ⟨rfl, hb1⟩) | (go_at_call 35; refine (c_isClock _ ht _).mono ?_; rintro e w2 ⟨rfl, rfl⟩))
        (try simp only [Exit.inBlock, Exit.then]); refine bodyPost_ret (results_tmp4 rfl _ _ _) rfl ?_
        rw [HR.out.1, HR.out.2.1, HR.out.2.2]
        exact ⟨⟨_, _, _, _, _, _, rfl, Tri.nils _ _⟩, hb1⟩
      · have hd : inR delay 1 8 = false := by rcases hb with h1 | h1 <;> simp_all
        clear hb
        go_enter Try.func7, Try.ntmps7
        go_wp2_with (first | (go_at_call 12; refine (c_AreRequests _ _ _ ts _ hg _ hn h).mono ?_; rintro e w1 ⟨rfl, hb1⟩) | (go_at_call 35; refine (c_isClock _ ht _).mono ?_; rintro e w2 ⟨rfl, rfl⟩) | (go_at_call 36; refine (c_isDelay _ hd _).mono ?_; rintro e w2 ⟨rfl, rfl⟩))
        (try simp only [Exit.inBlock, Exit.then]); refine bodyPost_ret (results_tmp4 rfl _ _ _) rfl ?_
        rw [HR.out.1, HR.out.2.1, HR.out.2.2]
        exact ⟨⟨_, _, _, _, _, _, rfl, Tri.nils _ _⟩, hb1⟩
  · have HR := Lib.hid (tik_yes hb)
    simp only [tikB, Bool.and_eq_true] at hb
    obtain ⟨hg, ht, hd⟩ := hb
    have ⟨x0, x1⟩ := inR_iff.1 ht
    have ⟨y0, y1⟩ := inR_iff.1 hd
    have hn8 : n ≤ 8 := by rw [← hl.out]; exact (goodR_iff.1 hg).2.1
    have Hg := Lib.hid hg
    clear hg
    go_enter Try.func7, Try.ntmps7
    go_wp2_with (first | (go_at_call 12; refine (c_AreRequests _ _ _ ts _ Hg.out _ hn h).mono ?_; rintro e w1 ⟨rfl, hb1⟩) | (go_at_call 35; refine (c_isClock _ ht _).mono ?_; rintro e w2 ⟨rfl, rfl⟩) | (go_at_call 36; refine (c_isDelay _ hd _).mono ?_; rintro e w2 ⟨rfl, rfl⟩))
    refine (c_tickRequests _ _ _ ts _ _ _ Hg.out x0 x1 y0 y1 _ (by omega) (h.keep hb1)).mono ?_
    rintro e w3 ⟨⟨A3, c3, B3, d3, C3, f3, rfl, tri⟩, hb3⟩
    go_wp2_with fail
    (try simp only [Exit.inBlock, Exit.then]); refine bodyPost_ret (results_tmp4 rfl _ _ _) rfl ?_
    rw [HR.out.1, HR.out.2.1, HR.out.2.2]
    exact ⟨⟨_, _, _, _, _, _, rfl, tri.mono hb1.size⟩, hb1.trans hb3⟩
end Go.Proofs.Ytnejeigcdogolaa
