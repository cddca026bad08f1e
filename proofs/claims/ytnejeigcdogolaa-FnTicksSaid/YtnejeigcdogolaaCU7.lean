
/- The drawn arguments of the requests' laws. -/
import Derived.Test.YtnejeigcdogolaaCU6
import Derived.Test.YtnejeigcdogolaaR11
namespace Go.Proofs.Ytnejeigcdogolaa
open Go.RowKit
theorem results_tmp5 {fn : Func} {t u v x y : Tmp} (h : fn.results = #[.tmp t, .tmp u, .tmp v, .tmp x, .tmp y]) (tmps : Array Value) (P : Program) (w : World) :
    (results fn tmps).run P w = .ok (.tuple #[tmps.getD t undef, tmps.getD u undef, tmps.getD v undef, tmps.getD x undef, tmps.getD y undef]) w := by
  simp [results, h]
section
variable (A : Option Addr) (n c : Nat)
/-- A list of requests that was drawn. -/
structure Drawn (w w' : World) (A' : Option Addr) (k d : Nat) (ts : List Request) : Prop where
  le : k ≤ 9
  row : Row w' w.heap.size 37 4 Request.cells A' k d ts
  bw : Bw w w'
theorem Drawn.rd {w w' : World} {A' : Option Addr} {k d : Nat} {ts : List Request} (h : Drawn w w' A' k d ts) : Rd w' A' k 4 (ts.map Request.cells) := h.row.rd (fun _ => rfl)
theorem c_DrawAreRequests (hn : n ≤ 1000000) (w : World) (h : Code8 w A n) :
    Calls Try.prog 51 #[.slice A n c] w fun e w' => ∃ A' k d, ∃ (ts : List Request) (x : Int), e = .returned (.tuple #[.slice A' k d, .int .i64 x]) ∧ Drawn w w' A' k d ts := by
  go_enter Try.func51, Try.ntmps51
  go_wp2_with fail
  refine (c_anySerial _ A n c 0 (by omega) hn _ (CurE.new w A n c _ h)).mono ?_
  rintro e w1 ⟨⟨base, rfl⟩, h1, g1⟩
  go_wp2_with fail
  refine (c_requests _ A n c _ base (by omega) hn _ h1).mono ?_
  rintro e w2 ⟨⟨A', k, d, ts, rfl, hk, row⟩, h2, g2⟩
  have hs1 := g1.size
  simp only [World.size_alloc] at hs1
  have row := row.mono (lo' := w.heap.size + 1) (by omega)
  have l1 := row.lt
  have bw2 : Bw w w2 := (((Bw.refl w).alloc _).cur g1 (by simp)).cur g2 (by simp)
  go_wp2
  go_ret2
  exact ⟨A', k, d, ts, base, rfl, hk, row.mono (by omega), bw2⟩
theorem c_DrawStateCounts (hn : n ≤ 1000000) (w : World) (h : Code8 w A n) :
    Calls Try.prog 19 #[.slice A n c] w fun e w' => ∃ A' k d, ∃ (ts : List Request) (x : Int), e = .returned (.tuple #[.slice A' k d, .int .i64 x]) ∧ Drawn w w' A' k d ts := by
  go_enter Try.func19, Try.ntmps19
  go_wp2_with fail
  refine (c_DrawAreRequests A n c hn _ h).mono ?_
  rintro e w1 ⟨A', k, d, ts, x, rfl, hd⟩
  go_wp2
  go_ret2
  exact ⟨A', k, d, ts, x, rfl, hd⟩
theorem c_DrawDueNumbers (hn : n ≤ 1000000) (w : World) (h : Code8 w A n) :
    Calls Try.prog 14 #[.slice A n c] w fun e w' => ∃ A' k d, ∃ (ts : List Request) (x y : Int), e = .returned (.tuple #[.slice A' k d, .int .i64 x, .int .i64 y]) ∧ Drawn w w' A' k d ts := by
  go_enter Try.func14, Try.ntmps14
  go_wp2_with fail
  refine (c_anySerial _ A n c 0 (by omega) hn _ (CurE.new w A n c _ h)).mono ?_
  rintro e w1 ⟨⟨base, rfl⟩, h1, g1⟩
  go_wp2_with fail
  refine (c_requests _ A n c _ base (by omega) hn _ h1).mono ?_
  rintro e w2 ⟨⟨A', k, d, ts, rfl, hk, row⟩, h2, g2⟩
  have hs1 := g1.size
  simp only [World.size_alloc] at hs1
  have row := row.mono (lo' := w.heap.size + 1) (by omega)
  have l1 := row.lt
  have bw2 : Bw w w2 := (((Bw.refl w).alloc _).cur g1 (by simp)).cur g2 (by simp)
  go_wp2_with fail
  refine (c_amongL _ A n c _ _ _ _ _ (by omega) (by omega) (by simp) rfl (by omega) hn _ h2 _ (by simp)).mono ?_
  rintro e w3 ⟨⟨y, rfl⟩, h3, g3⟩
  go_wp2
  go_ret3
  exact ⟨A', k, d, ts, base, y, rfl, hk, (RowR.cur row g3 (by omega)).mono (by omega), bw2.cur g3 (by simp)⟩
theorem c_DrawTickRequests (hn : n ≤ 1000000) (w : World) (h : Code8 w A n) :
    Calls Try.prog 6 #[.slice A n c] w fun e w' => ∃ A' k d, ∃ (ts : List Request) (x y z : Int), e = .returned (.tuple #[.slice A' k d, .int .i64 x, .int .i64 y, .int .i64 z]) ∧ Drawn w w' A' k d ts := by
  go_enter Try.func6, Try.ntmps6
  go_wp2_with fail
  refine (c_anySerial _ A n c 0 (by omega) hn _ (CurE.new w A n c _ h)).mono ?_
  rintro e w1 ⟨⟨base, rfl⟩, h1, g1⟩
  go_wp2_with fail
  refine (c_requests _ A n c _ base (by omega) hn _ h1).mono ?_
  rintro e w2 ⟨⟨A', k, d, ts, rfl, hk, row⟩, h2, g2⟩
  have hs1 := g1.size
  simp only [World.size_alloc] at hs1
  have row := row.mono (lo' := w.heap.size + 1) (by omega)
  have l1 := row.lt
  have bw2 : Bw w w2 := (((Bw.refl w).alloc _).cur g1 (by simp)).cur g2 (by simp)
  go_wp2_with fail
  refine (c_amongL _ A n c _ _ _ _ _ (by omega) (by omega) (by simp) rfl (by omega) hn _ h2 _ (by simp)).mono ?_
  rintro e w3 ⟨⟨y, rfl⟩, h3, g3⟩
  go_wp2_with fail
  refine (c_amongL _ A n c _ _ _ _ _ (by omega) (by omega) (by simp) rfl (by omega) hn _ h3 _ (by simp)).mono ?_
  rintro e w4 ⟨⟨z, rfl⟩, h4, g4⟩
  go_wp2
  (try simp only [Exit.inBlock, Exit.then]); refine bodyPost_ret (results_tmp4 rfl _ _ _) rfl ?_
  have g34 := g3.trans g4
  exact ⟨A', k, d, ts, base, y, z, rfl, hk, (RowR.cur row g34 (by omega)).mono (by omega), bw2.cur g34 (by simp)⟩
theorem c_DrawConfirmRequest (hn : n ≤ 1000000) (w : World) (h : Code8 w A n) :
    Calls Try.prog 27 #[.slice A n c] w fun e w' => ∃ A' k d, ∃ (ts : List Request) (x y z : Int), e = .returned (.tuple #[.slice A' k d, .int .i64 x, .int .i64 y, .int .i64 z]) ∧ Drawn w w' A' k d ts := by
  go_enter Try.func27, Try.ntmps27
  go_wp2_with fail
  refine (c_anySerial _ A n c 0 (by omega) hn _ (CurE.new w A n c _ h)).mono ?_
  rintro e w1 ⟨⟨base, rfl⟩, h1, g1⟩
  go_wp2_with fail
  refine (c_requests _ A n c _ base (by omega) hn _ h1).mono ?_
  rintro e w2 ⟨⟨A', k, d, ts, rfl, hk, row⟩, h2, g2⟩
  have hs1 := g1.size
  simp only [World.size_alloc] at hs1
  have row := row.mono (lo' := w.heap.size + 1) (by omega)
  have l1 := row.lt
  have bw2 : Bw w w2 := (((Bw.refl w).alloc _).cur g1 (by simp)).cur g2 (by simp)
  go_wp2_with fail
  refine (c_requested _ A n c _ A' k d ts base (by omega) (by omega) hn _ h2 (row.rd (fun _ => rfl)) (fun x hx => by have := (l1 x hx).1; omega)).mono ?_
  rintro e w3 ⟨⟨y, rfl⟩, h3, g3⟩
  go_wp2_with fail
  refine (c_amongL _ A n c _ _ _ _ _ (by omega) (by omega) (by simp) rfl (by omega) hn _ h3 _ (by simp)).mono ?_
  rintro e w4 ⟨⟨z, rfl⟩, h4, g4⟩
  go_wp2
  (try simp only [Exit.inBlock, Exit.then]); refine bodyPost_ret (results_tmp4 rfl _ _ _) rfl ?_
  have g34 := g3.trans g4
  exact ⟨A', k, d, ts, base, y, z, rfl, hk, (RowR.cur row g34 (by omega)).mono (by omega), bw2.cur g34 (by simp)⟩
theorem c_DrawDropRequest (hn : n ≤ 1000000) (w : World) (h : Code8 w A n) :
    Calls Try.prog 30 #[.slice A n c] w fun e w' => ∃ A' k d, ∃ (ts : List Request) (x y : Int), e = .returned (.tuple #[.slice A' k d, .int .i64 x, .int .i64 y]) ∧ Drawn w w' A' k d ts := by
  go_enter Try.func30, Try.ntmps30
  go_wp2_with fail
  refine (c_DrawConfirmRequest A n c hn _ h).mono ?_
  rintro e w1 ⟨A', k, d, ts, x, y, z, rfl, hd⟩
  go_wp2
  go_ret3
  exact ⟨A', k, d, ts, x, y, rfl, hd⟩
theorem c_DrawAddRequest (hn : n ≤ 1000000) (w : World) (h : Code8 w A n) :
    Calls Try.prog 22 #[.slice A n c] w fun e w' => ∃ A' k d, ∃ (ts : List Request) (x y z u : Int), e = .returned (.tuple #[.slice A' k d, .int .i64 x, .int .i64 y, .int .i64 z, .int .i64 u]) ∧ Drawn w w' A' k d ts := by
  go_enter Try.func22, Try.ntmps22
  go_wp2_with fail
  refine (c_anySerial _ A n c 0 (by omega) hn _ (CurE.new w A n c _ h)).mono ?_
  rintro e w1 ⟨⟨base, rfl⟩, h1, g1⟩
  go_wp2_with fail
  refine (c_requests _ A n c _ base (by omega) hn _ h1).mono ?_
  rintro e w2 ⟨⟨A', k, d, ts, rfl, hk, row⟩, h2, g2⟩
  have hs1 := g1.size
  simp only [World.size_alloc] at hs1
  have row := row.mono (lo' := w.heap.size + 1) (by omega)
  have l1 := row.lt
  have bw2 : Bw w w2 := (((Bw.refl w).alloc _).cur g1 (by simp)).cur g2 (by simp)
  go_wp2_with fail
  refine (c_requested _ A n c _ A' k d ts base (by omega) (by omega) hn _ h2 (row.rd (fun _ => rfl)) (fun x hx => by have := (l1 x hx).1; omega)).mono ?_
  rintro e w3 ⟨⟨y, rfl⟩, h3, g3⟩
  go_wp2_with fail
  refine (c_amongL _ A n c _ _ _ _ _ (by omega) (by omega) (by simp) rfl (by omega) hn _ h3 _ (by simp)).mono ?_
  rintro e w4 ⟨⟨z, rfl⟩, h4, g4⟩
  go_wp2_with fail
  refine (c_amongL _ A n c _ _ _ _ _ (by omega) (by omega) (by simp) rfl (by omega) hn _ h4 _ (by simp)).mono ?_
  rintro e w5 ⟨⟨u, rfl⟩, h5, g5⟩
  go_wp2
  (try simp only [Exit.inBlock, Exit.then]); refine bodyPost_ret (results_tmp5 rfl _ _ _) rfl ?_
  have g34 := (g3.trans g4).trans g5
  exact ⟨A', k, d, ts, base, y, z, u, rfl, hk, (RowR.cur row g34 (by omega)).mono (by omega), bw2.cur g34 (by simp)⟩
theorem c_DrawMoveBase (hn : n ≤ 1000000) (w : World) (h : Code8 w A n) :
    Calls Try.prog 16 #[.slice A n c] w fun e w' => ∃ A' k d, ∃ (ts : List Request) (x y : Int), e = .returned (.tuple #[.slice A' k d, .int .i64 x, .int .i64 y]) ∧ Drawn w w' A' k d ts := by
  go_enter Try.func16, Try.ntmps16
  go_wp2_with fail
  refine (c_anySerial _ A n c 0 (by omega) hn _ (CurE.new w A n c _ h)).mono ?_
  rintro e w1 ⟨⟨base, rfl⟩, h1, g1⟩
  go_wp2_with fail
  refine (c_requests _ A n c _ base (by omega) hn _ h1).mono ?_
  rintro e w2 ⟨⟨A', k, d, ts, rfl, hk, row⟩, h2, g2⟩
  have hs1 := g1.size
  simp only [World.size_alloc] at hs1
  have row := row.mono (lo' := w.heap.size + 1) (by omega)
  have l1 := row.lt
  have bw2 : Bw w w2 := (((Bw.refl w).alloc _).cur g1 (by simp)).cur g2 (by simp)
  go_wp2_with fail
  refine (c_anySerial _ A n c _ (by omega) hn _ h2).mono ?_
  rintro e w3 ⟨⟨y, rfl⟩, h3, g3⟩
  cases hg : inR base 0 65535
  · go_wp2_with (go_at_call 45; refine (c_l2Good _ hg _).mono ?_; rintro e w9 ⟨rfl, rfl⟩)
    go_ret3
    exact ⟨A', k, d, ts, base, y, rfl, hk, (RowR.cur row g3 (by omega)).mono (by omega), bw2.cur g3 (by simp)⟩
  · go_wp2_with (go_at_call 45; refine (c_l2Good _ hg _).mono ?_; rintro e w9 ⟨rfl, rfl⟩)
    refine (c_oneE _ A n c _ 6 (by omega) (by omega) (by omega) hn _ h3).mono ?_
    rintro e w4 ⟨⟨x4, rfl⟩, h4, g4⟩
    cases x4
    · go_wp2_with fail
      refine (c_pickE _ A n c _ 12 (by omega) (by omega) (by omega) hn _ h4).mono ?_
      rintro e w5 ⟨⟨x5, rfl, l5⟩, h5, g5⟩
      go_wp2_with (go_at_call 47; refine (c_l2AfterAny _ _ _).mono ?_; rintro e _ ⟨⟨y2, rfl⟩, rfl⟩)
      go_ret3
      have g34 := (g3.trans g4).trans g5
      exact ⟨A', k, d, ts, base, y2, rfl, hk, (RowR.cur row g34 (by omega)).mono (by omega), bw2.cur g34 (by simp)⟩
    · go_wp2_with fail
      go_ret3
      have g34 := g3.trans g4
      exact ⟨A', k, d, ts, base, y, rfl, hk, (RowR.cur row g34 (by omega)).mono (by omega), bw2.cur g34 (by simp)⟩
end
end Go.Proofs.Ytnejeigcdogolaa
