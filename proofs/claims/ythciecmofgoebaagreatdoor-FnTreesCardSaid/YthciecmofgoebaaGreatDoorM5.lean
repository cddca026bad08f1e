
/- The drawn trees, spoilt or not; a node of one. -/
import Derived.Test.YthciecmofgoebaaGreatDoorM4
namespace Go.Proofs.YthciecmofgoebaaGreatDoor
open Go.RowKit
section
variable {w w' : World} {q lo : Nat} {A : Option Addr} {n c : Nat} {ts : List Int}
theorem TrB.take (h : TrB w q lo A n c ts) (hA : A ≠ none) {k : Nat} (hk : k ≤ n) : TrB (w.setCell ⟨q, 0, none⟩ (.slice A k c)) q lo A k c (ts.take k) :=
  ⟨World.cell?_setCell_same _ _ _ h.c0, fun j => (World.frozen?_setCell _ _ _ _).trans (h.ff j), (h.row.restrict (fun _ => rfl) hA hk).grown (cu_setCell w ⟨q, 0, none⟩ _) (fun x hx he => h.ne x hx (by simpa using he.symm)), h.ne⟩
theorem TrB.setEl {g k : Nat} (h : TrB w q lo (some ⟨g, 0, none⟩) n c ts) (hk : k < n) (x : Int) : TrB (w.setCell ⟨g, k, none⟩ (.int .i64 x)) q lo (some ⟨g, 0, none⟩) n c (ts.set k x) := by
  have hne := h.ne _ rfl
  dsimp only at hne
  have hs := (h.row.set1 (t := x) (a := .int .i64 x) (fun _ => rfl) hk rfl).1
  exact ⟨(World.cell?_setCell_other _ _ _ _ (fun he => by simp only [Addr.mk.injEq] at he; omega)).trans h.c0, fun j => (World.frozen?_setCell _ _ _ _).trans (h.ff j), hs, h.ne⟩
end
/-- The state of a function that draws a tree. -/
structure TS (b : Nat) (A : Option Addr) (n c m : Nat) (w0 w : World) (q : Nat) (A' : Option Addr) (k d : Nat) (ts : List Int) : Prop where
  t : TrB w q (w0.heap.size + 1) A' k d ts
  r : Box w w0.heap.size [.slice none 0 0]
  cu : CurE b A n c m w
  g : w0.grownBy w (some b)
  hb : b < w0.heap.size
  hA : ∀ x, A = some x → 0 < n → x.block < w0.heap.size
  hq : w0.heap.size < q
section
variable {b : Nat} {A : Option Addr} {n c m m2 : Nat} {w0 w w' : World} {q : Nat} {A' : Option Addr} {k d : Nat} {ts : List Int}
theorem TS.keep (h : TS b A n c m w0 w q A' k d ts) (hb : Bw w w') : TS b A n c m w0 w' q A' k d ts := ⟨h.t.keep hb, h.r.keep hb, h.cu.keep hb, h.g.trans (hb.gr _), h.hb, h.hA, h.hq⟩
theorem TS.mono (h : TS b A n c m w0 w q A' k d ts) (hm : m ≤ m2) : TS b A n c m2 w0 w q A' k d ts := ⟨h.t, h.r, h.cu.mono hm, h.g, h.hb, h.hA, h.hq⟩
theorem TS.cur (h : TS b A n c m w0 w q A' k d ts) (hc : CurE b A n c m2 w') (hg : w.grownBy w' (some b)) : TS b A n c m2 w0 w' q A' k d ts :=
  ⟨h.t.cur hg (by have := h.hb; omega) (by have := h.hb; have := h.hq; omega), h.r.gcur hg (by have := h.hb; omega), hc, h.g.trans hg, h.hb, h.hA, h.hq⟩
theorem TS.push {A2 : Option Addr} {n2 c2 : Nat} {us : List Int} (h : TS b A n c m w0 w q A' k d ts) (hr : Row w' (w0.heap.size + 1) 3 1 icell A2 n2 c2 us) (hg : w.grownBy w' (Value.ownBlock (.slice A' k d))) (hmv : ∃ x, A2 = some x ∧ (w.heap.size ≤ x.block ∨ ∃ y, A' = some y ∧ x.block = y.block)) :
    TS b A n c m w0 (w'.setCell ⟨q, 0, none⟩ (.slice A2 n2 c2)) q A2 n2 c2 us ∧ w'.cell? ⟨q, 0, none⟩ = some (.slice A' k d) ∧ ∀ j, w'.frozen? ⟨q, j, none⟩ = false := by
  have hP := h.t.push hr hg hmv
  have hlA : ∀ x, A' = some x → w0.heap.size + 1 ≤ x.block := fun x hx => (h.t.row.lt x hx).1
  have hqq := h.hq
  refine ⟨⟨hP.1, (h.r.grown hg (fun he => by
    cases A' with
    | none => simp [Value.ownBlock] at he
    | some y => simp only [Value.ownBlock, Option.some.injEq] at he; have := hlA y rfl; omega)).grown (cu_setCell w' ⟨q, 0, none⟩ (.slice A2 n2 c2)) (by simp; omega), (h.cu.row hg (fun x hx => by have := hlA x hx; omega) h.hb h.hA).set (lo := w0.heap.size) (p := ⟨q, 0, none⟩) (by dsimp only; omega) h.hb h.hA _, gr_set (gr_row (lo := w0.heap.size) h.g hg (fun x hx => by have := hlA x hx; omega) (Nat.le_refl _)) (by dsimp only; omega) _, h.hb, h.hA, h.hq⟩, hP.2.1, hP.2.2⟩
theorem TS.take (h : TS b A n c m w0 w q A' k d ts) (hA : A' ≠ none) {j : Nat} (hk : j ≤ k) : TS b A n c m w0 (w.setCell ⟨q, 0, none⟩ (.slice A' j d)) q A' j d (ts.take j) :=
  have hqq := h.hq
  ⟨h.t.take hA hk, h.r.grown (cu_setCell w ⟨q, 0, none⟩ (.slice A' j d)) (by simp; omega), h.cu.set (lo := w0.heap.size) (p := ⟨q, 0, none⟩) (by dsimp only; omega) h.hb h.hA _, gr_set h.g (by dsimp only; omega) _, h.hb, h.hA, h.hq⟩
theorem TS.setEl {g j : Nat} (h : TS b A n c m w0 w q (some ⟨g, 0, none⟩) k d ts) (hk : j < k) (x : Int) : TS b A n c m w0 (w.setCell ⟨g, j, none⟩ (.int .i64 x)) q (some ⟨g, 0, none⟩) k d (ts.set j x) :=
  have hgg := (h.t.row.lt _ rfl).1
  ⟨h.t.setEl hk x, h.r.grown (cu_setCell w ⟨g, j, none⟩ (.int .i64 x)) (by dsimp only at hgg; simp; omega), h.cu.set (lo := w0.heap.size) (p := ⟨g, j, none⟩) (by dsimp only at hgg ⊢; omega) h.hb h.hA _, gr_set h.g (by dsimp only at hgg ⊢; omega) _, h.hb, h.hA, h.hq⟩
end
def lenW : Value → Nat
  | .slice _ n _ => n
  | _ => 0
section
variable (b : Nat) (A : Option Addr) (n c m : Nat)
theorem c_pickA (k : Int) (k1 : k ≤ 200) (hm : m ≤ 900000) (hn : n ≤ 1000000) (w : World) (h : CurE b A n c m w) :
    Calls Tryz.prog 47 #[.pointer (some ⟨b, 0, none⟩), .int .i64 k] w fun e w' => (∃ x : Int, e = .returned (.int .i64 x)) ∧ CurE b A n c (m + 1) w' ∧ w.grownBy w' (some b) := by
  by_cases hk : 1 ≤ k
  · exact (c_pickE b A n c m k hk k1 hm hn w h).mono fun e w' ⟨⟨x, he, _⟩, h2, h3⟩ => ⟨⟨x, he⟩, h2, h3⟩
  · go_enter Tryz.func47, Tryz.ntmps47
    go_wp2
    go_ret
    exact ⟨⟨_, rfl⟩, h.mono (by omega), World.grownBy.refl _ _⟩
set_option maxRecDepth 100000 in
set_option maxHeartbeats 2000000 in
theorem c_anyTree (hm : m ≤ 700000) (hn : n ≤ 1000000) (w : World) (h : CurE b A n c m w) :
    Calls Tryz.prog 40 #[.pointer (some ⟨b, 0, none⟩)] w fun e w' => (∃ A' k d, ∃ ts : List Int, e = .returned (.agg #[.slice A' k d]) ∧ k ≤ 9 ∧ Row w' w.heap.size 3 1 icell A' k d ts) ∧ CurE b A n c (m + 50) w' ∧ w.grownBy w' (some b) := by
  have hlt := h.lt
  have hA := h.code.lt
  obtain ⟨i0, hi, hz0, hz1, hz2⟩ := info_parts infoInt
  have Hi := Lib.hid hi
  have Hz0 := Lib.hid hz0
  have Hz1 := Lib.hid hz1
  have Hz2 := Lib.hid hz2
  clear hi hz0 hz1 hz2
  go_enter Tryz.func40, Tryz.ntmps40
  go_wp2_with fail
  have k0 : Bw w (w.alloc (.cells #[.slice none 0 0] 26)) := (Bw.refl w).alloc _
  have R0 := Box.mk' w #[.slice none 0 0] 26
  refine (c_tree b A n c m (by omega) hn _ (h.keep k0)).mono ?_
  rintro e w1 ⟨⟨A', k, d, ts, rfl, hk2, hk8, row1⟩, h1, g1⟩
  have T0 := TrB.mk0 w1 _ 26 row1
  have R1 := (R0.gcur g1 (by omega)).keep ((Bw.refl _).alloc (.cells #[.slice A' k d] 26))
  have s1 := g1.size
  simp only [World.size_alloc] at s1 T0
  have S0 : TS b A n c (m + 10) w (w1.alloc (.cells #[.slice A' k d] 26)) w1.heap.size A' k d ts := ⟨T0, R1, h1.keep ((Bw.refl _).alloc _), gr_alloc ((k0.gr _).trans g1) _, hlt, hA, by omega⟩
  clear T0 R0 R1 g1 row1 h1
  go_wp2_with fail
  refine (c_pickE b A n c _ 24 (by omega) (by omega) (by omega) hn _ S0.cu).mono ?_
  rintro e w2 ⟨⟨x8, rfl, l8⟩, h2, g2⟩
  have S1 := S0.cur h2 g2
  clear S0 h2 g2
  generalize w1.heap.size = q at *
  obtain ⟨g, rfl, hgl, hg2⟩ := S1.t.row.form (by omega)
  have hkd := S1.t.row.caps.1
  have t1 := S1.t.c0
  have r1 := S1.r.c1
  have rf1 := S1.r.fz 0
  have e1 : ¬ g = q := fun e => S1.t.ne _ rfl e
  have e2 : ¬ q = g := fun e => e1 e.symm
  have e3 : ¬ g = w.heap.size := by omega
  have e4 : ¬ w.heap.size = g := by omega
  cases q0 : ((x8 : Int) == 0)
  · cases q1 : ((x8 : Int) == 1)
    · cases q2 : ((x8 : Int) == 2)
      · cases q3 : ((x8 : Int) == 3)
        · have t0 := S1.t.c0
          have r0 := S1.r.c1
          have rf := S1.r.fz 0
          have hrow := S1.t.row
          have hqq := S1.hq
          go_wp2
          refine bodyPost_ret (v := .agg #[.slice (some ⟨g, 0, none⟩) k d]) (by simp [results, Tryz.results40, go_sem, r0]) rfl ⟨⟨_, _, _, _, rfl, by omega, (hrow.grown (cu_setCell _ _ _) (fun x hx he => by have := (hrow.lt x hx).1; simp at he; omega)).mono (by omega)⟩, (S1.cu.set (lo := w.heap.size) (by simp) hlt hA _).mono (by omega), gr_set S1.g (by simp) _⟩
        · go_wp2_with fail
          go_loopw [] (fun wr => ∃ (A' : Option Addr) (k d : Nat) (ts : List Int), k ≤ 9 ∧ TS b A n c (m + 11 + k) w wr q A' k d ts) (fun wr => 10 - lenW (((wr).cell? ⟨q, 0, none⟩).getD undef))
          case atStart => exact ⟨_, _, _, _, by omega, S1.mono (by omega)⟩
          case round =>
            obtain ⟨B, j, e, us, hj, hS⟩ := hrel
            have t2 := hS.t.c0
            go_wp2_with fail
            go_region_law (first | (go_simp; go_at_call 47; refine (c_pickE b A n c _ 2 (by omega) (by omega) (by omega) hn _ ((hS.keep (by (repeat (first | with_reducible assumption | exact Bw.refl _ | (with_reducible refine Bw.setCell ?_ (by simp) _) | (with_reducible refine Bw.alloc ?_ _) | (with_reducible refine Bw.drew ?_) | (with_reducible refine Bw.drewN ?_ _))) : Bw wr wr.drew)).cu)).mono ?_; rintro e w3 ⟨⟨x3, rfl, l3⟩, h3, g3⟩; have hS3 := (hS.keep (by (repeat (first | with_reducible assumption | exact Bw.refl _ | (with_reducible refine Bw.setCell ?_ (by simp) _) | (with_reducible refine Bw.alloc ?_ _) | (with_reducible refine Bw.drew ?_) | (with_reducible refine Bw.drewN ?_ _))) : Bw wr wr.drew)).cur h3 g3; have t3 := hS3.t.c0; have r3 := hS3.r.c1; have rf3 := hS3.r.fz 0; have hw8 := IntWalk.i64_in (8 + (x3 : Int)) (by omega)))
            all_goals
              by_cases hc9 : (j : Int) < 8 + x3
              · have hd : decide ((j : Int) < 8 + x3) = true := by simpa using hc9
                have lq := hS3.t.lt
                have hs3 := hS3.g.size
                have hqq := hS3.hq
                go_wp2_with (at_builtin; refine append_int rfl _ _ rfl _ _ _ _ rfl hS3.t.row _ _ rfl rfl ?_ ?_ ?_; omega; omega; intro A2 c2 w4 row4 hg4 hmv4; have hP := hS3.push row4 hg4 (hmv4.imp fun x hx => ⟨hx.1, hx.2.imp Nat.le_of_lt id⟩); have t4 := hP.2.1; have f4 := hP.2.2 0)
                go_roundw
                case rel => exact ⟨A2, j + 1, c2, _, by omega, hP.1.mono (by omega)⟩
                case measure => simp [lenW, t2, t4, go_sem]; omega
              · have hd : decide ((j : Int) < 8 + x3) = false := by simpa using hc9
                have S2 := hS3.mono (show _ ≤ m + 40 by omega)
                have t0 := S2.t.c0
                have r0 := S2.r.c1
                have rf := S2.r.fz 0
                have hrow := S2.t.row
                have hqq := S2.hq
                go_wp2
                refine bodyPost_ret (v := .agg #[.slice (B) j e]) (by simp [results, Tryz.results40, go_sem, r0]) rfl ⟨⟨_, _, _, rfl, by omega, _, (hrow.grown (cu_setCell _ _ _) (fun x hx he => by have := (hrow.lt x hx).1; simp at he; omega)).mono (by omega)⟩, (S2.cu.set (lo := w.heap.size) (by simp) hlt hA _).mono (by omega), gr_set S2.g (by simp) _⟩
      · go_wp2_with fail
        refine (c_pickE b A n c _ ((k : Int) - 1) (by omega) (by omega) (by omega) hn _ S1.cu).mono ?_
        rintro e w3 ⟨⟨x3, rfl, l3⟩, h3, g3⟩
        have S2 := S1.cur h3 g3
        have t2 := S2.t.c0
        have hz1 := S2.t.row.frozen (1 + x3)
        have hwr : IntKind.i64.wrap ((1 : Int) + x3 - 1) = x3 := by simp [IntKind.wrap, IntKind.bits, IntKind.signed]; omega
        have hta : ∀ o, (w3.alloc o).cell? ⟨q, 0, none⟩ = some (.slice (some ⟨g, 0, none⟩) k d) := fun o => (S2.t.keep ((Bw.refl _).alloc o)).c0
        have hx3 : (1 : Int) + x3 < k := by omega
        have hx0 : (0 : Int) ≤ 1 + x3 := by omega
        have hnn : ((1 : Int) + x3).toNat = 1 + x3 := by omega
        go_wp2_with fail
        go_region_law (first | (go_simp; go_at_call 55; refine (c_amongL b A n c _ _ _ _ _ (by omega) (by omega) (by simp) rfl (by omega) hn _ ((S2.keep (by (repeat (first | with_reducible assumption | exact Bw.refl _ | (with_reducible refine Bw.setCell ?_ (by simp) _) | (with_reducible refine Bw.alloc ?_ _) | (with_reducible refine Bw.drew ?_) | (with_reducible refine Bw.drewN ?_ _))) : Bw w3 w3.drew)).cu) _ (by simp)).mono ?_; rintro e w4 ⟨⟨x4, rfl⟩, h4, g4⟩; have S4 := (S2.keep (by (repeat (first | with_reducible assumption | exact Bw.refl _ | (with_reducible refine Bw.setCell ?_ (by simp) _) | (with_reducible refine Bw.alloc ?_ _) | (with_reducible refine Bw.drew ?_) | (with_reducible refine Bw.drewN ?_ _))) : Bw w3 w3.drew)).cur h4 g4; have t4 := S4.t.c0; have r4 := S4.r.c1; have rf4 := S4.r.fz 0; have z4 := S4.t.row.frozen (1 + x3); obtain ⟨g', hg', _, _, _, hc⟩ := S4.t.row.ints (by omega); obtain rfl : g = g' := (by simpa using hg'); have q4 := hc (1 + x3) (by omega); clear hc hg'))
        all_goals
          have S5 := S4.setEl (j := 1 + x3) (by omega) x4
          have S6 := S5.mono (show _ ≤ m + 40 by omega)
          have t0 := S6.t.c0
          have r0 := S6.r.c1
          have rf := S6.r.fz 0
          have hrow := S6.t.row
          have hqq := S6.hq
          go_wp2
          refine bodyPost_ret (v := .agg #[.slice (some ⟨g, 0, none⟩) k d]) (by simp [results, Tryz.results40, go_sem, r0]) rfl ⟨⟨_, _, _, _, rfl, by omega, (hrow.grown (cu_setCell _ _ _) (fun x hx he => by have := (hrow.lt x hx).1; simp at he; omega)).mono (by omega)⟩, (S6.cu.set (lo := w.heap.size) (by simp) hlt hA _).mono (by omega), gr_set S6.g (by simp) _⟩
    · have z0 := S1.t.row.frozen 0
      obtain ⟨g', hg', _, _, _, hc⟩ := S1.t.row.ints (by omega)
      obtain rfl : g = g' := by simpa using hg'
      have q00 := hc 0 (by omega)
      clear hc hg'
      have S2 := S1.setEl (j := 0) (by omega) 0
      have t0 := S2.t.c0
      have r0 := S2.r.c1
      have rf := S2.r.fz 0
      have hrow := S2.t.row
      have hqq := S2.hq
      go_wp2
      refine bodyPost_ret (v := .agg #[.slice (some ⟨g, 0, none⟩) k d]) (by simp [results, Tryz.results40, go_sem, r0]) rfl ⟨⟨_, _, _, _, rfl, by omega, (hrow.grown (cu_setCell _ _ _) (fun x hx he => by have := (hrow.lt x hx).1; simp at he; omega)).mono (by omega)⟩, (S2.cu.set (lo := w.heap.size) (by simp) hlt hA _).mono (by omega), gr_set S2.g (by simp) _⟩
  · go_wp2_with fail
    go_region_law (first | (go_simp; go_at_call 47; refine (c_pickE b A n c _ 2 (by omega) (by omega) (by omega) hn _ ((S1.keep (by (repeat (first | with_reducible assumption | exact Bw.refl _ | (with_reducible refine Bw.setCell ?_ (by simp) _) | (with_reducible refine Bw.alloc ?_ _) | (with_reducible refine Bw.drew ?_) | (with_reducible refine Bw.drewN ?_ _))) : Bw w2 w2.drew)).cu)).mono ?_; rintro e w3 ⟨⟨x3, rfl, l3⟩, h3, g3⟩; have S2 := (S1.keep (by (repeat (first | with_reducible assumption | exact Bw.refl _ | (with_reducible refine Bw.setCell ?_ (by simp) _) | (with_reducible refine Bw.alloc ?_ _) | (with_reducible refine Bw.drew ?_) | (with_reducible refine Bw.drewN ?_ _))) : Bw w2 w2.drew)).cur h3 g3; have t2 := S2.t.c0; have f2 := S2.t.ff 0; have hx3 : (x3 : Int) ≤ d := (by omega); have r2 := S2.r.c1; have rf2 := S2.r.fz 0; have hqq2 := S2.hq; have e5 : ¬ q = w.heap.size := (by omega); have e6 : ¬ w.heap.size = q := (by omega)))
    all_goals
      have S3 := S2.take (j := x3) (by simp) (by omega)
      have t0 := S3.t.c0
      have r0 := S3.r.c1
      have rf := S3.r.fz 0
      have hrow := S3.t.row
      have hqq := S3.hq
      go_wp2
      refine bodyPost_ret (v := .agg #[.slice (some ⟨g, 0, none⟩) x3 d]) (by simp [results, Tryz.results40, go_sem, r0]) rfl ⟨⟨_, _, _, _, rfl, by omega, (hrow.grown (cu_setCell _ _ _) (fun x hx he => by have := (hrow.lt x hx).1; simp at he; omega)).mono (by omega)⟩, (S3.cu.set (lo := w.heap.size) (by simp) hlt hA _).mono (by omega), gr_set S3.g (by simp) _⟩
end
end Go.Proofs.YthciecmofgoebaaGreatDoor
