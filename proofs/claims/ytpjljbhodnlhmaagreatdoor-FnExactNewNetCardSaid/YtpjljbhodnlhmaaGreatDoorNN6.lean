
/- Marks in a new network. -/
import Derived.Test.YtpjljbhodnlhmaaGreatDoorNN4
import Derived.Test.YtpjljbhodnlhmaaGreatDoorNN5
namespace Go.Proofs.YtpjljbhodnlhmaaGreatDoor
open Go.RowKit
def Ap (A B : Option Addr) : Prop := ∀ x y, A = some x → B = some y → x.block ≠ y.block
theorem Ap.symm {A B : Option Addr} (h : Ap A B) : Ap B A := fun x y hx hy he => h y x hy hx he.symm
theorem Row.far {T : Type} {w w' : World} {lo : Nat} {e : TypeId} {sz : Nat} {enc : T → List Value} {A B : Option Addr} {n c m d : Nat} {ts : List T} (h : Row w lo e sz enc A n c ts) (hg : w.grownBy w' (Value.ownBlock (.slice B m d))) (ha : Ap A B) : Row w' lo e sz enc A n c ts :=
  h.grown hg (fun x hx he => by
    cases B with
    | none => simp [Value.ownBlock] at he
    | some y =>
      simp only [Value.ownBlock, Option.some.injEq] at he
      exact ha x y hx rfl he.symm)
/-- The five rows of a network, apart. -/
structure NM (W : World) (lo n m : Nat) (ps : List Int) (B : Option Addr) (d : Nat) (E R Q U : Option Addr) (ce cr cq cu : Nat) (es : List Int) (rs : List (Bool × Int × Int)) (us : List Unit) : Prop where
  r0 : Row W lo 3 1 icell B n d ps
  r1 : Row W lo 89 2 eE E m ce es
  r2 : Row W lo 96 5 eR R m cr rs
  r3 : Row W lo 98 1 eQ Q m cq us
  r4 : Row W lo 98 1 eQ U m cu us
  a01 : Ap B E
  a02 : Ap B R
  a03 : Ap B Q
  a04 : Ap B U
  a12 : Ap E R
  a13 : Ap E Q
  a14 : Ap E U
  a23 : Ap R Q
  a24 : Ap R U
section
variable {W W' : World} {lo lo' n m : Nat} {ps : List Int} {B : Option Addr} {d : Nat} {E R Q U : Option Addr} {ce cr cq cu : Nat} {es : List Int} {rs : List (Bool × Int × Int)} {us : List Unit}
theorem NM.keep (h : NM W lo n m ps B d E R Q U ce cr cq cu es rs us) (hb : Bw W W') : NM W' lo n m ps B d E R Q U ce cr cq cu es rs us := ⟨h.r0.keep hb, h.r1.keep hb, h.r2.keep hb, h.r3.keep hb, h.r4.keep hb, h.a01, h.a02, h.a03, h.a04, h.a12, h.a13, h.a14, h.a23, h.a24⟩
theorem NM.mono (h : NM W lo n m ps B d E R Q U ce cr cq cu es rs us) (hl : lo' ≤ lo) : NM W lo' n m ps B d E R Q U ce cr cq cu es rs us := ⟨h.r0.mono hl, h.r1.mono hl, h.r2.mono hl, h.r3.mono hl, h.r4.mono hl, h.a01, h.a02, h.a03, h.a04, h.a12, h.a13, h.a14, h.a23, h.a24⟩
theorem NM.ofNR {g1 g2 g3 g4 : Nat} (h : NR W lo n ps B d g1 g2 g3 g4 es rs) : NM W lo n n ps B d (some ⟨g1, 0, none⟩) (some ⟨g2, 0, none⟩) (some ⟨g3, 0, none⟩) (some ⟨g4, 0, none⟩) n n n n es rs (List.replicate n ()) := by
  refine ⟨h.r0, h.r1, h.r2, h.r3, h.r4, ?_, ?_, ?_, ?_, ?_, ?_, ?_, ?_, ?_⟩ <;> (intro x y hx hy; cases hy)
  · exact (h.d0 x hx).1
  · exact (h.d0 x hx).2.1
  · exact (h.d0 x hx).2.2.1
  · exact (h.d0 x hx).2.2.2
  all_goals cases hx
  · exact h.d1.1
  · exact h.d1.2.1
  · exact h.d1.2.2
  · exact h.d2.1
  · exact h.d2.2
theorem NM.nil (W : World) (lo : Nat) : NM W lo 0 0 [] none 0 none none none none 0 0 0 0 [] [] [] := by
  refine ⟨Row.nil _ _ _ _ _, Row.nil _ _ _ _ _, Row.nil _ _ _ _ _, Row.nil _ _ _ _ _, Row.nil _ _ _ _ _, ?_, ?_, ?_, ?_, ?_, ?_, ?_, ?_, ?_⟩ <;> (intro x y hx; cases hx)
end
/-- A row's block is written: what lies below is as it was. -/
theorem Row.below {T : Type} {w w' : World} {lo : Nat} {e : TypeId} {sz : Nat} {enc : T → List Value} {A : Option Addr} {n c : Nat} {ts : List T} (h : Row w lo e sz enc A n c ts) (hlo : lo ≤ w.heap.size) (hg : w.grownBy w' (Value.ownBlock (.slice A n c))) : Below lo w w' :=
  (Below.refl lo w).grown hg hlo (fun j hj => by
    cases A with
    | none => simp [Value.ownBlock] at hj
    | some y => simp only [Value.ownBlock, Option.some.injEq] at hj; have := (h.lt y rfl).1; omega)
theorem n_markStringS (k0 : Int) (w : World) : Calls Tryz.prog 108 #[.slice none 0 0, .int .i64 k0] w fun e w' => e = .returned (.int .i64 k0) ∧ w = w' := by
  go_enter Tryz.func108, Tryz.ntmps108
  go_wp2
  go_loop [1, 5] (fun kv i => kv = .int .i64 k0 ∧ i = .int .i64 0) (fun _ _ => 0)
  case atStart => exact ⟨rfl, rfl⟩
  case round =>
    obtain ⟨rfl, rfl⟩ := hrel
    go_wp2
    go_ret
    exact ⟨rfl, rfl⟩
theorem n_markHoldS (k0 : Int) (w : World) : Calls Tryz.prog 61 #[.slice none 0 0, .int .i64 k0] w fun e w' => e = .returned (.int .i64 k0) ∧ w = w' := by
  go_enter Tryz.func61, Tryz.ntmps61
  go_wp2
  go_loop [1, 5] (fun kv i => kv = .int .i64 k0 ∧ i = .int .i64 0) (fun _ _ => 0)
  case atStart => exact ⟨rfl, rfl⟩
  case round =>
    obtain ⟨rfl, rfl⟩ := hrel
    go_wp2
    go_ret
    exact ⟨rfl, rfl⟩
theorem n_heldStringS (k0 : Int) (w : World) : Calls Tryz.prog 110 #[.slice none 0 0, .int .i64 k0] w fun e w' => e = .returned (.int .i64 k0) ∧ w = w' := by
  go_enter Tryz.func110, Tryz.ntmps110
  go_wp2
  go_loop [1, 5] (fun kv i => kv = .int .i64 k0 ∧ i = .int .i64 0) (fun _ _ => 0)
  case atStart => exact ⟨rfl, rfl⟩
  case round =>
    obtain ⟨rfl, rfl⟩ := hrel
    go_wp2
    go_ret
    exact ⟨rfl, rfl⟩
theorem n_heldHoldS (k0 : Int) (w : World) : Calls Tryz.prog 68 #[.slice none 0 0, .int .i64 k0] w fun e w' => e = .returned (.int .i64 k0) ∧ w = w' := by
  go_enter Tryz.func68, Tryz.ntmps68
  go_wp2
  go_loop [1, 5] (fun kv i => kv = .int .i64 k0 ∧ i = .int .i64 0) (fun _ _ => 0)
  case atStart => exact ⟨rfl, rfl⟩
  case round =>
    obtain ⟨rfl, rfl⟩ := hrel
    go_wp2
    go_ret
    exact ⟨rfl, rfl⟩
theorem n_markSW (T Z k0 : Int) (hk0 : 0 ≤ k0) (w : World) : Calls Tryz.prog 60 #[.agg #[.int .i64 T, .int .i64 Z, .slice none 0 0], .int .i64 k0] w fun e w' => e = .returned (.int .i64 k0) ∧ Bw w w' := by
  have _ := hk0
  go_enter Tryz.func60, Tryz.ntmps60
  go_wp2_with (go_at_call 108; refine (n_markStringS _ _).mono ?_; rintro e w1 ⟨rfl, rfl⟩)
  go_ret
  exact ⟨rfl, by (repeat (first | with_reducible assumption | exact Bw.refl _ | (with_reducible refine Bw.setCell ?_ (by simp) _) | (with_reducible refine Bw.alloc ?_ _) | (with_reducible refine Bw.drew ?_) | (with_reducible refine Bw.drewN ?_ _)))⟩
theorem n_markSource (T Z k0 : Int) (hk0 : 0 ≤ k0) (w : World) : Calls Tryz.prog 32 #[.agg #[.int .i64 T, .int .i64 Z, .slice none 0 0, .int .i64 0, .int .i64 0, .slice none 0 0], .int .i64 k0] w fun e w' => e = .returned (.int .i64 k0) ∧ Bw w w' := by
  have hbx : Bw w (w.alloc (.cells #[.int .i64 T, .int .i64 Z, .slice none 0 0, .int .i64 0, .int .i64 0, .slice none 0 0] 32)) := Bw.alloc (Bw.refl _) _
  go_enter Tryz.func32, Tryz.ntmps32
  go_wp2_with (go_at_call 60; refine (n_markSW T Z k0 hk0 _).mono ?_; rintro e w1 ⟨rfl, hb1⟩; have b5 := hb1.cellv (p := ⟨w.heap.size, 5, none⟩) (v := .slice none 0 0) (by go_simp))
  refine (n_markHoldS _ _).mono ?_
  rintro e w2 ⟨rfl, rfl⟩
  go_wp2_with fail
  go_ret
  exact ⟨rfl, hbx.trans hb1⟩
theorem n_heldSW (T Z k0 : Int) (hk0 : 0 ≤ k0) (w : World) : Calls Tryz.prog 67 #[.agg #[.int .i64 T, .int .i64 Z, .slice none 0 0], .int .i64 k0] w fun e w' => e = .returned (.int .i64 k0) ∧ Bw w w' := by
  have _ := hk0
  go_enter Tryz.func67, Tryz.ntmps67
  go_wp2_with (go_at_call 110; refine (n_heldStringS _ _).mono ?_; rintro e w1 ⟨rfl, rfl⟩)
  go_ret
  exact ⟨rfl, by (repeat (first | with_reducible assumption | exact Bw.refl _ | (with_reducible refine Bw.setCell ?_ (by simp) _) | (with_reducible refine Bw.alloc ?_ _) | (with_reducible refine Bw.drew ?_) | (with_reducible refine Bw.drewN ?_ _)))⟩
theorem n_heldSource (T Z k0 : Int) (hk0 : 0 ≤ k0) (w : World) : Calls Tryz.prog 37 #[.agg #[.int .i64 T, .int .i64 Z, .slice none 0 0, .int .i64 0, .int .i64 0, .slice none 0 0], .int .i64 k0] w fun e w' => e = .returned (.int .i64 k0) ∧ Bw w w' := by
  have hbx : Bw w (w.alloc (.cells #[.int .i64 T, .int .i64 Z, .slice none 0 0, .int .i64 0, .int .i64 0, .slice none 0 0] 32)) := Bw.alloc (Bw.refl _) _
  go_enter Tryz.func37, Tryz.ntmps37
  go_wp2_with (go_at_call 67; refine (n_heldSW T Z k0 hk0 _).mono ?_; rintro e w1 ⟨rfl, hb1⟩; have b5 := hb1.cellv (p := ⟨w.heap.size, 5, none⟩) (v := .slice none 0 0) (by go_simp))
  refine (n_heldHoldS _ _).mono ?_
  rintro e w2 ⟨rfl, rfl⟩
  go_wp2_with fail
  go_ret
  exact ⟨rfl, hbx.trans hb1⟩
theorem n_heldTree (A : Option Addr) (n c : Nat) (k0 : Int) (w : World) (hn : n ≤ 1048576) (hk0 : 0 ≤ k0) (hk1 : k0 ≤ 1000000000) (h : Rd w A n 1 ((marksI n k0).map icell)) :
    Calls Tryz.prog 36 #[.agg #[.slice A n c], .int .i64 k0] w fun e w' => e = .returned (.int .i64 (k0 + n)) ∧ Bw w w' := by
  go_enter Tryz.func36, Tryz.ntmps36
  go_wp2_with (go_at_call 66; refine (c_heldIntS _ _ _ k0 _ hn hk0 (by omega) (h.keep (Bw.alloc (Bw.refl _) _))).mono ?_; rintro e w1 ⟨rfl, rfl⟩)
  go_ret
  exact ⟨rfl, by (repeat (first | with_reducible assumption | exact Bw.refl _ | (with_reducible refine Bw.setCell ?_ (by simp) _) | (with_reducible refine Bw.alloc ?_ _) | (with_reducible refine Bw.drew ?_) | (with_reducible refine Bw.drewN ?_ _)))⟩
theorem n_markTree (A : Option Addr) (n c : Nat) (ts : List Int) (k0 : Int) (lo : Nat) (w : World) (hn : n ≤ 1048576) (hk0 : 0 ≤ k0) (hk1 : k0 ≤ 1000000000) (h : Row w lo 3 1 icell A n c ts) :
    Calls Tryz.prog 11 #[.agg #[.slice A n c], .int .i64 k0] w fun e w' => e = .returned (.int .i64 (k0 + n)) ∧ Row w' lo 3 1 icell A n c (marksI n k0) ∧ w.grownBy w' (Value.ownBlock (.slice A n c)) := by
  go_enter Tryz.func11, Tryz.ntmps11
  go_wp2_with (go_at_call 31; refine (c_markIntS _ _ _ ts k0 lo _ hn hk0 (by omega) (h.keep (Bw.alloc (Bw.refl _) _))).mono ?_; rintro e w1 ⟨rfl, row1, hg1⟩)
  go_ret
  exact ⟨rfl, row1, ((Bw.alloc (Bw.refl w) _).toGrown.weaken).trans hg1⟩
end Go.Proofs.YtpjljbhodnlhmaaGreatDoor
