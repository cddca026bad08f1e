
/- FnExactSetTimer: for every input the law returns true, and its arguments read as they did. No condition. -/
import Derived.Test.YtdfjdfhldijjbaaRows
import Derived.Test.YtdfjdfhldijjbaaLSetTimer
import Derived.Test.YtdfjdfhldijjbaaK6T
import Derived.ProofKit
import Derived.OpenShut
import Derived.ChangeOld
import Derived.Lib.SmallJoins
namespace Go.Proofs.Ytdfjdfhldijjbaa.lawSetTimer
open Go.ChangeShapes Go.WideShapes Go.ChangeAt Go.RowKit Go.Joins
set_option linter.unusedVariables false
theorem own : ownKnob Try.prog.godebug = none := by kernel_rfl
theorem laidOut : laidOutB Try.prog = true := by kernel_rfl
set_option maxRecDepth 100000 in
theorem lifted (os : Os) (started : os.Started) (H : Type) (enc : TypeId × Value → H) :
    ReturnsInHanded {} Try.checked os 9 .any (Rows.fnExactSetTimerSpec.pre6 enc Try.prog Try.f9 Rows.fnExactSetTimerRow.domain false) (Rows.fnExactSetTimerSpec.post enc Try.prog Try.f9 false true false false) := by
  refine returnsInHanded_of_change (C := Try.checked) own started (by kernel_rfl) Try.func9
    (ChangeSpec.witness6 (enc := enc) (C := Try.checked) false ⟨#[], #[.slice none 0 0, .agg #[.int .i64 0, .int .i64 0, .int .i64 0]], []⟩ 8 (by kernel_rfl) (by kernel_rfl) (by kernel_rfl) (by kernel_rfl)) ?_
  intro W base args ds gs before hval0 hW hcnd _
  have hval : ∀ (j : Nat) t v, Try.f9.params[j]? = some t → args[j]? = some v → Value.okWide Try.prog W .any base t v := hval0
  have hW' := hW
  obtain ⟨p, q, hA0, hV, rfl, hfz, hnd⟩ := hW
  have hA : DataW.TrodAll enc Try.prog W 0 (fun _ => true) true Try.f9.params.toList args.toList ds p := hA0
  rw [Try.params9] at hA hval
  obtain ⟨v0, vs0, d0, ds0, p0, q0, hargs, rfl, rfl, h0, r0⟩ := trodAll_cons hA
  obtain ⟨v1, vs1, d1, ds1, p1, q1, rfl, rfl, rfl, h1, r1⟩ := trodAll_cons r0
  obtain ⟨rfl, rfl, rfl⟩ := trodAll_nil r1
  obtain rfl : args = #[v0, v1] := by cases args; simp_all
  obtain ⟨rfl, rfl⟩ := trodVars_none hV
  have k0 := h0
  have lt0 : ∀ x ∈ p0, x.block < W.heap.size := by obtain ⟨m, hm⟩ := k0; exact DataW.trod_lt m _ _ _ hm
  have k1 := h1
  have lt1 : ∀ x ∈ p1, x.block < W.heap.size := by obtain ⟨m, hm⟩ := k1; exact DataW.trod_lt m _ _ _ hm
  clear hA0 hval0
  obtain ⟨A0, n0, c0, ts0, rfl, nc0, cm0, rd0⟩ := open_rd (sz := 3) Timer.cells Try.underlying30 (by kernel_rfl) (by omega) (fun n cs x hx => trod_timer hx) (hval 0 30 v0 rfl rfl) h0
  unfold maxLen at cm0
  obtain ⟨ca1, cb1, cc1, ya1, yb1, yc1, mm1, rfl, _, _, hya1, hyb1, hyc1⟩ := open_agg3 Try.underlying23 (by kernel_rfl) (by kernel_rfl) (hval 1 23 v1 rfl rfl) h1
  obtain ⟨i1, eqa1, _⟩ := DataW.trod_int Try.underlying3 hya1
  obtain ⟨du1, eqb1, _⟩ := DataW.trod_int Try.underlying3 hyb1
  obtain ⟨pe1, eqc1, _⟩ := DataW.trod_int Try.underlying3 hyc1
  obtain rfl := (List.cons.inj eqa1).1
  obtain rfl := (List.cons.inj eqb1).1
  obtain rfl := (List.cons.inj eqc1).1
  refine (w_SetTimer A0 n0 c0 ts0 ⟨i1, du1, pe1⟩ W (by omega) rd0).mono fun e W' ⟨he, bel⟩ => ?_
  subst he
  exact ⟨_, rfl, _, _, _, [], _, [], hW', trodAll_mk1 (shut_bool Try.underlying4 _), (trodAll_cons_mk (Below.trod laidOut (by kernel_rfl) (of_decide_eq_true (by kernel_rfl)) k0 bel.b lt0) (trodAll_cons_mk (Below.trod laidOut (by kernel_rfl) (of_decide_eq_true (by kernel_rfl)) k1 bel.b lt1) trodAll_mk0)), rfl, bel.b.frame _, fun h => by cases h⟩
theorem over : Rows.fnExactSetTimerRow.holds Try.pinned (OpenSpec.ofChange Rows.fnExactSetTimerSpec) :=
  OpenClaim.holds_of_wide 9 Try.f9 rfl rfl rfl rfl rfl rfl rfl ⟨rfl, rfl, rfl, rfl, rfl⟩ rfl rfl rfl rfl rfl (by kernel_rfl) Try.func9 (by kernel_rfl)
    (of_decide_eq_true (by kernel_rfl)) (by unfold Func.isWrapper; first | (rw [if_pos (by decide +kernel)]; kernel_rfl) | (rw [if_neg (by decide +kernel)]; exact ⟨rfl, rfl⟩))
    (fun os started H enc _ => lifted os started H enc)
theorem proved : Rows.FnExactSetTimerSaid := over
#print axioms proved
end Go.Proofs.Ytdfjdfhldijjbaa.lawSetTimer
