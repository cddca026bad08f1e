
/- Decimal numerals: the library's and the reference's come to one function. -/
import Derived.Test.YtajfmfeegiicaaaDoorK1
import Derived.Shelf.LaysM
import Derived.Shelf.Strconv.Itoa3
import Derived.Lib.AppendIntMem
namespace Go.Proofs.YtajfmfeegiicaaaDoor
open Go.RowKit Go.Shelf
def lays171_ren : Go.Shelf.Ren := ⟨fun | 171 => 41 | 243 => 54 | 246 => 62 | 283 => 75 | 284 => 76 | 285 => 77 | 286 => 78 | 129 => 90 | 317 => 89 | 318 => 91 | 319 => 92 | 320 => 93 | 337 => 100 | 338 => 101 | n => n, fun | 3 => 3 | 9 => 9 | 2 => 2 | 4 => 4 | 171 => 98 | 0 => 0 | 53 => 99 | 37 => 83 | 5 => 5 | 173 => 102 | 212 => 114 | 51 => 115 | 20 => 20 | 213 => 116 | 46 => 106 | 232 => 132 | 233 => 133 | n => n, fun | 17 => 3 | 18 => 6 | 19 => 7 | n => n⟩
theorem lays171 : Go.Proofs.LaysM.n171 Tryd.prog lays171_ren where
  mixed := by kernel_rfl
  f129 := Tryd.func90.trans (congrArg some (by kernel_rfl))
  f171 := Tryd.func41.trans (congrArg some (by kernel_rfl))
  f243 := Tryd.func54.trans (congrArg some (by kernel_rfl))
  f246 := Tryd.func62.trans (congrArg some (by kernel_rfl))
  f283 := Tryd.func75.trans (congrArg some (by kernel_rfl))
  f284 := Tryd.func76.trans (congrArg some (by kernel_rfl))
  f285 := Tryd.func77.trans (congrArg some (by kernel_rfl))
  f286 := Tryd.func78.trans (congrArg some (by kernel_rfl))
  f317 := Tryd.func89.trans (congrArg some (by kernel_rfl))
  f318 := Tryd.func91.trans (congrArg some (by kernel_rfl))
  f319 := Tryd.func92.trans (congrArg some (by kernel_rfl))
  f320 := Tryd.func93.trans (congrArg some (by kernel_rfl))
  f337 := Tryd.func100.trans (congrArg some (by kernel_rfl))
  f338 := Tryd.func101.trans (congrArg some (by kernel_rfl))
  t0 := Tryd.underlying0
  a0 := Tryd.isAgg0
  z0 := Tryd.sizeOf0
  v0 := Tryd.zeroValue0
  t2 := Tryd.underlying2
  a2 := Tryd.isAgg2
  z2 := Tryd.sizeOf2
  v2 := Tryd.zeroValue2
  t3 := Tryd.underlying3
  a3 := Tryd.isAgg3
  z3 := Tryd.sizeOf3
  v3 := Tryd.zeroValue3
  t4 := Tryd.underlying4
  a4 := Tryd.isAgg4
  z4 := Tryd.sizeOf4
  v4 := Tryd.zeroValue4
  t5 := Tryd.underlying5
  a5 := Tryd.isAgg5
  z5 := Tryd.sizeOf5
  v5 := Tryd.zeroValue5
  t9 := Tryd.underlying9
  a9 := Tryd.isAgg9
  z9 := Tryd.sizeOf9
  v9 := Tryd.zeroValue9
  t20 := Tryd.underlying20
  a20 := Tryd.isAgg20
  z20 := Tryd.sizeOf20
  v20 := Tryd.zeroValue20
  t37 := Tryd.underlying83
  a37 := Tryd.isAgg83
  z37 := Tryd.sizeOf83
  v37 := Tryd.zeroValue83
  t46 := Tryd.underlying106
  a46 := Tryd.isAgg106
  z46 := Tryd.sizeOf106
  v46 := Tryd.zeroValue106
  t51 := Tryd.underlying115
  a51 := Tryd.isAgg115
  z51 := Tryd.sizeOf115
  v51 := Tryd.zeroValue115
  t53 := Tryd.underlying99
  a53 := Tryd.isAgg99
  z53 := Tryd.sizeOf99
  v53 := Tryd.zeroValue99
  t171 := Tryd.underlying98
  a171 := Tryd.isAgg98
  z171 := Tryd.sizeOf98
  v171 := Tryd.zeroValue98
  t173 := Tryd.underlying102
  a173 := Tryd.isAgg102
  z173 := Tryd.sizeOf102
  v173 := Tryd.zeroValue102
  t212 := Tryd.underlying114
  a212 := Tryd.isAgg114
  z212 := Tryd.sizeOf114
  v212 := Tryd.zeroValue114
  t213 := Tryd.underlying116
  a213 := Tryd.isAgg116
  z213 := Tryd.sizeOf116
  t232 := Tryd.underlying132
  a232 := Tryd.isAgg132
  z232 := Tryd.sizeOf132
  v232 := Tryd.zeroValue132
  t233 := Tryd.underlying133
  a233 := Tryd.isAgg133
  z233 := Tryd.sizeOf133
  v233 := Tryd.zeroValue133
  g17 := by kernel_rfl
  g18 := by kernel_rfl
  g19 := by kernel_rfl
  i0 := by kernel_rfl
  i2 := by kernel_rfl
  i3 := by kernel_rfl
  i4 := by kernel_rfl
  i5 := by kernel_rfl
  i9 := by kernel_rfl
  i20 := by kernel_rfl
  i37 := by kernel_rfl
  i46 := by kernel_rfl
  i51 := by kernel_rfl
  i53 := by kernel_rfl
  i171 := by kernel_rfl
  i173 := by kernel_rfl
  i212 := by kernel_rfl
  i232 := by kernel_rfl
  i233 := by kernel_rfl
  m17 := by kernel_rfl
  m18 := by kernel_rfl
  m19 := by kernel_rfl
def numT (u : Nat) : ByteArray := ⟨(Lib.decDigits u).toArray⟩
/-- The table of the powers of ten stands. -/
def Tab10 (w : World) : Prop := Lib.TabIs Tryd.prog w "internal/strconv.uint64pow10" .u64 Lib.pow10Tab
theorem Tab10.keep {w w' : World} (h : Tab10 w) (hb : Bw w w') : Tab10 w' := by
  unfold Tab10 Lib.TabIs World.var? at h ⊢
  obtain ⟨g, hg, hm⟩ := Option.bind_eq_some_iff.1 h
  rw [hg, Option.bind_some]
  have hlt : g < w.heap.size := by
    rcases Nat.lt_or_ge g w.heap.size with h1 | h1
    · exact h1
    · rw [Array.getElem?_eq_none h1] at hm; cases hm
  rw [hb.blk g hlt]
  exact hm
theorem tab_vars {w : World} {name : String} {k : IntKind} {zs : List Int} {rest : List (String × DataW Unit)} {ps : List MemPlace} {g : Nat} {t e : TypeId} {n : Nat}
    (hg : Tryd.prog.globalNamed name = some g) (hty : (Tryd.prog.globals[g]?).map (·.type) = some t) (ht : Tryd.prog.underlying t = some (.array n e)) (he : Tryd.prog.underlying e = some (.int k)) (hce : Tryd.prog.cellsOf e = 1) (hct : Tryd.prog.cellsOf t = n)
    (h : DataW.LaidVars Tryd.prog w ((name, Lib.tabData k zs) :: rest) ps) : Lib.TabIs Tryd.prog w name k zs := by
  obtain ⟨g', t', cs, fuel, p, q, hg', ht', hvar, hd, _, _⟩ := h
  obtain rfl := Option.some.inj (hg.symm.trans hg')
  obtain rfl := Option.some.inj (hty.symm.trans ht')
  unfold Lib.TabIs
  rw [hvar, ← Lib.cells_of_tab ht he hce hct hd]
theorem vars_tail {w : World} {x : String × DataW Unit} {rest : List (String × DataW Unit)} {ps : List MemPlace} (h : DataW.LaidVars Tryd.prog w (x :: rest) ps) : ∃ q, DataW.LaidVars Tryd.prog w rest q := by
  obtain ⟨_, _, _, _, _, q, _, _, _, _, h1, _⟩ := h
  exact ⟨q, h1⟩
theorem laidMetH_nil {laid : List (String × DataW Unit)} {w : World} (h0 : (laid.filter fun x => x.2.handleName?.isSome) = []) (h : laidMetH Tryd.prog laid w) : laidMet Tryd.prog laid w := by
  unfold laidMetH at h
  rw [h0] at h
  exact h
theorem c_Itoa (u : Nat) (hu : u ≤ 100000) (w : World) (ht : Tab10 w) : Calls Tryd.prog 41 #[.int .i64 u] w fun e w' => e = .returned (.string (numT u)) ∧ Bw w w' := by
  have hI : Lib.itoa (u : Int) = Lib.decDigits u := by simp [Lib.itoa]
  have hcon := Any.strconv_Itoa lays171 (u : Int) (by omega) (by omega) w ht
  rw [hI] at hcon
  change Calls Tryd.prog 41 _ w (fun e w' => e = .returned (.string (numT u)) ∧ ∃ k os, w' = Go.Sort.grow (w.drewN k) os) at hcon
  refine hcon.mono ?_
  rintro e w' ⟨rfl, k, os, rfl⟩
  exact ⟨rfl, ⟨Lib.below_grow w.heap.size w (Nat.le_refl _) k os⟩⟩
theorem numT_size (u : Nat) : (numT u).size ≤ u + 1 := by
  have h : (Lib.decDigits u).length ≤ u + 1 := by
    induction u using Nat.strongRecOn with
    | ind u ih =>
      rw [Lib.decDigits]
      split
      · simp
      · have := ih (u / 10) (by omega); simp; omega
  simpa [numT, ByteArray.size] using h
theorem digit_slice (u : Nat) (h : u < 10) : (⟨#[48, 49, 50, 51, 52, 53, 54, 55, 56, 57]⟩ : ByteArray).extract u (u + 1) = ⟨#[UInt8.ofNat (48 + u)]⟩ := by
  rcases (show u = 0 ∨ u = 1 ∨ u = 2 ∨ u = 3 ∨ u = 4 ∨ u = 5 ∨ u = 6 ∨ u = 7 ∨ u = 8 ∨ u = 9 by omega) with rfl | rfl | rfl | rfl | rfl | rfl | rfl | rfl | rfl | rfl <;> decide
theorem numT_small {u : Nat} (h : u < 10) : numT u = ⟨#[UInt8.ofNat (48 + u)]⟩ := by
  unfold numT
  rw [Lib.decDigits, dif_pos h]
theorem numT_step {u : Nat} (h : ¬ u < 10) : numT u = numT (u / 10) ++ ⟨#[48 + UInt8.ofNat (u % 10)]⟩ := by
  unfold numT
  conv => lhs; rw [Lib.decDigits, dif_neg h]
  apply ByteArray.ext
  simp
set_option maxRecDepth 100000 in
theorem c_l1Num9 (u : Nat) : ∀ (hu : u ≤ 1000000) (w : World), Calls Tryd.prog 33 #[.int .i64 u] w fun e w' => e = .returned (.string (numT u)) ∧ Bw w w' := by
  induction u using Nat.strongRecOn with
  | ind u ih =>
    intro hu w
    by_cases h : u < 10
    · have hd := digit_slice u h
      have HN := Lib.hid (numT_small h)
      have hl : (u : Int) < 10 := by omega
      have hs : ((⟨#[48, 49, 50, 51, 52, 53, 54, 55, 56, 57]⟩ : ByteArray)).size = 10 := rfl
      go_enter Tryd.func33, Tryd.ntmps33
      go_wp2
      go_ret
      exact ⟨by rw [HN.out]; simp, Bw.refl _⟩
    · have HN := Lib.hid (numT_step h)
      have hd := digit_slice (u % 10) (by omega)
      have hc : ((u / 10 : Nat) : Int) = (u : Int) / 10 := by simp
      have HIH := Lib.hid (fun (x : Ext w) => by have := ih (u / 10) (by omega) (by omega) x.v; rw [hc] at this; exact this)
      have hl : ¬ (u : Int) < 10 := by omega
      have hl2 : ¬ (u : Int) < 0 := by omega
      have hs : ((⟨#[48, 49, 50, 51, 52, 53, 54, 55, 56, 57]⟩ : ByteArray)).size = 10 := rfl
      have t1 : Int.tdiv (u : Int) 10 = (u : Int) / 10 := rfl
      have t2 : Int.tmod (u : Int) 10 = (u : Int) % 10 := rfl
      have m0 : (0 : Int) ≤ (u : Int) % 10 := by omega
      have m1 : (u : Int) % 10 < 10 := by omega
      have m2 : ((u : Int) % 10).toNat = u % 10 := by omega
      have m3 : ((u : Int) % 10 + 1).toNat = u % 10 + 1 := by omega
      have m4 : (0 : Int) ≤ (u : Int) % 10 + 1 := by omega
      have m5 : (u : Int) % 10 + 1 ≤ 10 := by omega
      have m6 : (u : Int) % 10 ≤ (u : Int) % 10 + 1 := by omega
      have w1 := IntWalk.i64_in ((u : Int) / 10) (by omega)
      have w2 := IntWalk.i64_in ((u : Int) % 10) (by omega)
      have w3 := IntWalk.i64_in ((u : Int) % 10 + 1) (by omega)
      have hz := numT_size (u / 10)
      have ra := fun (W : World) => run_string_add (P := Tryd.prog) W (numT (u / 10)) ⟨#[48 + UInt8.ofNat (u % 10)]⟩ (by omega) (by simp [ByteArray.size])
      clear hc hz
      go_enter Tryd.func33, Tryd.ntmps33
      go_wp2
      (refine wp_region_ext (by kernel_rfl) (by kernel_rfl) ?_; (repeat (go_big_quiet_step (exact Ext.calls (HIH.out _)))); (with_reducible refine wpQuiet_nil ?_); intro w2 hb2)
      go_wp2
      go_ret
      exact ⟨by rw [HN.out]; rfl, hb2⟩
theorem c_l1Num (u : Nat) (hu : u ≤ 100000) (w : World) : Calls Tryd.prog 33 #[.int .i64 u] w fun e w' => e = .returned (.string (numT u)) ∧ Bw w w' := c_l1Num9 u (by omega) w
end Go.Proofs.YtajfmfeegiicaaaDoor
