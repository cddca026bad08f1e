
/- Decimal numerals: the library's and the reference's come to one function. -/
import Derived.Test.YthciecmofgoebaaGreatDoorK1
import Derived.Shelf.LaysM
import Derived.Shelf.Strconv.Itoa3
import Derived.Lib.AppendIntMem
namespace Go.Proofs.YthciecmofgoebaaGreatDoor
open Go.RowKit Go.Shelf
def lays171_ren : Go.Shelf.Ren := ⟨fun | 171 => 41 | 243 => 56 | 246 => 67 | 283 => 77 | 284 => 78 | 285 => 79 | 286 => 80 | 129 => 94 | 317 => 93 | 318 => 95 | 319 => 96 | 320 => 97 | 337 => 103 | 338 => 104 | n => n, fun | 3 => 3 | 9 => 9 | 2 => 2 | 4 => 4 | 171 => 95 | 0 => 0 | 53 => 50 | 37 => 22 | 5 => 5 | 173 => 98 | 212 => 110 | 51 => 111 | 20 => 20 | 213 => 112 | 46 => 93 | 232 => 132 | 233 => 133 | n => n, fun | 17 => 1 | 18 => 6 | 19 => 7 | n => n⟩
theorem lays171 : Go.Proofs.LaysM.n171 Tryz.prog lays171_ren where
  mixed := by kernel_rfl
  f129 := Tryz.func94.trans (congrArg some (by kernel_rfl))
  f171 := Tryz.func41.trans (congrArg some (by kernel_rfl))
  f243 := Tryz.func56.trans (congrArg some (by kernel_rfl))
  f246 := Tryz.func67.trans (congrArg some (by kernel_rfl))
  f283 := Tryz.func77.trans (congrArg some (by kernel_rfl))
  f284 := Tryz.func78.trans (congrArg some (by kernel_rfl))
  f285 := Tryz.func79.trans (congrArg some (by kernel_rfl))
  f286 := Tryz.func80.trans (congrArg some (by kernel_rfl))
  f317 := Tryz.func93.trans (congrArg some (by kernel_rfl))
  f318 := Tryz.func95.trans (congrArg some (by kernel_rfl))
  f319 := Tryz.func96.trans (congrArg some (by kernel_rfl))
  f320 := Tryz.func97.trans (congrArg some (by kernel_rfl))
  f337 := Tryz.func103.trans (congrArg some (by kernel_rfl))
  f338 := Tryz.func104.trans (congrArg some (by kernel_rfl))
  t0 := Tryz.underlying0
  a0 := Tryz.isAgg0
  z0 := Tryz.sizeOf0
  v0 := Tryz.zeroValue0
  t2 := Tryz.underlying2
  a2 := Tryz.isAgg2
  z2 := Tryz.sizeOf2
  v2 := Tryz.zeroValue2
  t3 := Tryz.underlying3
  a3 := Tryz.isAgg3
  z3 := Tryz.sizeOf3
  v3 := Tryz.zeroValue3
  t4 := Tryz.underlying4
  a4 := Tryz.isAgg4
  z4 := Tryz.sizeOf4
  v4 := Tryz.zeroValue4
  t5 := Tryz.underlying5
  a5 := Tryz.isAgg5
  z5 := Tryz.sizeOf5
  v5 := Tryz.zeroValue5
  t9 := Tryz.underlying9
  a9 := Tryz.isAgg9
  z9 := Tryz.sizeOf9
  v9 := Tryz.zeroValue9
  t20 := Tryz.underlying20
  a20 := Tryz.isAgg20
  z20 := Tryz.sizeOf20
  v20 := Tryz.zeroValue20
  t37 := Tryz.underlying22
  a37 := Tryz.isAgg22
  z37 := Tryz.sizeOf22
  v37 := Tryz.zeroValue22
  t46 := Tryz.underlying93
  a46 := Tryz.isAgg93
  z46 := Tryz.sizeOf93
  v46 := Tryz.zeroValue93
  t51 := Tryz.underlying111
  a51 := Tryz.isAgg111
  z51 := Tryz.sizeOf111
  v51 := Tryz.zeroValue111
  t53 := Tryz.underlying50
  a53 := Tryz.isAgg50
  z53 := Tryz.sizeOf50
  v53 := Tryz.zeroValue50
  t171 := Tryz.underlying95
  a171 := Tryz.isAgg95
  z171 := Tryz.sizeOf95
  v171 := Tryz.zeroValue95
  t173 := Tryz.underlying98
  a173 := Tryz.isAgg98
  z173 := Tryz.sizeOf98
  v173 := Tryz.zeroValue98
  t212 := Tryz.underlying110
  a212 := Tryz.isAgg110
  z212 := Tryz.sizeOf110
  v212 := Tryz.zeroValue110
  t213 := Tryz.underlying112
  a213 := Tryz.isAgg112
  z213 := Tryz.sizeOf112
  t232 := Tryz.underlying132
  a232 := Tryz.isAgg132
  z232 := Tryz.sizeOf132
  v232 := Tryz.zeroValue132
  t233 := Tryz.underlying133
  a233 := Tryz.isAgg133
  z233 := Tryz.sizeOf133
  v233 := Tryz.zeroValue133
  g17 := by kernel_rfl
  g18 := by kernel_rfl
  g19 := by kernel_rfl
  i0 := by kernel_rfl
  i2 := by kernel_rfl
  i3 := by kernel_rfl
  i4 := by kernel_rfl
  i5 := by kernel_rfl
  i9 := by kernel_rfl
  i20 := by kernel_rfl
  i37 := by kernel_rfl
  i46 := by kernel_rfl
  i51 := by kernel_rfl
  i53 := by kernel_rfl
  i171 := by kernel_rfl
  i173 := by kernel_rfl
  i212 := by kernel_rfl
  i232 := by kernel_rfl
  i233 := by kernel_rfl
  m17 := by kernel_rfl
  m18 := by kernel_rfl
  m19 := by kernel_rfl
def numT (u : Nat) : ByteArray := ⟨(Lib.decDigits u).toArray⟩
/-- The table of the powers of ten stands. -/
def Tab10 (w : World) : Prop := Lib.TabIs Tryz.prog w "internal/strconv.uint64pow10" .u64 Lib.pow10Tab
theorem Tab10.keep {w w' : World} (h : Tab10 w) (hb : Bw w w') : Tab10 w' := by
  unfold Tab10 Lib.TabIs World.var? at h ⊢
  obtain ⟨g, hg, hm⟩ := Option.bind_eq_some_iff.1 h
  rw [hg, Option.bind_some]
  have hlt : g < w.heap.size := by
    rcases Nat.lt_or_ge g w.heap.size with h1 | h1
    · exact h1
    · rw [Array.getElem?_eq_none h1] at hm; cases hm
  rw [hb.blk g hlt]
  exact hm
theorem tab_vars {w : World} {name : String} {k : IntKind} {zs : List Int} {rest : List (String × DataW Unit)} {ps : List MemPlace} {g : Nat} {t e : TypeId} {n : Nat}
    (hg : Tryz.prog.globalNamed name = some g) (hty : (Tryz.prog.globals[g]?).map (·.type) = some t) (ht : Tryz.prog.underlying t = some (.array n e)) (he : Tryz.prog.underlying e = some (.int k)) (hce : Tryz.prog.cellsOf e = 1) (hct : Tryz.prog.cellsOf t = n)
    (h : DataW.LaidVars Tryz.prog w ((name, Lib.tabData k zs) :: rest) ps) : Lib.TabIs Tryz.prog w name k zs := by
  obtain ⟨g', t', cs, fuel, p, q, hg', ht', hvar, hd, _, _⟩ := h
  obtain rfl := Option.some.inj (hg.symm.trans hg')
  obtain rfl := Option.some.inj (hty.symm.trans ht')
  unfold Lib.TabIs
  rw [hvar, ← Lib.cells_of_tab ht he hce hct hd]
theorem vars_tail {w : World} {x : String × DataW Unit} {rest : List (String × DataW Unit)} {ps : List MemPlace} (h : DataW.LaidVars Tryz.prog w (x :: rest) ps) : ∃ q, DataW.LaidVars Tryz.prog w rest q := by
  obtain ⟨_, _, _, _, _, q, _, _, _, _, h1, _⟩ := h
  exact ⟨q, h1⟩
theorem laidMetH_nil {laid : List (String × DataW Unit)} {w : World} (h0 : (laid.filter fun x => x.2.handleName?.isSome) = []) (h : laidMetH Tryz.prog laid w) : laidMet Tryz.prog laid w := by
  unfold laidMetH at h
  rw [h0] at h
  exact h
theorem c_Itoa (u : Nat) (hu : u ≤ 100000) (w : World) (ht : Tab10 w) : Calls Tryz.prog 41 #[.int .i64 u] w fun e w' => e = .returned (.string (numT u)) ∧ Bw w w' := by
  have hI : Lib.itoa (u : Int) = Lib.decDigits u := by simp [Lib.itoa]
  have hcon := Any.strconv_Itoa lays171 (u : Int) (by omega) (by omega) w ht
  rw [hI] at hcon
  change Calls Tryz.prog 41 _ w (fun e w' => e = .returned (.string (numT u)) ∧ ∃ k os, w' = Go.Sort.grow (w.drewN k) os) at hcon
  refine hcon.mono ?_
  rintro e w' ⟨rfl, k, os, rfl⟩
  exact ⟨rfl, ⟨Lib.below_grow w.heap.size w (Nat.le_refl _) k os⟩⟩
theorem numT_size (u : Nat) : (numT u).size ≤ u + 1 := by
  have h : (Lib.decDigits u).length ≤ u + 1 := by
    induction u using Nat.strongRecOn with
    | ind u ih =>
      rw [Lib.decDigits]
      split
      · simp
      · have := ih (u / 10) (by omega); simp; omega
  simpa [numT, ByteArray.size] using h
theorem digit_slice (u : Nat) (h : u < 10) : (⟨#[48, 49, 50, 51, 52, 53, 54, 55, 56, 57]⟩ : ByteArray).extract u (u + 1) = ⟨#[UInt8.ofNat (48 + u)]⟩ := by
  rcases (show u = 0 ∨ u = 1 ∨ u = 2 ∨ u = 3 ∨ u = 4 ∨ u = 5 ∨ u = 6 ∨ u = 7 ∨ u = 8 ∨ u = 9 by omega) with rfl | rfl | rfl | rfl | rfl | rfl | rfl | rfl | rfl | rfl <;> decide
theorem numT_small {u : Nat} (h : u < 10) : numT u = ⟨#[UInt8.ofNat (48 + u)]⟩ := by
  unfold numT
  rw [Lib.decDigits, dif_pos h]
theorem numT_step {u : Nat} (h : ¬ u < 10) : numT u = numT (u / 10) ++ ⟨#[48 + UInt8.ofNat (u % 10)]⟩ := by
  unfold numT
  conv => lhs; rw [Lib.decDigits, dif_neg h]
  apply ByteArray.ext
  simp
set_option maxRecDepth 100000 in
theorem c_l1Num9 (u : Nat) : ∀ (hu : u ≤ 1000000) (w : World), Calls Tryz.prog 46 #[.int .i64 u] w fun e w' => e = .returned (.string (numT u)) ∧ Bw w w' := by
  induction u using Nat.strongRecOn with
  | ind u ih =>
    intro hu w
    by_cases h : u < 10
    · have hd := digit_slice u h
      have HN := Lib.hid (numT_small h)
      have hl : (u : Int) < 10 := by omega
      have hs : ((⟨#[48, 49, 50, 51, 52, 53, 54, 55, 56, 57]⟩ : ByteArray)).size = 10 := rfl
      go_enter Tryz.func46, Tryz.ntmps46
      go_wp2
      go_ret
      exact ⟨by rw [HN.out]; simp, Bw.refl _⟩
    · have HN := Lib.hid (numT_step h)
      have hd := digit_slice (u % 10) (by omega)
      have hc : ((u / 10 : Nat) : Int) = (u : Int) / 10 := by simp
      have HIH := Lib.hid (fun (x : Ext w) => by have := ih (u / 10) (by omega) (by omega) x.v; rw [hc] at this; exact this)
      have hl : ¬ (u : Int) < 10 := by omega
      have hl2 : ¬ (u : Int) < 0 := by omega
      have hs : ((⟨#[48, 49, 50, 51, 52, 53, 54, 55, 56, 57]⟩ : ByteArray)).size = 10 := rfl
      have t1 : Int.tdiv (u : Int) 10 = (u : Int) / 10 := rfl
      have t2 : Int.tmod (u : Int) 10 = (u : Int) % 10 := rfl
      have m0 : (0 : Int) ≤ (u : Int) % 10 := by omega
      have m1 : (u : Int) % 10 < 10 := by omega
      have m2 : ((u : Int) % 10).toNat = u % 10 := by omega
      have m3 : ((u : Int) % 10 + 1).toNat = u % 10 + 1 := by omega
      have m4 : (0 : Int) ≤ (u : Int) % 10 + 1 := by omega
      have m5 : (u : Int) % 10 + 1 ≤ 10 := by omega
      have m6 : (u : Int) % 10 ≤ (u : Int) % 10 + 1 := by omega
      have w1 := IntWalk.i64_in ((u : Int) / 10) (by omega)
      have w2 := IntWalk.i64_in ((u : Int) % 10) (by omega)
      have w3 := IntWalk.i64_in ((u : Int) % 10 + 1) (by omega)
      have hz := numT_size (u / 10)
      have ra := fun (W : World) => run_string_add (P := Tryz.prog) W (numT (u / 10)) ⟨#[48 + UInt8.ofNat (u % 10)]⟩ (by omega) (by simp [ByteArray.size])
      clear hc hz
      go_enter Tryz.func46, Tryz.ntmps46
      go_wp2
      (refine wp_region_ext (by kernel_rfl) (by kernel_rfl) ?_; (repeat (go_big_quiet_step (exact Ext.calls (HIH.out _)))); (with_reducible refine wpQuiet_nil ?_); intro w2 hb2)
      go_wp2
      go_ret
      exact ⟨by rw [HN.out]; rfl, hb2⟩
theorem c_l1Num (u : Nat) (hu : u ≤ 100000) (w : World) : Calls Tryz.prog 46 #[.int .i64 u] w fun e w' => e = .returned (.string (numT u)) ∧ Bw w w' := c_l1Num9 u (by omega) w
end Go.Proofs.YthciecmofgoebaaGreatDoor
