
/- Reading and writing of ints: both sides. -/
import Derived.Test.YtedbidepplmjdaaDoorQ1
import Derived.Test.YtedbidepplmjdaaDoorK1
import Derived.Shelf.Strconv.AtoiAll
namespace Go.Proofs.YtedbidepplmjdaaDoor
open Go.RowKit Go.Shelf
def lays172_ren : Go.Shelf.Ren := ⟨fun | 172 => 41 | 244 => 49 | 245 => 50 | 247 => 66 | 279 => 67 | 280 => 68 | 281 => 69 | 282 => 70 | 287 => 83 | 316 => 84 | 171 => 37 | 205 => 85 | 321 => 94 | 322 => 95 | 243 => 47 | 246 => 61 | 283 => 77 | 284 => 78 | 285 => 79 | 286 => 80 | 129 => 90 | 317 => 89 | 318 => 91 | 319 => 92 | 320 => 93 | 337 => 98 | 338 => 99 | n => n, fun | 9 => 9 | 3 => 3 | 75 => 64 | 76 => 65 | 4 => 4 | 5 => 5 | 167 => 85 | 37 => 73 | 0 => 0 | 85 => 86 | 2 => 2 | 168 => 88 | 53 => 97 | 175 => 105 | 46 => 84 | 210 => 109 | 127 => 117 | 145 => 120 | 143 => 118 | 21 => 21 | 171 => 96 | 173 => 100 | 212 => 113 | 51 => 102 | 20 => 20 | 213 => 114 | 232 => 127 | 233 => 128 | 80 => 129 | n => n, fun | 15 => 1 | 16 => 2 | 17 => 3 | 18 => 6 | 19 => 7 | n => n⟩
theorem lays172 : Go.Proofs.LaysC.n172 Tryd.prog lays172_ren where
  mixed := by kernel_rfl
  f129 := Tryd.func90.trans (congrArg some (by kernel_rfl))
  f171 := Tryd.func37.trans (congrArg some (by kernel_rfl))
  f172 := Tryd.func41.trans (congrArg some (by kernel_rfl))
  f205 := Tryd.func85.trans (congrArg some (by kernel_rfl))
  f243 := Tryd.func47.trans (congrArg some (by kernel_rfl))
  f244 := Tryd.func49.trans (congrArg some (by kernel_rfl))
  f245 := Tryd.func50.trans (congrArg some (by kernel_rfl))
  f246 := Tryd.func61.trans (congrArg some (by kernel_rfl))
  f247 := Tryd.func66.trans (congrArg some (by kernel_rfl))
  f279 := Tryd.func67.trans (congrArg some (by kernel_rfl))
  f280 := Tryd.func68.trans (congrArg some (by kernel_rfl))
  f281 := Tryd.func69.trans (congrArg some (by kernel_rfl))
  f282 := Tryd.func70.trans (congrArg some (by kernel_rfl))
  f283 := Tryd.func77.trans (congrArg some (by kernel_rfl))
  f284 := Tryd.func78.trans (congrArg some (by kernel_rfl))
  f285 := Tryd.func79.trans (congrArg some (by kernel_rfl))
  f286 := Tryd.func80.trans (congrArg some (by kernel_rfl))
  f287 := Tryd.func83.trans (congrArg some (by kernel_rfl))
  f316 := Tryd.func84.trans (congrArg some (by kernel_rfl))
  f317 := Tryd.func89.trans (congrArg some (by kernel_rfl))
  f318 := Tryd.func91.trans (congrArg some (by kernel_rfl))
  f319 := Tryd.func92.trans (congrArg some (by kernel_rfl))
  f320 := Tryd.func93.trans (congrArg some (by kernel_rfl))
  f321 := Tryd.func94.trans (congrArg some (by kernel_rfl))
  f322 := Tryd.func95.trans (congrArg some (by kernel_rfl))
  f337 := Tryd.func98.trans (congrArg some (by kernel_rfl))
  f338 := Tryd.func99.trans (congrArg some (by kernel_rfl))
  t0 := Tryd.underlying0
  a0 := Tryd.isAgg0
  z0 := Tryd.sizeOf0
  v0 := Tryd.zeroValue0
  t2 := Tryd.underlying2
  a2 := Tryd.isAgg2
  z2 := Tryd.sizeOf2
  v2 := Tryd.zeroValue2
  t3 := Tryd.underlying3
  a3 := Tryd.isAgg3
  z3 := Tryd.sizeOf3
  v3 := Tryd.zeroValue3
  t4 := Tryd.underlying4
  a4 := Tryd.isAgg4
  z4 := Tryd.sizeOf4
  v4 := Tryd.zeroValue4
  t5 := Tryd.underlying5
  a5 := Tryd.isAgg5
  z5 := Tryd.sizeOf5
  v5 := Tryd.zeroValue5
  t9 := Tryd.underlying9
  a9 := Tryd.isAgg9
  z9 := Tryd.sizeOf9
  v9 := Tryd.zeroValue9
  t20 := Tryd.underlying20
  a20 := Tryd.isAgg20
  z20 := Tryd.sizeOf20
  v20 := Tryd.zeroValue20
  t21 := Tryd.underlying21
  a21 := Tryd.isAgg21
  z21 := Tryd.sizeOf21
  v21 := Tryd.zeroValue21
  t37 := Tryd.underlying73
  a37 := Tryd.isAgg73
  z37 := Tryd.sizeOf73
  v37 := Tryd.zeroValue73
  t46 := Tryd.underlying84
  a46 := Tryd.isAgg84
  z46 := Tryd.sizeOf84
  v46 := Tryd.zeroValue84
  t51 := Tryd.underlying102
  a51 := Tryd.isAgg102
  z51 := Tryd.sizeOf102
  v51 := Tryd.zeroValue102
  t53 := Tryd.underlying97
  a53 := Tryd.isAgg97
  z53 := Tryd.sizeOf97
  v53 := Tryd.zeroValue97
  t75 := Tryd.underlying64
  a75 := Tryd.isAgg64
  z75 := Tryd.sizeOf64
  v75 := Tryd.zeroValue64
  t76 := Tryd.underlying65
  a76 := Tryd.isAgg65
  z76 := Tryd.sizeOf65
  v76 := Tryd.zeroValue65
  t85 := Tryd.underlying86
  a85 := Tryd.isAgg86
  z85 := Tryd.sizeOf86
  v85 := Tryd.zeroValue86
  t127 := Tryd.underlying117
  a127 := Tryd.isAgg117
  z127 := Tryd.sizeOf117
  v127 := Tryd.zeroValue117
  t143 := Tryd.underlying118
  a143 := Tryd.isAgg118
  z143 := Tryd.sizeOf118
  v143 := Tryd.zeroValue118
  t145 := Tryd.underlying120
  a145 := Tryd.isAgg120
  z145 := Tryd.sizeOf120
  v145 := Tryd.zeroValue120
  t167 := Tryd.underlying85
  a167 := Tryd.isAgg85
  z167 := Tryd.sizeOf85
  v167 := Tryd.zeroValue85
  t168 := Tryd.underlying88
  a168 := Tryd.isAgg88
  z168 := Tryd.sizeOf88
  v168 := Tryd.zeroValue88
  t171 := Tryd.underlying96
  a171 := Tryd.isAgg96
  z171 := Tryd.sizeOf96
  v171 := Tryd.zeroValue96
  t173 := Tryd.underlying100
  a173 := Tryd.isAgg100
  z173 := Tryd.sizeOf100
  v173 := Tryd.zeroValue100
  t175 := Tryd.underlying105
  a175 := Tryd.isAgg105
  z175 := Tryd.sizeOf105
  v175 := Tryd.zeroValue105
  t210 := Tryd.underlying109
  a210 := Tryd.isAgg109
  z210 := Tryd.sizeOf109
  v210 := Tryd.zeroValue109
  t212 := Tryd.underlying113
  a212 := Tryd.isAgg113
  z212 := Tryd.sizeOf113
  v212 := Tryd.zeroValue113
  t213 := Tryd.underlying114
  a213 := Tryd.isAgg114
  z213 := Tryd.sizeOf114
  t232 := Tryd.underlying127
  a232 := Tryd.isAgg127
  z232 := Tryd.sizeOf127
  v232 := Tryd.zeroValue127
  t233 := Tryd.underlying128
  a233 := Tryd.isAgg128
  z233 := Tryd.sizeOf128
  v233 := Tryd.zeroValue128
  g15 := by kernel_rfl
  g16 := by kernel_rfl
  g17 := by kernel_rfl
  g18 := by kernel_rfl
  g19 := by kernel_rfl
  t80 := Tryd.underlying129
  a80 := Tryd.isAgg129
  z80 := Tryd.sizeOf129
  v80 := Tryd.zeroValue129
  i0 := by kernel_rfl
  i2 := by kernel_rfl
  i3 := by kernel_rfl
  i4 := by kernel_rfl
  i5 := by kernel_rfl
  i9 := by kernel_rfl
  i20 := by kernel_rfl
  i21 := by kernel_rfl
  i37 := by kernel_rfl
  i46 := by kernel_rfl
  i51 := by kernel_rfl
  i53 := by kernel_rfl
  i75 := by kernel_rfl
  i76 := by kernel_rfl
  i80 := by kernel_rfl
  i85 := by kernel_rfl
  i127 := by kernel_rfl
  i143 := by kernel_rfl
  i145 := by kernel_rfl
  i167 := by kernel_rfl
  i168 := by kernel_rfl
  i171 := by kernel_rfl
  i173 := by kernel_rfl
  i175 := by kernel_rfl
  i210 := by kernel_rfl
  i212 := by kernel_rfl
  i232 := by kernel_rfl
  i233 := by kernel_rfl
  m15 := by kernel_rfl
  m16 := by kernel_rfl
  m17 := by kernel_rfl
  m18 := by kernel_rfl
  m19 := by kernel_rfl
  c0 := by kernel_rfl
  c2 := by kernel_rfl
  c3 := by kernel_rfl
  c4 := by kernel_rfl
  c5 := by kernel_rfl
  c9 := by kernel_rfl
  c20 := by kernel_rfl
  c21 := by kernel_rfl
  c37 := by kernel_rfl
  c46 := by kernel_rfl
  c51 := by kernel_rfl
  c53 := by kernel_rfl
  c75 := by kernel_rfl
  c76 := by kernel_rfl
  c80 := by kernel_rfl
  c85 := by kernel_rfl
  c127 := by kernel_rfl
  c143 := by kernel_rfl
  c145 := by kernel_rfl
  c167 := by kernel_rfl
  c168 := by kernel_rfl
  c171 := by kernel_rfl
  c173 := by kernel_rfl
  c175 := by kernel_rfl
  c210 := by kernel_rfl
  c212 := by kernel_rfl
  c213 := by kernel_rfl
  c232 := by kernel_rfl
  c233 := by kernel_rfl
theorem text_ne {a b : ByteArray} (h : ¬ a = b) : (a.toList == b.toList) = false := by
  rw [Lib.toList_data, Lib.toList_data, beq_eq_false_iff_ne]
  exact fun e => h (by cases a; cases b; congr; exact Array.toList_inj.1 e)
/-- What the library's own variables hold. -/
structure PEnv (w : World) : Prop where
  tab : Tab10 w
  m : ∃ m, w.cell? ⟨0, 0, none⟩ = some (.int .i64 m)
  es : ∃ t p, w.cell? ⟨1, 0, none⟩ = some (.iface t p)
  er : ∃ t p, w.cell? ⟨2, 0, none⟩ = some (.iface t p)
theorem PEnv.keep {w w' : World} (h : PEnv w) (hb : Bw w w') : PEnv w' :=
  ⟨h.tab.keep hb, let ⟨m, e⟩ := h.m; ⟨m, hb.cellv e⟩, let ⟨t, p, e⟩ := h.es; ⟨t, p, hb.cellv e⟩, let ⟨t, p, e⟩ := h.er; ⟨t, p, hb.cellv e⟩⟩
theorem c_Atoi_ok (s : ByteArray) (hs : s.size ≤ 1048576) (v : Int) (h : Lib.atoiAll s.data.toList = .ok v) (w : World) : Calls Tryd.prog 41 #[.string s] w fun e w' => e = .returned (.tuple #[.int .i64 v, .nilIface]) ∧ Bw w w' :=
  (Any.strconv_Atoi_ok lays172 s (by omega) v h w).mono fun e w' ⟨he, hw⟩ => ⟨he, ⟨by
    rcases hw with rfl | ⟨t, rfl⟩
    · exact Below.refl _ _
    · exact Lib.bytesWorld_below _ _ _⟩⟩
theorem c_Atoi_no (s : ByteArray) (hs : s.size ≤ 1048576) (h : ∀ u, Lib.atoiAll s.data.toList ≠ .ok u) (w : World) (hp : PEnv w) : Calls Tryd.prog 41 #[.string s] w fun e w' => (∃ v t N, e = .returned (.tuple #[.int .i64 v, .iface t (.pointer (some ⟨N, 0, none⟩))])) ∧ Bw w w' := by
  cases ha : Lib.atoiAll s.data.toList
  · rename_i u
    exact absurd ha (h u)
  · obtain ⟨t, p, e⟩ := hp.es
    exact (Any.strconv_Atoi_syntax lays172 s (by omega) ha (.iface t p) w e (Or.inr ⟨t, p, rfl⟩)).mono fun e w' ⟨N, he, _, _, hb⟩ => ⟨⟨_, _, N, he⟩, ⟨hb⟩⟩
  · obtain ⟨t, p, e⟩ := hp.er
    exact (Any.strconv_Atoi_range lays172 s (by omega) ha (.iface t p) w e (Or.inr ⟨t, p, rfl⟩)).mono fun e w' ⟨N, he, _, _, hb⟩ => ⟨⟨_, _, N, he⟩, ⟨hb⟩⟩
theorem c_ItoaZ (v : Int) (h0 : -9223372036854775808 ≤ v) (h1 : v ≤ 9223372036854775807) (w : World) (ht : Tab10 w) : Calls Tryd.prog 37 #[.int .i64 v] w fun e w' => e = .returned (.string (numZ v)) ∧ Bw w w' := by
  have hcon := Any.strconv_Itoa lays171 v h0 h1 w ht
  change Calls Tryd.prog 37 _ w (fun e w' => e = .returned (.string (numZ v)) ∧ ∃ k os, w' = Go.Sort.grow (w.drewN k) os) at hcon
  refine hcon.mono ?_
  rintro e w' ⟨rfl, k, os, rfl⟩
  exact ⟨rfl, ⟨Lib.below_grow w.heap.size w (Nat.le_refl _) k os⟩⟩
set_option maxRecDepth 100000 in
theorem c_ParseInt (s : ByteArray) (hs : s.size ≤ 1048576) (w : World) (hp : PEnv w) :
    Calls Tryd.prog 24 #[.string s] w fun e w' => e = .returned (.tuple #[.int .i64 (rdV s), .bool (rdB s)]) ∧ Bw w w' := by
  by_cases ha : ∃ v, Lib.atoiAll s.data.toList = .ok v
  · obtain ⟨v, ha⟩ := ha
    have hvb := Lib.atoiAll_bounds ha
    have HA := Lib.hid ha
    clear ha
    cases hr : inR v (-999999) 999999
    · have HN := Lib.hid (rd_no (s := s) (fun u hu => by
        have e := hu.all.symm.trans HA.out
        injection e with e; subst e
        have := inR_not.1 hr
        exact this ⟨hu.1, hu.2.1⟩))
      rw [HN.out.1, HN.out.2]
      go_enter Tryd.func24, Tryd.ntmps24
      go_wp2_with (first | (go_at_call 41; refine (c_Atoi_ok s hs v HA.out _).mono ?_; rintro e w1 ⟨rfl, hb1⟩) | (go_at_call 42; refine (c_within _ _ _ hr _).mono ?_; rintro e w2 ⟨rfl, rfl⟩))
      go_ret2
      exact ⟨rfl, hb1⟩
    · have ⟨v0, v1⟩ := inR_iff.1 hr
      by_cases he : numZ v = s
      · have HN := Lib.hid (rd_yes (s := s) ⟨v0, v1, he⟩)
        rw [HN.out.1, HN.out.2]
        subst he
        go_enter Tryd.func24, Tryd.ntmps24
        go_wp2_with (first | (go_at_call 41; refine (c_Atoi_ok _ hs v HA.out _).mono ?_; rintro e w1 ⟨rfl, hb1⟩) | (go_at_call 42; refine (c_within _ _ _ hr _).mono ?_; rintro e w2 ⟨rfl, rfl⟩) | (go_at_call 37; refine (c_ItoaZ v hvb.1 hvb.2 _ (hp.tab.keep hb1)).mono ?_; rintro e w3 ⟨rfl, hb3⟩))
        go_ret2
        exact ⟨rfl, hb1.trans hb3⟩
      · have HN := Lib.hid (rd_no (s := s) (fun u hu => by
          have e := hu.all.symm.trans HA.out
          injection e with e; subst e
          exact he hu.2.2))
        rw [HN.out.1, HN.out.2]
        have he2 : ((numZ v).toList == s.toList) = false := text_ne he
        go_enter Tryd.func24, Tryd.ntmps24
        go_wp2_with (first | (go_at_call 41; refine (c_Atoi_ok _ hs v HA.out _).mono ?_; rintro e w1 ⟨rfl, hb1⟩) | (go_at_call 42; refine (c_within _ _ _ hr _).mono ?_; rintro e w2 ⟨rfl, rfl⟩) | (go_at_call 37; refine (c_ItoaZ v hvb.1 hvb.2 _ (hp.tab.keep hb1)).mono ?_; rintro e w3 ⟨rfl, hb3⟩))
        go_ret2
        exact ⟨rfl, hb1.trans hb3⟩
  · have HA := Lib.hid (show ∀ u, Lib.atoiAll s.data.toList ≠ .ok u from fun u hu => ha ⟨u, hu⟩)
    clear ha
    have HN := Lib.hid (rd_no (s := s) (fun u hu => HA.out u hu.all))
    rw [HN.out.1, HN.out.2]
    go_enter Tryd.func24, Tryd.ntmps24
    go_wp2_with (go_at_call 41; refine (c_Atoi_no s hs HA.out _ hp).mono ?_; rintro e w1 ⟨⟨v, t, N, rfl⟩, hb1⟩)
    go_ret2
    exact ⟨rfl, hb1⟩
theorem numZ_nat (u : Nat) : numZ (u : Int) = numT u := by
  simp [numZ, numT, Lib.itoa]
set_option maxRecDepth 100000 in
theorem c_l1NumZ (v : Int) (h0 : -999999 ≤ v) (h1 : v ≤ 999999) (w : World) : Calls Tryd.prog 31 #[.int .i64 v] w fun e w' => e = .returned (.string (numZ v)) ∧ Bw w w' := by
  by_cases hv : 0 ≤ v
  · obtain ⟨u, rfl⟩ : ∃ u : Nat, v = u := ⟨v.toNat, by omega⟩
    rw [numZ_nat]
    exact c_l1Num9 u (by omega) w
  · obtain ⟨u, rfl⟩ : ∃ u : Nat, v = -(u : Int) := ⟨v.natAbs, by omega⟩
    have hu : u ≤ 1000000 := by omega
    have HZ := Lib.hid (show numZ (-(u : Int)) = ⟨#[45]⟩ ++ numT u by
      have e : Lib.itoa (-(u : Int)) = 45 :: Lib.decDigits u := Lib.itoa_neg u (by omega)
      apply ByteArray.ext
      simp [numZ, numT, e])
    have hl : -(u : Int) < 0 := by omega
    have hz := numT_size u
    have ra := fun (W : World) => run_string_add (P := Tryd.prog) W ⟨#[45]⟩ (numT u) (by decide) (by omega)
    clear hz
    go_enter Tryd.func31, Tryd.ntmps31
    go_wp2_with (go_at_call 31; refine (c_l1Num9 u hu _).mono ?_; rintro e w1 ⟨rfl, hb1⟩)
    go_ret
    rw [HZ.out]
    exact ⟨rfl, hb1⟩
end Go.Proofs.YtedbidepplmjdaaDoor
