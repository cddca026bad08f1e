
/- Reading and writing of ints: both sides. -/
import Derived.Test.YthciecmofgoebaaGreatDoorQ1
import Derived.Test.YthciecmofgoebaaGreatDoorK1
import Derived.Shelf.Strconv.AtoiAll
namespace Go.Proofs.YthciecmofgoebaaGreatDoor
open Go.RowKit Go.Shelf
def lays172_ren : Go.Shelf.Ren := ⟨fun | 172 => 60 | 244 => 70 | 245 => 71 | 247 => 83 | 279 => 84 | 280 => 85 | 281 => 86 | 282 => 87 | 287 => 98 | 316 => 99 | 171 => 41 | 205 => 100 | 321 => 105 | 322 => 106 | 243 => 56 | 246 => 67 | 283 => 77 | 284 => 78 | 285 => 79 | 286 => 80 | 129 => 94 | 317 => 93 | 318 => 95 | 319 => 96 | 320 => 97 | 337 => 103 | 338 => 104 | n => n, fun | 9 => 9 | 3 => 3 | 75 => 78 | 76 => 79 | 4 => 4 | 5 => 5 | 167 => 103 | 37 => 22 | 0 => 0 | 85 => 104 | 2 => 2 | 168 => 106 | 53 => 50 | 175 => 114 | 46 => 93 | 210 => 118 | 127 => 87 | 145 => 131 | 143 => 129 | 21 => 21 | 171 => 95 | 173 => 98 | 212 => 110 | 51 => 111 | 20 => 20 | 213 => 112 | 232 => 132 | 233 => 133 | 80 => 81 | n => n, fun | 15 => 2 | 16 => 3 | 17 => 1 | 18 => 6 | 19 => 7 | n => n⟩
theorem lays172 : Go.Proofs.LaysC.n172 Tryz.prog lays172_ren where
  mixed := by kernel_rfl
  f129 := Tryz.func94.trans (congrArg some (by kernel_rfl))
  f171 := Tryz.func41.trans (congrArg some (by kernel_rfl))
  f172 := Tryz.func60.trans (congrArg some (by kernel_rfl))
  f205 := Tryz.func100.trans (congrArg some (by kernel_rfl))
  f243 := Tryz.func56.trans (congrArg some (by kernel_rfl))
  f244 := Tryz.func70.trans (congrArg some (by kernel_rfl))
  f245 := Tryz.func71.trans (congrArg some (by kernel_rfl))
  f246 := Tryz.func67.trans (congrArg some (by kernel_rfl))
  f247 := Tryz.func83.trans (congrArg some (by kernel_rfl))
  f279 := Tryz.func84.trans (congrArg some (by kernel_rfl))
  f280 := Tryz.func85.trans (congrArg some (by kernel_rfl))
  f281 := Tryz.func86.trans (congrArg some (by kernel_rfl))
  f282 := Tryz.func87.trans (congrArg some (by kernel_rfl))
  f283 := Tryz.func77.trans (congrArg some (by kernel_rfl))
  f284 := Tryz.func78.trans (congrArg some (by kernel_rfl))
  f285 := Tryz.func79.trans (congrArg some (by kernel_rfl))
  f286 := Tryz.func80.trans (congrArg some (by kernel_rfl))
  f287 := Tryz.func98.trans (congrArg some (by kernel_rfl))
  f316 := Tryz.func99.trans (congrArg some (by kernel_rfl))
  f317 := Tryz.func93.trans (congrArg some (by kernel_rfl))
  f318 := Tryz.func95.trans (congrArg some (by kernel_rfl))
  f319 := Tryz.func96.trans (congrArg some (by kernel_rfl))
  f320 := Tryz.func97.trans (congrArg some (by kernel_rfl))
  f321 := Tryz.func105.trans (congrArg some (by kernel_rfl))
  f322 := Tryz.func106.trans (congrArg some (by kernel_rfl))
  f337 := Tryz.func103.trans (congrArg some (by kernel_rfl))
  f338 := Tryz.func104.trans (congrArg some (by kernel_rfl))
  t0 := Tryz.underlying0
  a0 := Tryz.isAgg0
  z0 := Tryz.sizeOf0
  v0 := Tryz.zeroValue0
  t2 := Tryz.underlying2
  a2 := Tryz.isAgg2
  z2 := Tryz.sizeOf2
  v2 := Tryz.zeroValue2
  t3 := Tryz.underlying3
  a3 := Tryz.isAgg3
  z3 := Tryz.sizeOf3
  v3 := Tryz.zeroValue3
  t4 := Tryz.underlying4
  a4 := Tryz.isAgg4
  z4 := Tryz.sizeOf4
  v4 := Tryz.zeroValue4
  t5 := Tryz.underlying5
  a5 := Tryz.isAgg5
  z5 := Tryz.sizeOf5
  v5 := Tryz.zeroValue5
  t9 := Tryz.underlying9
  a9 := Tryz.isAgg9
  z9 := Tryz.sizeOf9
  v9 := Tryz.zeroValue9
  t20 := Tryz.underlying20
  a20 := Tryz.isAgg20
  z20 := Tryz.sizeOf20
  v20 := Tryz.zeroValue20
  t21 := Tryz.underlying21
  a21 := Tryz.isAgg21
  z21 := Tryz.sizeOf21
  v21 := Tryz.zeroValue21
  t37 := Tryz.underlying22
  a37 := Tryz.isAgg22
  z37 := Tryz.sizeOf22
  v37 := Tryz.zeroValue22
  t46 := Tryz.underlying93
  a46 := Tryz.isAgg93
  z46 := Tryz.sizeOf93
  v46 := Tryz.zeroValue93
  t51 := Tryz.underlying111
  a51 := Tryz.isAgg111
  z51 := Tryz.sizeOf111
  v51 := Tryz.zeroValue111
  t53 := Tryz.underlying50
  a53 := Tryz.isAgg50
  z53 := Tryz.sizeOf50
  v53 := Tryz.zeroValue50
  t75 := Tryz.underlying78
  a75 := Tryz.isAgg78
  z75 := Tryz.sizeOf78
  v75 := Tryz.zeroValue78
  t76 := Tryz.underlying79
  a76 := Tryz.isAgg79
  z76 := Tryz.sizeOf79
  v76 := Tryz.zeroValue79
  t85 := Tryz.underlying104
  a85 := Tryz.isAgg104
  z85 := Tryz.sizeOf104
  v85 := Tryz.zeroValue104
  t127 := Tryz.underlying87
  a127 := Tryz.isAgg87
  z127 := Tryz.sizeOf87
  v127 := Tryz.zeroValue87
  t143 := Tryz.underlying129
  a143 := Tryz.isAgg129
  z143 := Tryz.sizeOf129
  v143 := Tryz.zeroValue129
  t145 := Tryz.underlying131
  a145 := Tryz.isAgg131
  z145 := Tryz.sizeOf131
  v145 := Tryz.zeroValue131
  t167 := Tryz.underlying103
  a167 := Tryz.isAgg103
  z167 := Tryz.sizeOf103
  v167 := Tryz.zeroValue103
  t168 := Tryz.underlying106
  a168 := Tryz.isAgg106
  z168 := Tryz.sizeOf106
  v168 := Tryz.zeroValue106
  t171 := Tryz.underlying95
  a171 := Tryz.isAgg95
  z171 := Tryz.sizeOf95
  v171 := Tryz.zeroValue95
  t173 := Tryz.underlying98
  a173 := Tryz.isAgg98
  z173 := Tryz.sizeOf98
  v173 := Tryz.zeroValue98
  t175 := Tryz.underlying114
  a175 := Tryz.isAgg114
  z175 := Tryz.sizeOf114
  v175 := Tryz.zeroValue114
  t210 := Tryz.underlying118
  a210 := Tryz.isAgg118
  z210 := Tryz.sizeOf118
  v210 := Tryz.zeroValue118
  t212 := Tryz.underlying110
  a212 := Tryz.isAgg110
  z212 := Tryz.sizeOf110
  v212 := Tryz.zeroValue110
  t213 := Tryz.underlying112
  a213 := Tryz.isAgg112
  z213 := Tryz.sizeOf112
  t232 := Tryz.underlying132
  a232 := Tryz.isAgg132
  z232 := Tryz.sizeOf132
  v232 := Tryz.zeroValue132
  t233 := Tryz.underlying133
  a233 := Tryz.isAgg133
  z233 := Tryz.sizeOf133
  v233 := Tryz.zeroValue133
  g15 := by kernel_rfl
  g16 := by kernel_rfl
  g17 := by kernel_rfl
  g18 := by kernel_rfl
  g19 := by kernel_rfl
  t80 := Tryz.underlying81
  a80 := Tryz.isAgg81
  z80 := Tryz.sizeOf81
  v80 := Tryz.zeroValue81
  i0 := by kernel_rfl
  i2 := by kernel_rfl
  i3 := by kernel_rfl
  i4 := by kernel_rfl
  i5 := by kernel_rfl
  i9 := by kernel_rfl
  i20 := by kernel_rfl
  i21 := by kernel_rfl
  i37 := by kernel_rfl
  i46 := by kernel_rfl
  i51 := by kernel_rfl
  i53 := by kernel_rfl
  i75 := by kernel_rfl
  i76 := by kernel_rfl
  i80 := by kernel_rfl
  i85 := by kernel_rfl
  i127 := by kernel_rfl
  i143 := by kernel_rfl
  i145 := by kernel_rfl
  i167 := by kernel_rfl
  i168 := by kernel_rfl
  i171 := by kernel_rfl
  i173 := by kernel_rfl
  i175 := by kernel_rfl
  i210 := by kernel_rfl
  i212 := by kernel_rfl
  i232 := by kernel_rfl
  i233 := by kernel_rfl
  m15 := by kernel_rfl
  m16 := by kernel_rfl
  m17 := by kernel_rfl
  m18 := by kernel_rfl
  m19 := by kernel_rfl
  c0 := by kernel_rfl
  c2 := by kernel_rfl
  c3 := by kernel_rfl
  c4 := by kernel_rfl
  c5 := by kernel_rfl
  c9 := by kernel_rfl
  c20 := by kernel_rfl
  c21 := by kernel_rfl
  c37 := by kernel_rfl
  c46 := by kernel_rfl
  c51 := by kernel_rfl
  c53 := by kernel_rfl
  c75 := by kernel_rfl
  c76 := by kernel_rfl
  c80 := by kernel_rfl
  c85 := by kernel_rfl
  c127 := by kernel_rfl
  c143 := by kernel_rfl
  c145 := by kernel_rfl
  c167 := by kernel_rfl
  c168 := by kernel_rfl
  c171 := by kernel_rfl
  c173 := by kernel_rfl
  c175 := by kernel_rfl
  c210 := by kernel_rfl
  c212 := by kernel_rfl
  c213 := by kernel_rfl
  c232 := by kernel_rfl
  c233 := by kernel_rfl
theorem text_ne {a b : ByteArray} (h : ¬ a = b) : (a.toList == b.toList) = false := by
  rw [Lib.toList_data, Lib.toList_data, beq_eq_false_iff_ne]
  exact fun e => h (by cases a; cases b; congr; exact Array.toList_inj.1 e)
/-- What the library's own variables hold. -/
structure PEnv (w : World) : Prop where
  tab : Tab10 w
  m : ∃ m, w.cell? ⟨0, 0, none⟩ = some (.int .i64 m)
  es : ∃ t p, w.cell? ⟨2, 0, none⟩ = some (.iface t p)
  er : ∃ t p, w.cell? ⟨3, 0, none⟩ = some (.iface t p)
theorem PEnv.keep {w w' : World} (h : PEnv w) (hb : Bw w w') : PEnv w' :=
  ⟨h.tab.keep hb, let ⟨m, e⟩ := h.m; ⟨m, hb.cellv e⟩, let ⟨t, p, e⟩ := h.es; ⟨t, p, hb.cellv e⟩, let ⟨t, p, e⟩ := h.er; ⟨t, p, hb.cellv e⟩⟩
theorem c_Atoi_ok (s : ByteArray) (hs : s.size ≤ 1048576) (v : Int) (h : Lib.atoiAll s.data.toList = .ok v) (w : World) : Calls Tryz.prog 60 #[.string s] w fun e w' => e = .returned (.tuple #[.int .i64 v, .nilIface]) ∧ Bw w w' :=
  (Any.strconv_Atoi_ok lays172 s (by omega) v h w).mono fun e w' ⟨he, hw⟩ => ⟨he, ⟨by
    rcases hw with rfl | ⟨t, rfl⟩
    · exact Below.refl _ _
    · exact Lib.bytesWorld_below _ _ _⟩⟩
theorem c_Atoi_no (s : ByteArray) (hs : s.size ≤ 1048576) (h : ∀ u, Lib.atoiAll s.data.toList ≠ .ok u) (w : World) (hp : PEnv w) : Calls Tryz.prog 60 #[.string s] w fun e w' => (∃ v t N, e = .returned (.tuple #[.int .i64 v, .iface t (.pointer (some ⟨N, 0, none⟩))])) ∧ Bw w w' := by
  cases ha : Lib.atoiAll s.data.toList
  · rename_i u
    exact absurd ha (h u)
  · obtain ⟨t, p, e⟩ := hp.es
    exact (Any.strconv_Atoi_syntax lays172 s (by omega) ha (.iface t p) w e (Or.inr ⟨t, p, rfl⟩)).mono fun e w' ⟨N, he, _, _, hb⟩ => ⟨⟨_, _, N, he⟩, ⟨hb⟩⟩
  · obtain ⟨t, p, e⟩ := hp.er
    exact (Any.strconv_Atoi_range lays172 s (by omega) ha (.iface t p) w e (Or.inr ⟨t, p, rfl⟩)).mono fun e w' ⟨N, he, _, _, hb⟩ => ⟨⟨_, _, N, he⟩, ⟨hb⟩⟩
theorem c_ItoaZ (v : Int) (h0 : -9223372036854775808 ≤ v) (h1 : v ≤ 9223372036854775807) (w : World) (ht : Tab10 w) : Calls Tryz.prog 41 #[.int .i64 v] w fun e w' => e = .returned (.string (numZ v)) ∧ Bw w w' := by
  have hcon := Any.strconv_Itoa lays171 v h0 h1 w ht
  change Calls Tryz.prog 41 _ w (fun e w' => e = .returned (.string (numZ v)) ∧ ∃ k os, w' = Go.Sort.grow (w.drewN k) os) at hcon
  refine hcon.mono ?_
  rintro e w' ⟨rfl, k, os, rfl⟩
  exact ⟨rfl, ⟨Lib.below_grow w.heap.size w (Nat.le_refl _) k os⟩⟩
set_option maxRecDepth 100000 in
theorem c_ParseInt (s : ByteArray) (hs : s.size ≤ 1048576) (w : World) (hp : PEnv w) :
    Calls Tryz.prog 43 #[.string s] w fun e w' => e = .returned (.tuple #[.int .i64 (rdV s), .bool (rdB s)]) ∧ Bw w w' := by
  by_cases ha : ∃ v, Lib.atoiAll s.data.toList = .ok v
  · obtain ⟨v, ha⟩ := ha
    have hvb := Lib.atoiAll_bounds ha
    have HA := Lib.hid ha
    clear ha
    cases hr : inR v (-999999) 999999
    · have HN := Lib.hid (rd_no (s := s) (fun u hu => by
        have e := hu.all.symm.trans HA.out
        injection e with e; subst e
        have := inR_not.1 hr
        exact this ⟨hu.1, hu.2.1⟩))
      rw [HN.out.1, HN.out.2]
      go_enter Tryz.func43, Tryz.ntmps43
      go_wp2_with (first | (go_at_call 60; refine (c_Atoi_ok s hs v HA.out _).mono ?_; rintro e w1 ⟨rfl, hb1⟩) | (go_at_call 27; refine (c_within _ _ _ hr _).mono ?_; rintro e w2 ⟨rfl, rfl⟩))
      go_ret2
      exact ⟨rfl, hb1⟩
    · have ⟨v0, v1⟩ := inR_iff.1 hr
      by_cases he : numZ v = s
      · have HN := Lib.hid (rd_yes (s := s) ⟨v0, v1, he⟩)
        rw [HN.out.1, HN.out.2]
        subst he
        go_enter Tryz.func43, Tryz.ntmps43
        go_wp2_with (first | (go_at_call 60; refine (c_Atoi_ok _ hs v HA.out _).mono ?_; rintro e w1 ⟨rfl, hb1⟩) | (go_at_call 27; refine (c_within _ _ _ hr _).mono ?_; rintro e w2 ⟨rfl, rfl⟩) | (go_at_call 41; refine (c_ItoaZ v hvb.1 hvb.2 _ (hp.tab.keep hb1)).mono ?_; rintro e w3 ⟨rfl, hb3⟩))
        go_ret2
        exact ⟨rfl, hb1.trans hb3⟩
      · have HN := Lib.hid (rd_no (s := s) (fun u hu => by
          have e := hu.all.symm.trans HA.out
          injection e with e; subst e
          exact he hu.2.2))
        rw [HN.out.1, HN.out.2]
        have he2 : ((numZ v).toList == s.toList) = false := text_ne he
        go_enter Tryz.func43, Tryz.ntmps43
        go_wp2_with (first | (go_at_call 60; refine (c_Atoi_ok _ hs v HA.out _).mono ?_; rintro e w1 ⟨rfl, hb1⟩) | (go_at_call 27; refine (c_within _ _ _ hr _).mono ?_; rintro e w2 ⟨rfl, rfl⟩) | (go_at_call 41; refine (c_ItoaZ v hvb.1 hvb.2 _ (hp.tab.keep hb1)).mono ?_; rintro e w3 ⟨rfl, hb3⟩))
        go_ret2
        exact ⟨rfl, hb1.trans hb3⟩
  · have HA := Lib.hid (show ∀ u, Lib.atoiAll s.data.toList ≠ .ok u from fun u hu => ha ⟨u, hu⟩)
    clear ha
    have HN := Lib.hid (rd_no (s := s) (fun u hu => HA.out u hu.all))
    rw [HN.out.1, HN.out.2]
    go_enter Tryz.func43, Tryz.ntmps43
    go_wp2_with (go_at_call 60; refine (c_Atoi_no s hs HA.out _ hp).mono ?_; rintro e w1 ⟨⟨v, t, N, rfl⟩, hb1⟩)
    go_ret2
    exact ⟨rfl, hb1⟩
theorem numZ_nat (u : Nat) : numZ (u : Int) = numT u := by
  simp [numZ, numT, Lib.itoa]
set_option maxRecDepth 100000 in
theorem c_l1NumZ (v : Int) (h0 : -999999 ≤ v) (h1 : v ≤ 999999) (w : World) : Calls Tryz.prog 46 #[.int .i64 v] w fun e w' => e = .returned (.string (numZ v)) ∧ Bw w w' := by
  by_cases hv : 0 ≤ v
  · obtain ⟨u, rfl⟩ : ∃ u : Nat, v = u := ⟨v.toNat, by omega⟩
    rw [numZ_nat]
    exact c_l1Num9 u (by omega) w
  · obtain ⟨u, rfl⟩ : ∃ u : Nat, v = -(u : Int) := ⟨v.natAbs, by omega⟩
    have hu : u ≤ 1000000 := by omega
    have HZ := Lib.hid (show numZ (-(u : Int)) = ⟨#[45]⟩ ++ numT u by
      have e : Lib.itoa (-(u : Int)) = 45 :: Lib.decDigits u := Lib.itoa_neg u (by omega)
      apply ByteArray.ext
      simp [numZ, numT, e])
    have hl : -(u : Int) < 0 := by omega
    have hz := numT_size u
    have ra := fun (W : World) => run_string_add (P := Tryz.prog) W ⟨#[45]⟩ (numT u) (by decide) (by omega)
    clear hz
    go_enter Tryz.func46, Tryz.ntmps46
    go_wp2_with (go_at_call 46; refine (c_l1Num9 u hu _).mono ?_; rintro e w1 ⟨rfl, hb1⟩)
    go_ret
    rw [HZ.out]
    exact ⟨rfl, hb1⟩
end Go.Proofs.YthciecmofgoebaaGreatDoor
