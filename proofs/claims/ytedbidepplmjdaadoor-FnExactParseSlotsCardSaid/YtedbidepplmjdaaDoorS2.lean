
/- Items: texts of at most eight small letters; the program's and the reference's tests of them. -/
import Derived.Test.YtedbidepplmjdaaDoorS1
import Derived.Test.YtedbidepplmjdaaDoorK12
import Derived.Test.YtedbidepplmjdaaDoorR1
import Derived.Shelf.Strings.SlTrimAscii
namespace Go.Proofs.YtedbidepplmjdaaDoor
open Go.RowKit Go.Shelf
def lays160_ren : Go.Shelf.Ren := ⟨fun | 160 => 46 | 232 => 55 | 231 => 54 | 227 => 56 | 234 => 58 | 233 => 57 | 236 => 60 | 235 => 59 | 228 => 74 | 271 => 76 | 151 => 75 | 197 => 72 | 120 => 88 | 152 => 87 | 260 => 86 | 137 => 96 | 119 => 97 | 224 => 64 | 225 => 63 | 217 => 62 | 266 => 81 | n => n, fun | 9 => 9 | 4 => 4 | 3 => 3 | 5 => 5 | 117 => 77 | 116 => 76 | 0 => 0 | 124 => 80 | 21 => 21 | 105 => 92 | 46 => 84 | 119 => 121 | 139 => 124 | 138 => 123 | n => n, fun | 3 => 4 | 4 => 5 | n => n⟩
theorem lays160 : Go.Proofs.Lays.n160 Tryd.prog lays160_ren where
  mixed := by kernel_rfl
  f119 := Tryd.func97.trans (congrArg some (by kernel_rfl))
  f120 := Tryd.func88.trans (congrArg some (by kernel_rfl))
  f137 := Tryd.func96.trans (congrArg some (by kernel_rfl))
  f151 := Tryd.func75.trans (congrArg some (by kernel_rfl))
  f152 := Tryd.func87.trans (congrArg some (by kernel_rfl))
  f160 := Tryd.func46.trans (congrArg some (by kernel_rfl))
  f197 := Tryd.func72.trans (congrArg some (by kernel_rfl))
  f217 := Tryd.func62.trans (congrArg some (by kernel_rfl))
  f224 := Tryd.func64.trans (congrArg some (by kernel_rfl))
  f225 := Tryd.func63.trans (congrArg some (by kernel_rfl))
  f227 := Tryd.func56.trans (congrArg some (by kernel_rfl))
  f228 := Tryd.func74.trans (congrArg some (by kernel_rfl))
  f231 := Tryd.func54.trans (congrArg some (by kernel_rfl))
  f232 := Tryd.func55.trans (congrArg some (by kernel_rfl))
  f233 := Tryd.func57.trans (congrArg some (by kernel_rfl))
  f234 := Tryd.func58.trans (congrArg some (by kernel_rfl))
  f235 := Tryd.func59.trans (congrArg some (by kernel_rfl))
  f236 := Tryd.func60.trans (congrArg some (by kernel_rfl))
  f260 := Tryd.func86.trans (congrArg some (by kernel_rfl))
  f266 := Tryd.func81.trans (congrArg some (by kernel_rfl))
  f271 := Tryd.func76.trans (congrArg some (by kernel_rfl))
  t0 := Tryd.underlying0
  a0 := Tryd.isAgg0
  z0 := Tryd.sizeOf0
  v0 := Tryd.zeroValue0
  t3 := Tryd.underlying3
  a3 := Tryd.isAgg3
  z3 := Tryd.sizeOf3
  v3 := Tryd.zeroValue3
  t4 := Tryd.underlying4
  a4 := Tryd.isAgg4
  z4 := Tryd.sizeOf4
  v4 := Tryd.zeroValue4
  t5 := Tryd.underlying5
  a5 := Tryd.isAgg5
  z5 := Tryd.sizeOf5
  v5 := Tryd.zeroValue5
  t9 := Tryd.underlying9
  a9 := Tryd.isAgg9
  z9 := Tryd.sizeOf9
  v9 := Tryd.zeroValue9
  t21 := Tryd.underlying21
  a21 := Tryd.isAgg21
  z21 := Tryd.sizeOf21
  v21 := Tryd.zeroValue21
  t46 := Tryd.underlying84
  a46 := Tryd.isAgg84
  z46 := Tryd.sizeOf84
  v46 := Tryd.zeroValue84
  t105 := Tryd.underlying92
  a105 := Tryd.isAgg92
  z105 := Tryd.sizeOf92
  v105 := Tryd.zeroValue92
  t116 := Tryd.underlying76
  a116 := Tryd.isAgg76
  z116 := Tryd.sizeOf76
  t117 := Tryd.underlying77
  a117 := Tryd.isAgg77
  z117 := Tryd.sizeOf77
  v117 := Tryd.zeroValue77
  t119 := Tryd.underlying121
  a119 := Tryd.isAgg121
  z119 := Tryd.sizeOf121
  t124 := Tryd.underlying80
  a124 := Tryd.isAgg80
  z124 := Tryd.sizeOf80
  v124 := Tryd.zeroValue80
  t138 := Tryd.underlying123
  a138 := Tryd.isAgg123
  z138 := Tryd.sizeOf123
  v138 := Tryd.zeroValue123
  t139 := Tryd.underlying124
  a139 := Tryd.isAgg124
  z139 := Tryd.sizeOf124
  v139 := Tryd.zeroValue124
  g3 := by kernel_rfl
  g4 := by kernel_rfl
def azAt (b : UInt8) : Bool := decide (97 ≤ b.toNat) && decide (b.toNat ≤ 122)
def azB (s : ByteArray) : Bool := s.data.toList.all azAt
def itemB (s : ByteArray) : Bool := azB s && decide (s.size ≤ 8)
theorem azB_no {s : ByteArray} {k : Nat} (h : k < s.size) (hb : azAt s[k] = false) : azB s = false := by
  rw [azB, List.all_eq_false]
  exact ⟨s[k], by rw [show s[k] = s.data[k]'h from rfl]; exact Array.getElem_mem_toList _, by simp [hb]⟩
theorem azB_yes {s : ByteArray} (h : ∀ k (hk : k < s.size), azAt s[k] = true) : azB s = true := by
  rw [azB, List.all_eq_true]
  intro b hb
  obtain ⟨k, hk, rfl⟩ := List.getElem_of_mem hb
  exact h k (by simpa using hk)
def azL : List UInt8 := [97, 98, 99, 100, 101, 102, 103, 104, 105, 106, 107, 108, 109, 110, 111, 112, 113, 114, 115, 116, 117, 118, 119, 120, 121, 122]
theorem azL_has (b : UInt8) : azL.contains b = azAt b := by
  rw [Bool.eq_iff_iff]
  simp only [azL, List.contains_iff_mem, List.mem_cons, List.not_mem_nil, or_false, azAt, Bool.and_eq_true, decide_eq_true_eq, ← UInt8.toNat_inj]
  have : b.toNat < 256 := b.toNat_lt
  constructor
  · intro h
    rcases h with h | h | h | h | h | h | h | h | h | h | h | h | h | h | h | h | h | h | h | h | h | h | h | h | h | h <;> (rw [h]; decide)
  · intro h
    show b.toNat = 97 ∨ b.toNat = 98 ∨ b.toNat = 99 ∨ b.toNat = 100 ∨ b.toNat = 101 ∨ b.toNat = 102 ∨ b.toNat = 103 ∨ b.toNat = 104 ∨ b.toNat = 105 ∨ b.toNat = 106 ∨ b.toNat = 107 ∨ b.toNat = 108 ∨ b.toNat = 109 ∨ b.toNat = 110 ∨ b.toNat = 111 ∨ b.toNat = 112 ∨ b.toNat = 113 ∨ b.toNat = 114 ∨ b.toNat = 115 ∨ b.toNat = 116 ∨ b.toNat = 117 ∨ b.toNat = 118 ∨ b.toNat = 119 ∨ b.toNat = 120 ∨ b.toNat = 121 ∨ b.toNat = 122
    omega
theorem drop_nil {p : UInt8 → Bool} : ∀ {l : List UInt8}, l.dropWhile p = [] ↔ l.all p = true
  | [] => by simp
  | a :: l => by
    rw [List.dropWhile_cons, List.all_cons]
    cases h : p a
    · simp
    · simpa using drop_nil (l := l)
theorem trim_nil (l : List UInt8) : Lib.trimS l azL = [] ↔ l.all azAt = true := by
  have hf : (fun b => azL.contains b) = azAt := funext azL_has
  unfold Lib.trimS Lib.trimLeftS Lib.trimRightS
  rw [hf, drop_nil, List.all_reverse]
  constructor
  · intro h
    have h1 : l.reverse.dropWhile azAt = [] := by
      cases hd : l.reverse.dropWhile azAt with
      | nil => rfl
      | cons a t =>
        have h2 : azAt a = false := by
          have := List.head?_dropWhile_not azAt l.reverse
          rw [hd] at this
          simpa using this
        rw [hd, List.all_cons, h2] at h
        cases h
    rw [drop_nil, List.all_reverse] at h1
    exact h1
  · intro h
    have : l.reverse.dropWhile azAt = [] := drop_nil.2 (by rw [List.all_reverse]; exact h)
    rw [this]; rfl
theorem trim_eq (s : ByteArray) : (⟨(Lib.trimS s.data.toList azL).toArray⟩ : ByteArray).toList = [] ↔ azB s = true := by
  rw [Lib.toList_data, azB, ← trim_nil]
theorem c_l4Letters (s : ByteArray) (hs : s.size ≤ maxLen) {r : Bool} (h : itemB s = r) (w : World) :
    Calls Tryd.prog 30 #[.string s, .int .i64 8] w fun e w' => e = .returned (.bool r) ∧ w = w' := by
  subst h
  unfold maxLen at hs
  go_enter Tryd.func30, Tryd.ntmps30
  go_wp2
  go_loop [5] (fun i => ∃ k : Nat, k ≤ s.size ∧ i = .int .i64 k ∧ ∀ j (hj : j < k) (hj2 : j < s.size), azAt s[j] = true) (fun i => s.size - (intOf i).toNat)
  case atStart => exact ⟨0, Nat.zero_le _, rfl, fun j hj => absurd hj (by omega)⟩
  case round =>
    obtain ⟨k, hk, rfl, hst⟩ := hrel
    have Hst := Lib.hid hst
    clear hst
    by_cases hkn : k < s.size
    · have hx := Lib.hid (show azAt s[k] = (decide (97 ≤ s[k].toNat) && decide (s[k].toNat ≤ 122)) from rfl)
      by_cases c1 : (s[k].toNat : Int) < 97
      · have HE := Lib.hid (azB_no hkn (by rw [hx.out]; simp; omega))
        go_wp2
        go_ret
        exact ⟨ret_bool (by rw [itemB, HE.out]; rfl), rfl⟩
      · by_cases c2 : (122 : Int) < s[k].toNat
        · have HE := Lib.hid (azB_no hkn (by rw [hx.out]; simp; omega))
          go_wp2
          go_ret
          exact ⟨ret_bool (by rw [itemB, HE.out]; rfl), rfl⟩
        · have HE := Lib.hid (show azAt s[k] = true by rw [hx.out]; simp; omega)
          go_wp2
          go_round
          case rel =>
            refine ⟨k + 1, by omega, by go_num, ?_⟩
            intro j hj hj2
            rcases Nat.lt_succ_iff_lt_or_eq.1 hj with h9 | h9
            · exact Hst.out j h9 hj2
            · subst h9; exact HE.out
          case measure => simp [intOf]; omega
    · go_wp2
      go_ret
      exact ⟨ret_bool (by rw [itemB, azB_yes (fun j hj => Hst.out j (by omega) hj)]; simp; omega), rfl⟩
theorem c_isItem (s : ByteArray) (hs : s.size ≤ maxLen) {r : Bool} (h : itemB s = r) (w : World) :
    Calls Tryd.prog 36 #[.string s] w fun e w' => e = .returned (.bool r) ∧ Bw w w' := by
  subst h
  unfold maxLen at hs
  have hcon := Any.strings_Trim_laid lays160 (by kernel_rfl) s ⟨#[97, 98, 99, 100, 101, 102, 103, 104, 105, 106, 107, 108, 109, 110, 111, 112, 113, 114, 115, 116, 117, 118, 119, 120, 121, 122]⟩ w (by omega) (by decide) (ascii_of_all (by decide))
  change Calls Tryd.prog 46 _ _ (fun e w' => e = .returned (.string ⟨(Lib.trimS s.data.toList azL).toArray⟩) ∧ Below w.heap.size w w') at hcon
  have HT := Lib.hid (trim_eq s)
  generalize (⟨(Lib.trimS s.data.toList azL).toArray⟩ : ByteArray) = t at hcon HT
  by_cases c1 : s.size ≤ 8
  · cases hz : azB s
    · have ht : ¬ t.toList = [] := by rw [HT.out, hz]; simp
      go_enter Tryd.func36, Tryd.ntmps36
      go_wp2_with (go_at_call 46; refine hcon.mono ?_; rintro e w1 ⟨rfl, hb1⟩)
      go_ret
      exact ⟨ret_bool (by simp [itemB, hz, ht]), ⟨hb1⟩⟩
    · have ht : t.toList = [] := by rw [HT.out, hz]
      go_enter Tryd.func36, Tryd.ntmps36
      go_wp2_with (go_at_call 46; refine hcon.mono ?_; rintro e w1 ⟨rfl, hb1⟩)
      go_ret
      exact ⟨ret_bool (by simp [itemB, hz, c1, ht]), ⟨hb1⟩⟩
  · go_enter Tryd.func36, Tryd.ntmps36
    go_wp2_with fail
    go_ret
    exact ⟨ret_bool (by simp [itemB, c1]), Bw.refl _⟩
end Go.Proofs.YtedbidepplmjdaaDoor
