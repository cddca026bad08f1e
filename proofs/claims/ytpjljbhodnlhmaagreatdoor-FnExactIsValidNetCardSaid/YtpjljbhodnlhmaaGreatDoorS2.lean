
/- Items: texts of at most eight small letters; the program's and the reference's tests of them. -/
import Derived.Test.YtpjljbhodnlhmaaGreatDoorS1
import Derived.Test.YtpjljbhodnlhmaaGreatDoorMK
import Derived.Test.YtpjljbhodnlhmaaGreatDoorR1
import Derived.Shelf.Strings.SlTrimAscii
namespace Go.Proofs.YtpjljbhodnlhmaaGreatDoor
open Go.RowKit Go.Shelf
def lays160_ren : Go.Shelf.Ren := ⟨fun | 160 => 171 | 232 => 174 | 231 => 173 | 227 => 175 | 234 => 177 | 233 => 176 | 236 => 179 | 235 => 178 | 228 => 180 | 271 => 183 | 151 => 182 | 197 => 181 | 120 => 186 | 152 => 185 | 260 => 184 | 137 => 187 | 119 => 188 | 224 => 189 | 225 => 190 | 217 => 191 | 266 => 192 | n => n, fun | 9 => 9 | 4 => 4 | 3 => 3 | 5 => 5 | 117 => 209 | 116 => 208 | 0 => 0 | 124 => 212 | 21 => 21 | 105 => 214 | 46 => 219 | 119 => 218 | 139 => 222 | 138 => 221 | n => n, fun | 3 => 0 | 4 => 1 | n => n⟩
theorem lays160 : Go.Proofs.Lays.n160 Tryz.prog lays160_ren where
  mixed := by kernel_rfl
  f119 := Tryz.func188.trans (congrArg some (by kernel_rfl))
  f120 := Tryz.func186.trans (congrArg some (by kernel_rfl))
  f137 := Tryz.func187.trans (congrArg some (by kernel_rfl))
  f151 := Tryz.func182.trans (congrArg some (by kernel_rfl))
  f152 := Tryz.func185.trans (congrArg some (by kernel_rfl))
  f160 := Tryz.func171.trans (congrArg some (by kernel_rfl))
  f197 := Tryz.func181.trans (congrArg some (by kernel_rfl))
  f217 := Tryz.func191.trans (congrArg some (by kernel_rfl))
  f224 := Tryz.func189.trans (congrArg some (by kernel_rfl))
  f225 := Tryz.func190.trans (congrArg some (by kernel_rfl))
  f227 := Tryz.func175.trans (congrArg some (by kernel_rfl))
  f228 := Tryz.func180.trans (congrArg some (by kernel_rfl))
  f231 := Tryz.func173.trans (congrArg some (by kernel_rfl))
  f232 := Tryz.func174.trans (congrArg some (by kernel_rfl))
  f233 := Tryz.func176.trans (congrArg some (by kernel_rfl))
  f234 := Tryz.func177.trans (congrArg some (by kernel_rfl))
  f235 := Tryz.func178.trans (congrArg some (by kernel_rfl))
  f236 := Tryz.func179.trans (congrArg some (by kernel_rfl))
  f260 := Tryz.func184.trans (congrArg some (by kernel_rfl))
  f266 := Tryz.func192.trans (congrArg some (by kernel_rfl))
  f271 := Tryz.func183.trans (congrArg some (by kernel_rfl))
  t0 := Tryz.underlying0
  a0 := Tryz.isAgg0
  z0 := Tryz.sizeOf0
  v0 := Tryz.zeroValue0
  t3 := Tryz.underlying3
  a3 := Tryz.isAgg3
  z3 := Tryz.sizeOf3
  v3 := Tryz.zeroValue3
  t4 := Tryz.underlying4
  a4 := Tryz.isAgg4
  z4 := Tryz.sizeOf4
  v4 := Tryz.zeroValue4
  t5 := Tryz.underlying5
  a5 := Tryz.isAgg5
  z5 := Tryz.sizeOf5
  v5 := Tryz.zeroValue5
  t9 := Tryz.underlying9
  a9 := Tryz.isAgg9
  z9 := Tryz.sizeOf9
  v9 := Tryz.zeroValue9
  t21 := Tryz.underlying21
  a21 := Tryz.isAgg21
  z21 := Tryz.sizeOf21
  v21 := Tryz.zeroValue21
  t46 := Tryz.underlying219
  a46 := Tryz.isAgg219
  z46 := Tryz.sizeOf219
  v46 := Tryz.zeroValue219
  t105 := Tryz.underlying214
  a105 := Tryz.isAgg214
  z105 := Tryz.sizeOf214
  v105 := Tryz.zeroValue214
  t116 := Tryz.underlying208
  a116 := Tryz.isAgg208
  z116 := Tryz.sizeOf208
  t117 := Tryz.underlying209
  a117 := Tryz.isAgg209
  z117 := Tryz.sizeOf209
  v117 := Tryz.zeroValue209
  t119 := Tryz.underlying218
  a119 := Tryz.isAgg218
  z119 := Tryz.sizeOf218
  t124 := Tryz.underlying212
  a124 := Tryz.isAgg212
  z124 := Tryz.sizeOf212
  v124 := Tryz.zeroValue212
  t138 := Tryz.underlying221
  a138 := Tryz.isAgg221
  z138 := Tryz.sizeOf221
  v138 := Tryz.zeroValue221
  t139 := Tryz.underlying222
  a139 := Tryz.isAgg222
  z139 := Tryz.sizeOf222
  v139 := Tryz.zeroValue222
  g3 := by kernel_rfl
  g4 := by kernel_rfl
def azAt (b : UInt8) : Bool := decide (97 ≤ b.toNat) && decide (b.toNat ≤ 122)
def azB (s : ByteArray) : Bool := s.data.toList.all azAt
def itemB (s : ByteArray) : Bool := azB s && decide (s.size ≤ 8)
theorem azB_no {s : ByteArray} {k : Nat} (h : k < s.size) (hb : azAt s[k] = false) : azB s = false := by
  rw [azB, List.all_eq_false]
  exact ⟨s[k], by rw [show s[k] = s.data[k]'h from rfl]; exact Array.getElem_mem_toList _, by simp [hb]⟩
theorem azB_yes {s : ByteArray} (h : ∀ k (hk : k < s.size), azAt s[k] = true) : azB s = true := by
  rw [azB, List.all_eq_true]
  intro b hb
  obtain ⟨k, hk, rfl⟩ := List.getElem_of_mem hb
  exact h k (by simpa using hk)
def azL : List UInt8 := [97, 98, 99, 100, 101, 102, 103, 104, 105, 106, 107, 108, 109, 110, 111, 112, 113, 114, 115, 116, 117, 118, 119, 120, 121, 122]
theorem azL_has (b : UInt8) : azL.contains b = azAt b := by
  rw [Bool.eq_iff_iff]
  simp only [azL, List.contains_iff_mem, List.mem_cons, List.not_mem_nil, or_false, azAt, Bool.and_eq_true, decide_eq_true_eq, ← UInt8.toNat_inj]
  have : b.toNat < 256 := b.toNat_lt
  constructor
  · intro h
    rcases h with h | h | h | h | h | h | h | h | h | h | h | h | h | h | h | h | h | h | h | h | h | h | h | h | h | h <;> (rw [h]; decide)
  · intro h
    show b.toNat = 97 ∨ b.toNat = 98 ∨ b.toNat = 99 ∨ b.toNat = 100 ∨ b.toNat = 101 ∨ b.toNat = 102 ∨ b.toNat = 103 ∨ b.toNat = 104 ∨ b.toNat = 105 ∨ b.toNat = 106 ∨ b.toNat = 107 ∨ b.toNat = 108 ∨ b.toNat = 109 ∨ b.toNat = 110 ∨ b.toNat = 111 ∨ b.toNat = 112 ∨ b.toNat = 113 ∨ b.toNat = 114 ∨ b.toNat = 115 ∨ b.toNat = 116 ∨ b.toNat = 117 ∨ b.toNat = 118 ∨ b.toNat = 119 ∨ b.toNat = 120 ∨ b.toNat = 121 ∨ b.toNat = 122
    omega
theorem drop_nil {p : UInt8 → Bool} : ∀ {l : List UInt8}, l.dropWhile p = [] ↔ l.all p = true
  | [] => by simp
  | a :: l => by
    rw [List.dropWhile_cons, List.all_cons]
    cases h : p a
    · simp
    · simpa using drop_nil (l := l)
theorem trim_nil (l : List UInt8) : Lib.trimS l azL = [] ↔ l.all azAt = true := by
  have hf : (fun b => azL.contains b) = azAt := funext azL_has
  unfold Lib.trimS Lib.trimLeftS Lib.trimRightS
  rw [hf, drop_nil, List.all_reverse]
  constructor
  · intro h
    have h1 : l.reverse.dropWhile azAt = [] := by
      cases hd : l.reverse.dropWhile azAt with
      | nil => rfl
      | cons a t =>
        have h2 : azAt a = false := by
          have := List.head?_dropWhile_not azAt l.reverse
          rw [hd] at this
          simpa using this
        rw [hd, List.all_cons, h2] at h
        cases h
    rw [drop_nil, List.all_reverse] at h1
    exact h1
  · intro h
    have : l.reverse.dropWhile azAt = [] := drop_nil.2 (by rw [List.all_reverse]; exact h)
    rw [this]; rfl
theorem trim_eq (s : ByteArray) : (⟨(Lib.trimS s.data.toList azL).toArray⟩ : ByteArray).toList = [] ↔ azB s = true := by
  rw [Lib.toList_data, azB, ← trim_nil]
theorem c_l4Letters (s : ByteArray) (hs : s.size ≤ maxLen) {r : Bool} (h : itemB s = r) (w : World) :
    Calls Tryz.prog 140 #[.string s, .int .i64 8] w fun e w' => e = .returned (.bool r) ∧ w = w' := by
  subst h
  unfold maxLen at hs
  go_enter Tryz.func140, Tryz.ntmps140
  go_wp2
  go_loop [5] (fun i => ∃ k : Nat, k ≤ s.size ∧ i = .int .i64 k ∧ ∀ j (hj : j < k) (hj2 : j < s.size), azAt s[j] = true) (fun i => s.size - (intOf i).toNat)
  case atStart => exact ⟨0, Nat.zero_le _, rfl, fun j hj => absurd hj (by omega)⟩
  case round =>
    obtain ⟨k, hk, rfl, hst⟩ := hrel
    have Hst := Lib.hid hst
    clear hst
    by_cases hkn : k < s.size
    · have hx := Lib.hid (show azAt s[k] = (decide (97 ≤ s[k].toNat) && decide (s[k].toNat ≤ 122)) from rfl)
      by_cases c1 : (s[k].toNat : Int) < 97
      · have HE := Lib.hid (azB_no hkn (by rw [hx.out]; simp; omega))
        go_wp2
        go_ret
        exact ⟨ret_bool (by rw [itemB, HE.out]; rfl), rfl⟩
      · by_cases c2 : (122 : Int) < s[k].toNat
        · have HE := Lib.hid (azB_no hkn (by rw [hx.out]; simp; omega))
          go_wp2
          go_ret
          exact ⟨ret_bool (by rw [itemB, HE.out]; rfl), rfl⟩
        · have HE := Lib.hid (show azAt s[k] = true by rw [hx.out]; simp; omega)
          go_wp2
          go_round
          case rel =>
            refine ⟨k + 1, by omega, by go_num, ?_⟩
            intro j hj hj2
            rcases Nat.lt_succ_iff_lt_or_eq.1 hj with h9 | h9
            · exact Hst.out j h9 hj2
            · subst h9; exact HE.out
          case measure => simp [intOf]; omega
    · go_wp2
      go_ret
      exact ⟨ret_bool (by rw [itemB, azB_yes (fun j hj => Hst.out j (by omega) hj)]; simp; omega), rfl⟩
theorem c_isItem (s : ByteArray) (hs : s.size ≤ maxLen) {r : Bool} (h : itemB s = r) (w : World) :
    Calls Tryz.prog 157 #[.string s] w fun e w' => e = .returned (.bool r) ∧ Bw w w' := by
  subst h
  unfold maxLen at hs
  have hcon := Any.strings_Trim_laid lays160 (by kernel_rfl) s ⟨#[97, 98, 99, 100, 101, 102, 103, 104, 105, 106, 107, 108, 109, 110, 111, 112, 113, 114, 115, 116, 117, 118, 119, 120, 121, 122]⟩ w (by omega) (by decide) (ascii_of_all (by decide))
  change Calls Tryz.prog 171 _ _ (fun e w' => e = .returned (.string ⟨(Lib.trimS s.data.toList azL).toArray⟩) ∧ Below w.heap.size w w') at hcon
  have HT := Lib.hid (trim_eq s)
  generalize (⟨(Lib.trimS s.data.toList azL).toArray⟩ : ByteArray) = t at hcon HT
  by_cases c1 : s.size ≤ 8
  · cases hz : azB s
    · have ht : ¬ t.toList = [] := by rw [HT.out, hz]; simp
      go_enter Tryz.func157, Tryz.ntmps157
      go_wp2_with (go_at_call 171; refine hcon.mono ?_; rintro e w1 ⟨rfl, hb1⟩)
      go_ret
      exact ⟨ret_bool (by simp [itemB, hz, ht]), ⟨hb1⟩⟩
    · have ht : t.toList = [] := by rw [HT.out, hz]
      go_enter Tryz.func157, Tryz.ntmps157
      go_wp2_with (go_at_call 171; refine hcon.mono ?_; rintro e w1 ⟨rfl, hb1⟩)
      go_ret
      exact ⟨ret_bool (by simp [itemB, hz, c1, ht]), ⟨hb1⟩⟩
  · go_enter Tryz.func157, Tryz.ntmps157
    go_wp2_with fail
    go_ret
    exact ⟨ret_bool (by simp [itemB, c1]), Bw.refl _⟩
end Go.Proofs.YtpjljbhodnlhmaaGreatDoor
