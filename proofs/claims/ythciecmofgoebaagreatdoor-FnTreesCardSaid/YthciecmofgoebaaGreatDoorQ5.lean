
/- A text's parts between bytes: the walks. -/
import Derived.Test.YthciecmofgoebaaGreatDoorQ4
namespace Go.Proofs.YthciecmofgoebaaGreatDoor
open Go.RowKit Go.Shelf
theorem oneStr : ∀ (t : ByteArray) (u : Value), u ∈ scell t → u.oneCell' = true := by
  intro t u hu; simp [scell] at hu; subst hu; rfl
/-- One text is appended to a row of texts of the call's own. -/
theorem append_str {w0 : World} {lo : Nat} {ops : Array Oper} {rest : List Oper} {o : Oper} {a : Act} {Q : Exit → Act → World → Prop} (hgd : o.guard = none) (s x : Operand)
    (ho : o.op = .call { callee := .builtin .append, args := #[s, x], argTypes := #[45, 45] }) (A : Option Addr) (n c : Nat) (xs : List ByteArray) (hs : a.eval s = .slice A n c) (hown : Row w0 lo 9 1 scell A n c xs) (y : ByteArray)
    (B : Nat) (hx : a.eval x = .slice (some ⟨B, 0, none⟩) 1 1) (hB : w0.heap.size = B) (hn : n < 2000000) (hlo : lo ≤ w0.heap.size)
    (h : ∀ A2 c2 w', Row w' lo 9 1 scell A2 (n + 1) c2 (xs ++ [y]) → w0.grownBy w' (Value.ownBlock (.slice A n c)) → wpList Tryz.prog ops Q rest (a.put o.dst (.slice A2 (n + 1) c2)) w') : wpList Tryz.prog ops Q (o :: rest) a (w0.alloc (.cells #[.string y] 9)) := by
  subst hB
  obtain ⟨i0, hi, hz0, hz1, hz2⟩ := info_parts infoStr
  refine wpList_append_rd (enc := scell) hgd s x 45 ho lo 9 i0 (.string ByteArray.empty) 1 16 Tryz.underlying45 hi hz0 hz1 hz2 rfl (by decide) (fun _ => rfl) oneStr A n c xs hs (hown.keep (Bw.alloc (Bw.refl _) _)) _ 1 1 [y] hx (Rd.one _ _ _ _ 1 rfl) (by unfold maxLen; omega) (by omega) (by simp; omega) ?_
  intro A2 c2 w' h1 h2 h3 h4
  exact h A2 c2 w' h1 ((World.grownBy_alloc w0 _ _).trans h2)
theorem splB_nil_rest {b : UInt8} {s : ByteArray} {f k : Nat} (hf : f ≤ k) (h1 : ∀ j, f ≤ j → j < k → s.data.toList[j]? ≠ some b) (h2 : s.data.toList[k]? = some b) : (splL b (s.data.toList.drop f)).map mkB = s.extract f k :: (splL b (s.data.toList.drop (k + 1))).map mkB := by
  have h := splL_hit (b := b) (l := s.data.toList.drop f) (k := k - f) (fun j hj => by rw [List.getElem?_drop]; exact h1 _ (by omega) (by omega)) (by rw [List.getElem?_drop, show f + (k - f) = k by omega]; exact h2)
  rw [h, List.map_cons, List.drop_drop, show f + (k - f + 1) = k + 1 by omega]
  congr 1
  rw [Lib.extract_eq]; rfl
theorem splB_end {b : UInt8} {s : ByteArray} {f : Nat} (h1 : ∀ j, f ≤ j → j < s.size → s.data.toList[j]? ≠ some b) : (splL b (s.data.toList.drop f)).map mkB = [s.extract f s.size] := by
  have h := splL_none (b := b) (l := s.data.toList.drop f) (fun j hj => by
    rw [List.getElem?_drop] at hj
    have : f + j < s.data.toList.length := (List.getElem?_eq_some_iff.1 hj).1
    exact h1 (f + j) (by omega) (by simpa using this) hj)
  rw [h, List.map_cons, List.map_nil, Lib.extract_eq]
  congr 1
  rw [List.take_of_length_le (by simp)]; rfl
set_option maxRecDepth 100000 in
theorem c_l1Split (s : ByteArray) (b : UInt8) (hs : s.size ≤ 1048576) (w : World) :
    Calls Tryz.prog 48 #[.string s, .int .u8 b.toNat] w fun e w' => (∃ A c, e = .returned (.slice A (splB b s).length c) ∧ Row w' w.heap.size 9 1 scell A (splB b s).length c (splB b s)) ∧ Bw w w' := by
  go_enter Tryz.func48, Tryz.ntmps48
  go_wp2
  go_loopw [5, 6, 7] (fun v f i wr => ∃ k g : Nat, ∃ A c, ∃ P : List ByteArray, k ≤ s.size ∧ g ≤ k ∧ P.length ≤ g ∧ i = .int .i64 k ∧ f = .int .i64 g ∧ v = .slice A P.length c ∧ Row wr w.heap.size 9 1 scell A P.length c P ∧ (∀ j, g ≤ j → j < k → s.data.toList[j]? ≠ some b) ∧ splB b s = P ++ (splL b (s.data.toList.drop g)).map mkB ∧ Bw w wr) (fun _ _ i _ => s.size - (intOf i).toNat)
  case atStart =>
    exact ⟨0, 0, _, _, [], Nat.zero_le _, Nat.le_refl _, Nat.le_refl _, rfl, rfl, rfl, Row.empty w w.heap.size _ _ _ (Nat.le_refl _), fun j h1 h2 => absurd h2 (by omega), by simp [splB], (Bw.refl _).alloc _⟩
  case round =>
    obtain ⟨k, g, A, c, P, hk, hgk, hpl, rfl, rfl, rfl, hrow, hno, hsp, hbl⟩ := hrel
    have Hno := Lib.hid hno
    have Hsp := Lib.hid hsp
    clear hno hsp
    by_cases hlt : k < s.size
    · have HB := Lib.hid (show s.data.toList[k]? = some s[k] by rw [List.getElem?_eq_getElem (by simpa using hlt)]; rfl)
      by_cases he : s[k] = b
      · have h0 : ((s[k].toNat : Int) == (b.toNat : Int)) = true := by rw [he]; simp
        have HS := Lib.hid (splB_nil_rest hgk Hno.out (by rw [HB.out, he]))
        clear he
        have hx1 : (0 : Int) ≤ g := by omega
        have hx2 : (g : Int) ≤ k := by omega
        have hx3 : (k : Int) ≤ s.size := by omega
        go_wp2_with (at_builtin; refine append_str rfl _ _ rfl _ _ _ _ rfl hrow _ _ rfl rfl ?_ ?_ ?_; omega; exact hbl.size; intro A2 c2 w2 hrow2 hg2)
        go_roundw
        case rel => exact ⟨k + 1, k + 1, A2, c2, P ++ [s.extract g k], by omega, by omega, by simp; omega, by go_num, by go_num, by simp, by simpa using hrow2, fun j h1 h2 => absurd h2 (by omega), by rw [Hsp.out, HS.out]; simp, Bw.ofRow hbl hg2 (fun x hx => (hrow.lt x hx).1)⟩
        case measure => simp [intOf]; omega
      · have h0 : ((s[k].toNat : Int) == (b.toNat : Int)) = false := by
          rw [beq_eq_false_iff_ne]
          intro e
          exact he (UInt8.toNat_inj.1 (by omega))
        have HN := Lib.hid he
        clear he
        go_wp2
        go_roundw
        case rel => exact ⟨k + 1, g, A, c, P, by omega, by omega, by omega, by go_num, rfl, rfl, hrow, fun j h1 h2 => by
          rcases Nat.lt_succ_iff_lt_or_eq.1 h2 with h3 | rfl
          · exact Hno.out j h1 h3
          · rw [HB.out]; exact fun e => HN.out (Option.some.inj e), Hsp.out, hbl⟩
        case measure => simp [intOf]; omega
    · obtain rfl : k = s.size := by omega
      have HS := Lib.hid (splB_end Hno.out)
      have hx1 : (0 : Int) ≤ g := by omega
      have hx2 : (g : Int) ≤ s.size := by omega
      go_wp2_with (at_builtin; refine append_str rfl _ _ rfl _ _ _ _ rfl hrow _ _ rfl rfl ?_ ?_ ?_; omega; exact hbl.size; intro A2 c2 w2 hrow2 hg2)
      go_ret
      have e : splB b s = P ++ [s.extract g s.size] := by rw [Hsp.out, HS.out]
      rw [e]
      exact ⟨⟨A2, c2, by simp, by simpa using hrow2⟩, Bw.ofRow hbl hg2 (fun x hx => (hrow.lt x hx).1)⟩
def lays146_ren : Go.Shelf.Ren := ⟨fun | 146 => 24 | 221 => 44 | 268 => 61 | 138 => 62 | 143 => 63 | 195 => 72 | 197 => 73 | 218 => 74 | 219 => 75 | 260 => 88 | 217 => 89 | 225 => 90 | 224 => 91 | 267 => 92 | 266 => 101 | 314 => 102 | n => n, fun | 9 => 9 | 31 => 45 | 3 => 3 | 4 => 4 | 0 => 0 | 105 => 90 | 21 => 21 | 5 => 5 | 46 => 93 | 119 => 120 | 139 => 123 | 138 => 122 | 146 => 124 | 51 => 111 | n => n, fun | 1 => 0 | 3 => 4 | 4 => 5 | n => n⟩
theorem lays146 : Go.Proofs.Lays.n146 Tryz.prog lays146_ren where
  mixed := by kernel_rfl
  f138 := Tryz.func62.trans (congrArg some (by kernel_rfl))
  f143 := Tryz.func63.trans (congrArg some (by kernel_rfl))
  f146 := Tryz.func24.trans (congrArg some (by kernel_rfl))
  f195 := Tryz.func72.trans (congrArg some (by kernel_rfl))
  f197 := Tryz.func73.trans (congrArg some (by kernel_rfl))
  f217 := Tryz.func89.trans (congrArg some (by kernel_rfl))
  f218 := Tryz.func74.trans (congrArg some (by kernel_rfl))
  f219 := Tryz.func75.trans (congrArg some (by kernel_rfl))
  f221 := Tryz.func44.trans (congrArg some (by kernel_rfl))
  f224 := Tryz.func91.trans (congrArg some (by kernel_rfl))
  f225 := Tryz.func90.trans (congrArg some (by kernel_rfl))
  f260 := Tryz.func88.trans (congrArg some (by kernel_rfl))
  f266 := Tryz.func101.trans (congrArg some (by kernel_rfl))
  f267 := Tryz.func92.trans (congrArg some (by kernel_rfl))
  f268 := Tryz.func61.trans (congrArg some (by kernel_rfl))
  f314 := Tryz.func102.trans (congrArg some (by kernel_rfl))
  t0 := Tryz.underlying0
  a0 := Tryz.isAgg0
  z0 := Tryz.sizeOf0
  v0 := Tryz.zeroValue0
  t3 := Tryz.underlying3
  a3 := Tryz.isAgg3
  z3 := Tryz.sizeOf3
  v3 := Tryz.zeroValue3
  t4 := Tryz.underlying4
  a4 := Tryz.isAgg4
  z4 := Tryz.sizeOf4
  v4 := Tryz.zeroValue4
  t5 := Tryz.underlying5
  a5 := Tryz.isAgg5
  z5 := Tryz.sizeOf5
  v5 := Tryz.zeroValue5
  t9 := Tryz.underlying9
  a9 := Tryz.isAgg9
  z9 := Tryz.sizeOf9
  v9 := Tryz.zeroValue9
  t21 := Tryz.underlying21
  a21 := Tryz.isAgg21
  z21 := Tryz.sizeOf21
  v21 := Tryz.zeroValue21
  t31 := Tryz.underlying45
  a31 := Tryz.isAgg45
  z31 := Tryz.sizeOf45
  v31 := Tryz.zeroValue45
  t46 := Tryz.underlying93
  a46 := Tryz.isAgg93
  z46 := Tryz.sizeOf93
  v46 := Tryz.zeroValue93
  t51 := Tryz.underlying111
  a51 := Tryz.isAgg111
  z51 := Tryz.sizeOf111
  v51 := Tryz.zeroValue111
  t105 := Tryz.underlying90
  a105 := Tryz.isAgg90
  z105 := Tryz.sizeOf90
  v105 := Tryz.zeroValue90
  t119 := Tryz.underlying120
  a119 := Tryz.isAgg120
  z119 := Tryz.sizeOf120
  t138 := Tryz.underlying122
  a138 := Tryz.isAgg122
  z138 := Tryz.sizeOf122
  v138 := Tryz.zeroValue122
  t139 := Tryz.underlying123
  a139 := Tryz.isAgg123
  z139 := Tryz.sizeOf123
  v139 := Tryz.zeroValue123
  t146 := Tryz.underlying124
  a146 := Tryz.isAgg124
  z146 := Tryz.sizeOf124
  v146 := Tryz.zeroValue124
  g1 := by kernel_rfl
  g3 := by kernel_rfl
  g4 := by kernel_rfl
theorem c_Split (s : ByteArray) (b : UInt8) (hs : s.size ≤ 1048576) (w : World) (hp : PEnv w) :
    Calls Tryz.prog 24 #[.string s, .string ⟨#[b]⟩] w fun e w' => (∃ A c, e = .returned (.slice A (splB b s).length c) ∧ Row w' w.heap.size 9 1 scell A (splB b s).length c (splB b s)) ∧ Bw w w' := by
  obtain ⟨m, hm⟩ := hp.m
  have hcon := Any.strings_Split lays146 infoStr s ⟨#[b]⟩ m w (by omega) hm (Nat.le_refl 1)
  have hl := Lib.splitB_all ⟨#[b]⟩ (Nat.le_refl 1) 0 _ s rfl
  have hle := splB_len b s
  rw [splitB_one] at hcon hl
  rw [← hl] at hcon
  refine hcon.mono ?_
  rintro e w' ⟨rfl, rfl⟩
  refine ⟨⟨_, _, rfl, ⟨?_, rfl⟩⟩, (Bw.refl w).alloc _⟩
  have := World.ownsRow_lit (base := w.heap.size) (e := 9) (size := 1) w ((splB b s).map Value.string).toArray (splB b s).length (Nat.le_refl _) (by unfold maxLen; omega) (by simp)
  have e : ((splB b s).map Value.string) = (splB b s).flatMap scell := by
    induction splB b s with
    | nil => rfl
    | cons x r ih => simp [scell, ih]
  rw [List.toList_toArray] at this
  rw [← e]
  exact this
end Go.Proofs.YthciecmofgoebaaGreatDoor
