
/- The texts of numbers, with a separator between them. -/
import Derived.Test.YthciecmofgoebaaGreatDoorW1
import Derived.Test.YthciecmofgoebaaGreatDoorI
import Derived.Test.YthciecmofgoebaaGreatDoorJ0
import Derived.Shelf.Strings.OnBuilder
namespace Go.Proofs.YthciecmofgoebaaGreatDoor
open Go.RowKit Go.Shelf
def lays156_ren : Go.Shelf.Ren := ⟨fun | 156 => 42 | 165 => 57 | 166 => 58 | 169 => 59 | 240 => 68 | 241 => 69 | 276 => 81 | 277 => 82 | n => n, fun | 31 => 45 | 9 => 9 | 3 => 3 | 4 => 4 | 0 => 0 | 20 => 20 | 72 => 75 | 76 => 79 | 70 => 73 | 37 => 22 | 75 => 78 | 127 => 87 | 164 => 100 | 5 => 5 | 80 => 81 | n => n, fun | n => n⟩
theorem lays156 : Go.Proofs.Lays.n156 Tryz.prog lays156_ren where
  mixed := by kernel_rfl
  f156 := Tryz.func42.trans (congrArg some (by kernel_rfl))
  f165 := Tryz.func57.trans (congrArg some (by kernel_rfl))
  f166 := Tryz.func58.trans (congrArg some (by kernel_rfl))
  f169 := Tryz.func59.trans (congrArg some (by kernel_rfl))
  f240 := Tryz.func68.trans (congrArg some (by kernel_rfl))
  f241 := Tryz.func69.trans (congrArg some (by kernel_rfl))
  f276 := Tryz.func81.trans (congrArg some (by kernel_rfl))
  f277 := Tryz.func82.trans (congrArg some (by kernel_rfl))
  t0 := Tryz.underlying0
  a0 := Tryz.isAgg0
  z0 := Tryz.sizeOf0
  v0 := Tryz.zeroValue0
  t3 := Tryz.underlying3
  a3 := Tryz.isAgg3
  z3 := Tryz.sizeOf3
  v3 := Tryz.zeroValue3
  t4 := Tryz.underlying4
  a4 := Tryz.isAgg4
  z4 := Tryz.sizeOf4
  v4 := Tryz.zeroValue4
  t9 := Tryz.underlying9
  a9 := Tryz.isAgg9
  z9 := Tryz.sizeOf9
  v9 := Tryz.zeroValue9
  t20 := Tryz.underlying20
  a20 := Tryz.isAgg20
  z20 := Tryz.sizeOf20
  v20 := Tryz.zeroValue20
  t31 := Tryz.underlying45
  a31 := Tryz.isAgg45
  z31 := Tryz.sizeOf45
  v31 := Tryz.zeroValue45
  t37 := Tryz.underlying22
  a37 := Tryz.isAgg22
  z37 := Tryz.sizeOf22
  v37 := Tryz.zeroValue22
  t70 := Tryz.underlying73
  a70 := Tryz.isAgg73
  z70 := Tryz.sizeOf73
  v70 := Tryz.zeroValue73
  t72 := Tryz.underlying75
  a72 := Tryz.isAgg75
  z72 := Tryz.sizeOf75
  v72 := Tryz.zeroValue75
  t75 := Tryz.underlying78
  a75 := Tryz.isAgg78
  z75 := Tryz.sizeOf78
  v75 := Tryz.zeroValue78
  t76 := Tryz.underlying79
  a76 := Tryz.isAgg79
  z76 := Tryz.sizeOf79
  v76 := Tryz.zeroValue79
  t127 := Tryz.underlying87
  a127 := Tryz.isAgg87
  z127 := Tryz.sizeOf87
  v127 := Tryz.zeroValue87
  t164 := Tryz.underlying100
  a164 := Tryz.isAgg100
  z164 := Tryz.sizeOf100
  v164 := Tryz.zeroValue100
theorem extra156 : Builder.Extra Tryz.prog lays156_ren where
  sizeBuilder := by kernel_rfl
  liesBuilder := by kernel_rfl
  t5 := Tryz.underlying5
  a5 := Tryz.isAgg5
  z5 := Tryz.sizeOf5
  v5 := Tryz.zeroValue5
  infoByte := by kernel_rfl
  cellsByte := by kernel_rfl
  sizeByte := by kernel_rfl
  neB5 := by decide
def numW (ts : List Int) : List ByteArray := ts.map fun x => numT x.toNat
def joinT (ts : List Int) (sep : ByteArray) : ByteArray := ⟨(Lib.join ((numW ts).map (·.data.toList)) sep.data.toList).toArray⟩
theorem numW_at {ts : List Int} {k : Nat} (hk : k < ts.length) : strAt (numW ts) k = numT (intAt ts k).toNat := by
  rw [strAt_lt (by simpa [numW] using hk), intAt_lt hk]; simp [numW]
theorem c_Join (g n c : Nat) (ss : List ByteArray) (sep : ByteArray) (w : World) (hg : g < w.heap.size) (hn : n ≤ c) (hN : n ≤ 1048576) (hlen : ss.length = n) (hc : ∀ k, k < n → w.cell? ⟨g, k, none⟩ = some (.string (strAt ss k))) (hj : (Lib.join (ss.map (·.data.toList)) sep.data.toList).length ≤ 140737488355328) :
    Calls Tryz.prog 42 #[.slice (some ⟨g, 0, none⟩) n c, .string sep] w fun e w' => e = .returned (.string ⟨(Lib.join (ss.map (·.data.toList)) sep.data.toList).toArray⟩) ∧ Bw w w' := by
  subst hlen
  have hcon := Any.strings_Join lays156 extra156 g 0 c ss sep w (fun j x hx => by
    obtain ⟨h1, h2⟩ := List.getElem?_eq_some_iff.1 hx
    rw [Nat.zero_add, hc j h1, strAt_lt h1, h2]) hg (by omega) hn hj
  exact hcon.mono fun e w' ⟨he, hb⟩ => ⟨he, ⟨hb⟩⟩
set_option maxRecDepth 100000 in
theorem c_joinInts (A : Option Addr) (n c : Nat) (ts : List Int) (sep : ByteArray) (hv : ∀ k, k < ts.length → 0 ≤ intAt ts k ∧ intAt ts k ≤ 100000) (hj : (joinT ts sep).size ≤ 140737488355328) (w : World) (ht : Tab10 w) (hm : n ≤ 1048576) (h : Rd w A n 1 (ts.map icell)) :
    Calls Tryz.prog 22 #[.slice A n c, .string sep] w fun e w' => e = .returned (.string (joinT ts sep)) ∧ Bw w w' := by
  have hl := Lib.hid h.ilen
  have hlw := Lib.hid (show (numW ts).length = n by rw [← hl.out]; simp [numW])
  obtain ⟨i0, hi, hz0, hz1, hz2⟩ := info_parts infoStr
  have hmk : ∀ W, (Instr.makeSlice 45 (.int .i64 (n : Int)) (.int .i64 (n : Int))).run Tryz.prog W = .ok (.slice (some ⟨W.heap.size, 0, none⟩) n n) (W.alloc (.cells (madeCells #[.string ByteArray.empty] (n * 1)) 9)) := fun W => by
    have := run_make (P := Tryz.prog) W 45 9 i0 _ Tryz.underlying45 hi hz0 .i64 .i64 n n (by omega) (by omega) (by rw [hz2]; omega) (by omega)
    rw [hz1] at this
    exact this
  clear hi hz0 hz1 hz2
  have HV := Lib.hid hv
  have HJ := Lib.hid hj
  clear hv hj
  go_enter Tryz.func22, Tryz.ntmps22
  go_wp2
  go_loopw [13] (fun i wr => ∃ k : Nat, k ≤ n ∧ i = .int .i64 k ∧ Row wr w.heap.size 9 1 scell (some ⟨w.heap.size, 0, none⟩) n n (mix ByteArray.empty n k (numW ts)) ∧ Bw w wr) (fun i _ => n - (intOf i).toNat)
  case atStart =>
    refine ⟨0, Nat.zero_le _, rfl, ⟨?_, by simp [mix]⟩, (Bw.refl _).alloc _⟩
    have := World.ownsRow_lit (base := w.heap.size) (e := 9) (size := 1) w (madeCells #[.string ByteArray.empty] (n * 1)) n (Nat.le_refl _) (by unfold maxLen; omega) (size_madeCells _ _)
    have e1 := madeCells_flat #[.string ByteArray.empty] (by simp) n
    have e2 : (#[Value.string ByteArray.empty] : Array Value).size = 1 := rfl
    rw [e2] at e1
    rw [e1] at this
    rw [mix_zero, List.flatMap_replicate]
    simp only [Nat.mul_one] at this
    exact this
  case round =>
    obtain ⟨k, hk, rfl, hrow, hbl⟩ := hrel
    by_cases hlt : k < n
    · obtain ⟨b, off, rfl, hb, hc⟩ := (h.keep hbl).ints (by omega)
      have h0 := hc k hlt
      clear hc
      have ⟨v0, v1⟩ := HV.out k (by rw [hl.out]; exact hlt)
      have HW := Lib.hid (numW_at (ts := ts) (k := k) (by rw [hl.out]; exact hlt))
      generalize intAt ts k = x at h0 v0 v1 HW
      obtain ⟨u, rfl⟩ : ∃ u : Nat, x = u := ⟨x.toNat, by omega⟩
      have hu : u ≤ 100000 := by omega
      obtain ⟨g, hg, hlo, hgl, hfz, hcc⟩ := hrow.strs (by omega)
      obtain rfl : w.heap.size = g := by simpa using hg
      have q0 := hcc k hlt
      clear hcc
      go_wp2_with (go_at_call 41; refine (c_Itoa u hu _ (ht.keep hbl)).mono ?_; rintro e w1 ⟨rfl, hb1⟩; have q1 := hb1.cellv q0; have hfz1 := fun j => (hrow.keep hb1).frozen j; have hrow1 := hrow.keep hb1)
      all_goals
        go_roundw
        case rel =>
          have hs := hrow1.set1 (t := numT u) (fun _ => rfl) hlt rfl
          refine ⟨k + 1, by omega, by go_num, ?_, (hbl.trans hb1).grown hs.2 (by simp)⟩
          have e1 : strAt (numW ts) k = numT u := HW.out
          have e2 := mix_succ ByteArray.empty n k (numW ts) hlw.out hlt
          rw [← e2]
          have e3 : (numW ts).getD k ByteArray.empty = numT u := e1
          rw [e3]
          exact hs.1
        case measure => simp [intOf]; omega
    · obtain rfl : k = n := by omega
      rw [mix_all _ _ _ hlw.out] at hrow
      have rdw := hrow.rd (fun _ => rfl)
      have hgl : w.heap.size < wr.heap.size := by first | exact (hrow.lt _ rfl).2 | omega
      have hcc : ∀ j, j < k → wr.cell? ⟨w.heap.size, j, none⟩ = some (.string (strAt (numW ts) j)) := by
        intro j hj
        obtain ⟨g, hg, hlo, hgl, hfz, hcc⟩ := hrow.strs (by omega)
        obtain rfl : w.heap.size = g := by simpa using hg
        exact hcc j hj
      have Hcc := Lib.hid hcc
      clear hcc
      go_wp2_with (go_at_call 42; refine (c_Join w.heap.size k k (numW ts) sep _ hgl (Nat.le_refl _) hm hlw.out Hcc.out (by have := HJ.out; simpa [joinT, ByteArray.size] using this)).mono ?_; rintro e w2 ⟨rfl, hb2⟩)
      go_ret
      exact ⟨rfl, hbl.trans hb2⟩
end Go.Proofs.YthciecmofgoebaaGreatDoor
