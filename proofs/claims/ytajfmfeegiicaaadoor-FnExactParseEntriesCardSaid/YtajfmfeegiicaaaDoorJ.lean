
/- The texts of numbers, with a separator between them. -/
import Derived.Test.YtajfmfeegiicaaaDoorW1
import Derived.Test.YtajfmfeegiicaaaDoorI
import Derived.Test.YtajfmfeegiicaaaDoorJ0
import Derived.Shelf.Strings.OnBuilder
namespace Go.Proofs.YtajfmfeegiicaaaDoor
open Go.RowKit Go.Shelf
def lays156_ren : Go.Shelf.Ren := ⟨fun | 156 => 55 | 165 => 63 | 166 => 64 | 169 => 65 | 240 => 79 | 241 => 80 | 276 => 94 | 277 => 95 | n => n, fun | 31 => 43 | 9 => 9 | 3 => 3 | 4 => 4 | 0 => 0 | 20 => 20 | 72 => 85 | 76 => 68 | 70 => 82 | 37 => 83 | 75 => 67 | 127 => 104 | 164 => 118 | 5 => 5 | 80 => 87 | n => n, fun | n => n⟩
theorem lays156 : Go.Proofs.Lays.n156 Tryd.prog lays156_ren where
  mixed := by kernel_rfl
  f156 := Tryd.func55.trans (congrArg some (by kernel_rfl))
  f165 := Tryd.func63.trans (congrArg some (by kernel_rfl))
  f166 := Tryd.func64.trans (congrArg some (by kernel_rfl))
  f169 := Tryd.func65.trans (congrArg some (by kernel_rfl))
  f240 := Tryd.func79.trans (congrArg some (by kernel_rfl))
  f241 := Tryd.func80.trans (congrArg some (by kernel_rfl))
  f276 := Tryd.func94.trans (congrArg some (by kernel_rfl))
  f277 := Tryd.func95.trans (congrArg some (by kernel_rfl))
  t0 := Tryd.underlying0
  a0 := Tryd.isAgg0
  z0 := Tryd.sizeOf0
  v0 := Tryd.zeroValue0
  t3 := Tryd.underlying3
  a3 := Tryd.isAgg3
  z3 := Tryd.sizeOf3
  v3 := Tryd.zeroValue3
  t4 := Tryd.underlying4
  a4 := Tryd.isAgg4
  z4 := Tryd.sizeOf4
  v4 := Tryd.zeroValue4
  t9 := Tryd.underlying9
  a9 := Tryd.isAgg9
  z9 := Tryd.sizeOf9
  v9 := Tryd.zeroValue9
  t20 := Tryd.underlying20
  a20 := Tryd.isAgg20
  z20 := Tryd.sizeOf20
  v20 := Tryd.zeroValue20
  t31 := Tryd.underlying43
  a31 := Tryd.isAgg43
  z31 := Tryd.sizeOf43
  v31 := Tryd.zeroValue43
  t37 := Tryd.underlying83
  a37 := Tryd.isAgg83
  z37 := Tryd.sizeOf83
  v37 := Tryd.zeroValue83
  t70 := Tryd.underlying82
  a70 := Tryd.isAgg82
  z70 := Tryd.sizeOf82
  v70 := Tryd.zeroValue82
  t72 := Tryd.underlying85
  a72 := Tryd.isAgg85
  z72 := Tryd.sizeOf85
  v72 := Tryd.zeroValue85
  t75 := Tryd.underlying67
  a75 := Tryd.isAgg67
  z75 := Tryd.sizeOf67
  v75 := Tryd.zeroValue67
  t76 := Tryd.underlying68
  a76 := Tryd.isAgg68
  z76 := Tryd.sizeOf68
  v76 := Tryd.zeroValue68
  t127 := Tryd.underlying104
  a127 := Tryd.isAgg104
  z127 := Tryd.sizeOf104
  v127 := Tryd.zeroValue104
  t164 := Tryd.underlying118
  a164 := Tryd.isAgg118
  z164 := Tryd.sizeOf118
  v164 := Tryd.zeroValue118
theorem extra156 : Builder.Extra Tryd.prog lays156_ren where
  sizeBuilder := by kernel_rfl
  liesBuilder := by kernel_rfl
  t5 := Tryd.underlying5
  a5 := Tryd.isAgg5
  z5 := Tryd.sizeOf5
  v5 := Tryd.zeroValue5
  infoByte := by kernel_rfl
  cellsByte := by kernel_rfl
  sizeByte := by kernel_rfl
  neB5 := by decide
def numW (ts : List Int) : List ByteArray := ts.map fun x => numT x.toNat
def joinT (ts : List Int) (sep : ByteArray) : ByteArray := ⟨(Lib.join ((numW ts).map (·.data.toList)) sep.data.toList).toArray⟩
theorem numW_at {ts : List Int} {k : Nat} (hk : k < ts.length) : strAt (numW ts) k = numT (intAt ts k).toNat := by
  rw [strAt_lt (by simpa [numW] using hk), intAt_lt hk]; simp [numW]
theorem c_Join (g n c : Nat) (ss : List ByteArray) (sep : ByteArray) (w : World) (hg : g < w.heap.size) (hn : n ≤ c) (hN : n ≤ 1048576) (hlen : ss.length = n) (hc : ∀ k, k < n → w.cell? ⟨g, k, none⟩ = some (.string (strAt ss k))) (hj : (Lib.join (ss.map (·.data.toList)) sep.data.toList).length ≤ 140737488355328) :
    Calls Tryd.prog 55 #[.slice (some ⟨g, 0, none⟩) n c, .string sep] w fun e w' => e = .returned (.string ⟨(Lib.join (ss.map (·.data.toList)) sep.data.toList).toArray⟩) ∧ Bw w w' := by
  subst hlen
  have hcon := Any.strings_Join lays156 extra156 g 0 c ss sep w (fun j x hx => by
    obtain ⟨h1, h2⟩ := List.getElem?_eq_some_iff.1 hx
    rw [Nat.zero_add, hc j h1, strAt_lt h1, h2]) hg (by omega) hn hj
  exact hcon.mono fun e w' ⟨he, hb⟩ => ⟨he, ⟨hb⟩⟩
set_option maxRecDepth 100000 in
theorem c_joinInts (A : Option Addr) (n c : Nat) (ts : List Int) (sep : ByteArray) (hv : ∀ k, k < ts.length → 0 ≤ intAt ts k ∧ intAt ts k ≤ 100000) (hj : (joinT ts sep).size ≤ 140737488355328) (w : World) (ht : Tab10 w) (hm : n ≤ 1048576) (h : Rd w A n 1 (ts.map icell)) :
    Calls Tryd.prog 42 #[.slice A n c, .string sep] w fun e w' => e = .returned (.string (joinT ts sep)) ∧ Bw w w' := by
  have hl := Lib.hid h.ilen
  have hlw := Lib.hid (show (numW ts).length = n by rw [← hl.out]; simp [numW])
  obtain ⟨i0, hi, hz0, hz1, hz2⟩ := info_parts infoStr
  have hmk : ∀ W, (Instr.makeSlice 43 (.int .i64 (n : Int)) (.int .i64 (n : Int))).run Tryd.prog W = .ok (.slice (some ⟨W.heap.size, 0, none⟩) n n) (W.alloc (.cells (madeCells #[.string ByteArray.empty] (n * 1)) 9)) := fun W => by
    have := run_make (P := Tryd.prog) W 43 9 i0 _ Tryd.underlying43 hi hz0 .i64 .i64 n n (by omega) (by omega) (by rw [hz2]; omega) (by omega)
    rw [hz1] at this
    exact this
  clear hi hz0 hz1 hz2
  have HV := Lib.hid hv
  have HJ := Lib.hid hj
  clear hv hj
  go_enter Tryd.func42, Tryd.ntmps42
  go_wp2
  go_loopw [13] (fun i wr => ∃ k : Nat, k ≤ n ∧ i = .int .i64 k ∧ Row wr w.heap.size 9 1 scell (some ⟨w.heap.size, 0, none⟩) n n (mix ByteArray.empty n k (numW ts)) ∧ Bw w wr) (fun i _ => n - (intOf i).toNat)
  case atStart =>
    refine ⟨0, Nat.zero_le _, rfl, ⟨?_, by simp [mix]⟩, (Bw.refl _).alloc _⟩
    have := World.ownsRow_lit (base := w.heap.size) (e := 9) (size := 1) w (madeCells #[.string ByteArray.empty] (n * 1)) n (Nat.le_refl _) (by unfold maxLen; omega) (size_madeCells _ _)
    have e1 := madeCells_flat #[.string ByteArray.empty] (by simp) n
    have e2 : (#[Value.string ByteArray.empty] : Array Value).size = 1 := rfl
    rw [e2] at e1
    rw [e1] at this
    rw [mix_zero, List.flatMap_replicate]
    simp only [Nat.mul_one] at this
    exact this
  case round =>
    obtain ⟨k, hk, rfl, hrow, hbl⟩ := hrel
    by_cases hlt : k < n
    · obtain ⟨b, off, rfl, hb, hc⟩ := (h.keep hbl).ints (by omega)
      have h0 := hc k hlt
      clear hc
      have ⟨v0, v1⟩ := HV.out k (by rw [hl.out]; exact hlt)
      have HW := Lib.hid (numW_at (ts := ts) (k := k) (by rw [hl.out]; exact hlt))
      generalize intAt ts k = x at h0 v0 v1 HW
      obtain ⟨u, rfl⟩ : ∃ u : Nat, x = u := ⟨x.toNat, by omega⟩
      have hu : u ≤ 100000 := by omega
      obtain ⟨g, hg, hlo, hgl, hfz, hcc⟩ := hrow.strs (by omega)
      obtain rfl : w.heap.size = g := by simpa using hg
      have q0 := hcc k hlt
      clear hcc
      go_wp2_with (go_at_call 41; refine (c_Itoa u hu _ (ht.keep hbl)).mono ?_; rintro e w1 ⟨rfl, hb1⟩; have q1 := hb1.cellv q0; have hfz1 := fun j => (hrow.keep hb1).frozen j; have hrow1 := hrow.keep hb1)
      all_goals
        go_roundw
        case rel =>
          have hs := hrow1.set1 (t := numT u) (fun _ => rfl) hlt rfl
          refine ⟨k + 1, by omega, by go_num, ?_, (hbl.trans hb1).grown hs.2 (by simp)⟩
          have e1 : strAt (numW ts) k = numT u := HW.out
          have e2 := mix_succ ByteArray.empty n k (numW ts) hlw.out hlt
          rw [← e2]
          have e3 : (numW ts).getD k ByteArray.empty = numT u := e1
          rw [e3]
          exact hs.1
        case measure => simp [intOf]; omega
    · obtain rfl : k = n := by omega
      rw [mix_all _ _ _ hlw.out] at hrow
      have rdw := hrow.rd (fun _ => rfl)
      have hgl : w.heap.size < wr.heap.size := by first | exact (hrow.lt _ rfl).2 | omega
      have hcc : ∀ j, j < k → wr.cell? ⟨w.heap.size, j, none⟩ = some (.string (strAt (numW ts) j)) := by
        intro j hj
        obtain ⟨g, hg, hlo, hgl, hfz, hcc⟩ := hrow.strs (by omega)
        obtain rfl : w.heap.size = g := by simpa using hg
        exact hcc j hj
      have Hcc := Lib.hid hcc
      clear hcc
      go_wp2_with (go_at_call 55; refine (c_Join w.heap.size k k (numW ts) sep _ hgl (Nat.le_refl _) hm hlw.out Hcc.out (by have := HJ.out; simpa [joinT, ByteArray.size] using this)).mono ?_; rintro e w2 ⟨rfl, hb2⟩)
      go_ret
      exact ⟨rfl, hbl.trans hb2⟩
end Go.Proofs.YtajfmfeegiicaaaDoor
