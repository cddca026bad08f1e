
/- The texts of numbers, with a separator between them. -/
import Derived.Test.YthciecmofgoebaaDoorW1
import Derived.Test.YthciecmofgoebaaDoorI
import Derived.Shelf.Strings.OnBuilder
namespace Go.Proofs.YthciecmofgoebaaDoor
open Go.RowKit Go.Shelf
def scell (x : ByteArray) : List Value := [.string x]
def strAt (ts : List ByteArray) (k : Nat) : ByteArray := ts.getD k ByteArray.empty
theorem strAt_lt {ts : List ByteArray} {k : Nat} (h : k < ts.length) : strAt ts k = ts[k] := by simp [strAt, h]
theorem Rd.strs {w : World} {A : Option Addr} {n : Nat} {ts : List ByteArray} (h : Rd w A n 1 (ts.map scell)) (hn : 0 < n) :
    ∃ b off, A = some ⟨b, off, none⟩ ∧ b < w.heap.size ∧ ∀ k, k < n → w.cell? ⟨b, off + k, none⟩ = some (.string (strAt ts k)) := by
  obtain ⟨b, off, hA, hb, hc⟩ := h.at_ hn
  refine ⟨b, off, hA, hb, fun k hk => ?_⟩
  have hl : ts.length = n := by simpa using h.len
  have hk' : k < ts.length := by omega
  have hx : (ts.map scell)[k]? = some (scell (strAt ts k)) := by simp [strAt, hk']
  simpa using hc k 0 _ _ hx rfl
theorem Rd.slen {w : World} {A : Option Addr} {n : Nat} {ts : List ByteArray} (h : Rd w A n 1 (ts.map scell)) : ts.length = n := by simpa using h.len
theorem Row.strs {w : World} {lo : Nat} {e : TypeId} {A : Option Addr} {n c : Nat} {ts : List ByteArray} (h : Row w lo e 1 scell A n c ts) (hn : 0 < n) :
    ∃ g, A = some ⟨g, 0, none⟩ ∧ lo ≤ g ∧ g < w.heap.size ∧ (∀ j, w.frozen? ⟨g, j, none⟩ = false) ∧ ∀ k, k < n → w.cell? ⟨g, k, none⟩ = some (.string (strAt ts k)) := by
  obtain ⟨g, rfl, hlo, hlt⟩ := h.form hn
  obtain ⟨b, off, hA, _, hc⟩ := (h.rd (fun _ => rfl)).strs hn
  simp only [Option.some.injEq, Addr.mk.injEq, and_true] at hA
  obtain ⟨rfl, rfl⟩ := hA
  exact ⟨g, rfl, hlo, hlt, fun j => h.frozen j, fun k hk => by simpa using hc k hk⟩
theorem infoStr : (Tryd.prog.info? 9).map (fun i => (i.zero, i.size, i.bytes)) = some (some (.string ByteArray.empty), 1, 16) := by kernel_rfl
def lays156_ren : Go.Shelf.Ren := ⟨fun | 156 => 30 | 165 => 36 | 166 => 37 | 169 => 38 | 240 => 44 | 241 => 45 | 276 => 56 | 277 => 57 | n => n, fun | 31 => 44 | 9 => 9 | 3 => 3 | 4 => 4 | 0 => 0 | 20 => 20 | 72 => 56 | 76 => 60 | 70 => 53 | 37 => 54 | 75 => 59 | 127 => 66 | 164 => 78 | 5 => 5 | 80 => 62 | n => n, fun | n => n⟩
theorem lays156 : Go.Proofs.Lays.n156 Tryd.prog lays156_ren where
  mixed := by kernel_rfl
  f156 := Tryd.func30.trans (congrArg some (by kernel_rfl))
  f165 := Tryd.func36.trans (congrArg some (by kernel_rfl))
  f166 := Tryd.func37.trans (congrArg some (by kernel_rfl))
  f169 := Tryd.func38.trans (congrArg some (by kernel_rfl))
  f240 := Tryd.func44.trans (congrArg some (by kernel_rfl))
  f241 := Tryd.func45.trans (congrArg some (by kernel_rfl))
  f276 := Tryd.func56.trans (congrArg some (by kernel_rfl))
  f277 := Tryd.func57.trans (congrArg some (by kernel_rfl))
  t0 := Tryd.underlying0
  a0 := Tryd.isAgg0
  z0 := Tryd.sizeOf0
  v0 := Tryd.zeroValue0
  t3 := Tryd.underlying3
  a3 := Tryd.isAgg3
  z3 := Tryd.sizeOf3
  v3 := Tryd.zeroValue3
  t4 := Tryd.underlying4
  a4 := Tryd.isAgg4
  z4 := Tryd.sizeOf4
  v4 := Tryd.zeroValue4
  t9 := Tryd.underlying9
  a9 := Tryd.isAgg9
  z9 := Tryd.sizeOf9
  v9 := Tryd.zeroValue9
  t20 := Tryd.underlying20
  a20 := Tryd.isAgg20
  z20 := Tryd.sizeOf20
  v20 := Tryd.zeroValue20
  t31 := Tryd.underlying44
  a31 := Tryd.isAgg44
  z31 := Tryd.sizeOf44
  v31 := Tryd.zeroValue44
  t37 := Tryd.underlying54
  a37 := Tryd.isAgg54
  z37 := Tryd.sizeOf54
  v37 := Tryd.zeroValue54
  t70 := Tryd.underlying53
  a70 := Tryd.isAgg53
  z70 := Tryd.sizeOf53
  v70 := Tryd.zeroValue53
  t72 := Tryd.underlying56
  a72 := Tryd.isAgg56
  z72 := Tryd.sizeOf56
  v72 := Tryd.zeroValue56
  t75 := Tryd.underlying59
  a75 := Tryd.isAgg59
  z75 := Tryd.sizeOf59
  v75 := Tryd.zeroValue59
  t76 := Tryd.underlying60
  a76 := Tryd.isAgg60
  z76 := Tryd.sizeOf60
  v76 := Tryd.zeroValue60
  t127 := Tryd.underlying66
  a127 := Tryd.isAgg66
  z127 := Tryd.sizeOf66
  v127 := Tryd.zeroValue66
  t164 := Tryd.underlying78
  a164 := Tryd.isAgg78
  z164 := Tryd.sizeOf78
  v164 := Tryd.zeroValue78
theorem extra156 : Builder.Extra Tryd.prog lays156_ren where
  sizeBuilder := by kernel_rfl
  liesBuilder := by kernel_rfl
  t5 := Tryd.underlying5
  a5 := Tryd.isAgg5
  z5 := Tryd.sizeOf5
  v5 := Tryd.zeroValue5
  infoByte := by kernel_rfl
  cellsByte := by kernel_rfl
  sizeByte := by kernel_rfl
  neB5 := by decide
def numW (ts : List Int) : List ByteArray := ts.map fun x => numT x.toNat
def joinT (ts : List Int) (sep : ByteArray) : ByteArray := ⟨(Lib.join ((numW ts).map (·.data.toList)) sep.data.toList).toArray⟩
theorem numW_at {ts : List Int} {k : Nat} (hk : k < ts.length) : strAt (numW ts) k = numT (intAt ts k).toNat := by
  rw [strAt_lt (by simpa [numW] using hk), intAt_lt hk]; simp [numW]
theorem c_Join (g n c : Nat) (ss : List ByteArray) (sep : ByteArray) (w : World) (hg : g < w.heap.size) (hn : n ≤ c) (hN : n ≤ 1048576) (hlen : ss.length = n) (hc : ∀ k, k < n → w.cell? ⟨g, k, none⟩ = some (.string (strAt ss k))) (hj : (Lib.join (ss.map (·.data.toList)) sep.data.toList).length ≤ 140737488355328) :
    Calls Tryd.prog 30 #[.slice (some ⟨g, 0, none⟩) n c, .string sep] w fun e w' => e = .returned (.string ⟨(Lib.join (ss.map (·.data.toList)) sep.data.toList).toArray⟩) ∧ Bw w w' := by
  subst hlen
  have hcon := Any.strings_Join lays156 extra156 g 0 c ss sep w (fun j x hx => by
    obtain ⟨h1, h2⟩ := List.getElem?_eq_some_iff.1 hx
    rw [Nat.zero_add, hc j h1, strAt_lt h1, h2]) hg (by omega) hn hj
  exact hcon.mono fun e w' ⟨he, hb⟩ => ⟨he, ⟨hb⟩⟩
set_option maxRecDepth 100000 in
theorem c_joinInts (A : Option Addr) (n c : Nat) (ts : List Int) (sep : ByteArray) (hv : ∀ k, k < ts.length → 0 ≤ intAt ts k ∧ intAt ts k ≤ 100000) (hj : (joinT ts sep).size ≤ 140737488355328) (w : World) (ht : Tab10 w) (hm : n ≤ 1048576) (h : Rd w A n 1 (ts.map icell)) :
    Calls Tryd.prog 19 #[.slice A n c, .string sep] w fun e w' => e = .returned (.string (joinT ts sep)) ∧ Bw w w' := by
  have hl := Lib.hid h.ilen
  have hlw := Lib.hid (show (numW ts).length = n by rw [← hl.out]; simp [numW])
  obtain ⟨i0, hi, hz0, hz1, hz2⟩ := info_parts infoStr
  have hmk : ∀ W, (Instr.makeSlice 44 (.int .i64 (n : Int)) (.int .i64 (n : Int))).run Tryd.prog W = .ok (.slice (some ⟨W.heap.size, 0, none⟩) n n) (W.alloc (.cells (madeCells #[.string ByteArray.empty] (n * 1)) 9)) := fun W => by
    have := run_make (P := Tryd.prog) W 44 9 i0 _ Tryd.underlying44 hi hz0 .i64 .i64 n n (by omega) (by omega) (by rw [hz2]; omega) (by omega)
    rw [hz1] at this
    exact this
  clear hi hz0 hz1 hz2
  have HV := Lib.hid hv
  have HJ := Lib.hid hj
  clear hv hj
  go_enter Tryd.func19, Tryd.ntmps19
  go_wp2
  go_loopw [13] (fun i wr => ∃ k : Nat, k ≤ n ∧ i = .int .i64 k ∧ Row wr w.heap.size 9 1 scell (some ⟨w.heap.size, 0, none⟩) n n (mix ByteArray.empty n k (numW ts)) ∧ Bw w wr) (fun i _ => n - (intOf i).toNat)
  case atStart =>
    refine ⟨0, Nat.zero_le _, rfl, ⟨?_, by simp [mix]⟩, (Bw.refl _).alloc _⟩
    have := World.ownsRow_lit (base := w.heap.size) (e := 9) (size := 1) w (madeCells #[.string ByteArray.empty] (n * 1)) n (Nat.le_refl _) (by unfold maxLen; omega) (size_madeCells _ _)
    have e1 := madeCells_flat #[.string ByteArray.empty] (by simp) n
    have e2 : (#[Value.string ByteArray.empty] : Array Value).size = 1 := rfl
    rw [e2] at e1
    rw [e1] at this
    rw [mix_zero, List.flatMap_replicate]
    simp only [Nat.mul_one] at this
    exact this
  case round =>
    obtain ⟨k, hk, rfl, hrow, hbl⟩ := hrel
    by_cases hlt : k < n
    · obtain ⟨b, off, rfl, hb, hc⟩ := (h.keep hbl).ints (by omega)
      have h0 := hc k hlt
      clear hc
      have ⟨v0, v1⟩ := HV.out k (by rw [hl.out]; exact hlt)
      have HW := Lib.hid (numW_at (ts := ts) (k := k) (by rw [hl.out]; exact hlt))
      generalize intAt ts k = x at h0 v0 v1 HW
      obtain ⟨u, rfl⟩ : ∃ u : Nat, x = u := ⟨x.toNat, by omega⟩
      have hu : u ≤ 100000 := by omega
      obtain ⟨g, hg, hlo, hgl, hfz, hcc⟩ := hrow.strs (by omega)
      obtain rfl : w.heap.size = g := by simpa using hg
      have q0 := hcc k hlt
      clear hcc
      go_wp2_with (go_at_call 29; refine (c_Itoa u hu _ (ht.keep hbl)).mono ?_; rintro e w1 ⟨rfl, hb1⟩; have q1 := hb1.cellv q0; have hfz1 := fun j => (hrow.keep hb1).frozen j; have hrow1 := hrow.keep hb1)
      all_goals
        go_roundw
        case rel =>
          have hs := hrow1.set1 (t := numT u) (fun _ => rfl) hlt rfl
          refine ⟨k + 1, by omega, by go_num, ?_, (hbl.trans hb1).grown hs.2 (by simp)⟩
          have e1 : strAt (numW ts) k = numT u := HW.out
          have e2 := mix_succ ByteArray.empty n k (numW ts) hlw.out hlt
          rw [← e2]
          have e3 : (numW ts).getD k ByteArray.empty = numT u := e1
          rw [e3]
          exact hs.1
        case measure => simp [intOf]; omega
    · obtain rfl : k = n := by omega
      rw [mix_all _ _ _ hlw.out] at hrow
      have rdw := hrow.rd (fun _ => rfl)
      have hgl : w.heap.size < wr.heap.size := by first | exact (hrow.lt _ rfl).2 | omega
      have hcc : ∀ j, j < k → wr.cell? ⟨w.heap.size, j, none⟩ = some (.string (strAt (numW ts) j)) := by
        intro j hj
        obtain ⟨g, hg, hlo, hgl, hfz, hcc⟩ := hrow.strs (by omega)
        obtain rfl : w.heap.size = g := by simpa using hg
        exact hcc j hj
      have Hcc := Lib.hid hcc
      clear hcc
      go_wp2_with (go_at_call 30; refine (c_Join w.heap.size k k (numW ts) sep _ hgl (Nat.le_refl _) hm hlw.out Hcc.out (by have := HJ.out; simpa [joinT, ByteArray.size] using this)).mono ?_; rintro e w2 ⟨rfl, hb2⟩)
      go_ret
      exact ⟨rfl, hbl.trans hb2⟩
end Go.Proofs.YthciecmofgoebaaDoor
