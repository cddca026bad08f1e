
/- Lists of strings, and the laws' own helpers at them. -/
import Derived.Test.YtpjljbhodnlhmaaGreatDoorK3
import Derived.Test.YtpjljbhodnlhmaaGreatDoorK7
import Derived.Test.YtpjljbhodnlhmaaGreatDoorK14
namespace Go.Proofs.YtpjljbhodnlhmaaGreatDoor
open Go.RowKit Go.ChangeShapes Go.WideShapes Go.ChangeAt Go.Joins Go.Deep
def scell (x : ByteArray) : List Value := [.string x]
def strAt (ts : List ByteArray) (k : Nat) : ByteArray := ts.getD k ByteArray.empty
/-- Strings as an input brings them. -/
def fitS (ts : List ByteArray) : Prop := ∀ k, k < ts.length → (strAt ts k).size ≤ maxLen
theorem strAt_lt {ts : List ByteArray} {k : Nat} (h : k < ts.length) : strAt ts k = ts[k] := by simp [strAt, h]
theorem Rd.strs {w : World} {A : Option Addr} {n : Nat} {ts : List ByteArray} (h : Rd w A n 1 (ts.map scell)) (hn : 0 < n) :
    ∃ b off, A = some ⟨b, off, none⟩ ∧ b < w.heap.size ∧ ∀ k, k < n → w.cell? ⟨b, off + k, none⟩ = some (.string (strAt ts k)) := by
  obtain ⟨b, off, hA, hb, hc⟩ := h.at_ hn
  refine ⟨b, off, hA, hb, fun k hk => ?_⟩
  have hl : ts.length = n := by simpa using h.len
  have hk' : k < ts.length := by omega
  have hx : (ts.map scell)[k]? = some (scell (strAt ts k)) := by simp [strAt, hk']
  simpa using hc k 0 _ _ hx rfl
theorem Rd.slen {w : World} {A : Option Addr} {n : Nat} {ts : List ByteArray} (h : Rd w A n 1 (ts.map scell)) : ts.length = n := by simpa using h.len
theorem Row.strs {w : World} {lo : Nat} {e : TypeId} {A : Option Addr} {n c : Nat} {ts : List ByteArray} (h : Row w lo e 1 scell A n c ts) (hn : 0 < n) :
    ∃ g, A = some ⟨g, 0, none⟩ ∧ lo ≤ g ∧ g < w.heap.size ∧ (∀ j, w.frozen? ⟨g, j, none⟩ = false) ∧ ∀ k, k < n → w.cell? ⟨g, k, none⟩ = some (.string (strAt ts k)) := by
  obtain ⟨g, rfl, hlo, hlt⟩ := h.form hn
  obtain ⟨b, off, hA, _, hc⟩ := (h.rd (fun _ => rfl)).strs hn
  simp only [Option.some.injEq, Addr.mk.injEq, and_true] at hA
  obtain ⟨rfl, rfl⟩ := hA
  exact ⟨g, rfl, hlo, hlt, fun j => h.frozen j, fun k hk => by simpa using hc k hk⟩
theorem infoStr : (Tryz.prog.info? 9).map (fun i => (i.zero, i.size, i.bytes)) = some (some (.string ByteArray.empty), 1, 16) := by kernel_rfl
theorem trod_scell {H : Type} {enc : TypeId × Value → H} {P : Program} {w : World} {n : Nat} {cs : List Value} {e : TypeId} {x : DataW H × List MemPlace} {base : Nat} {spare : Nat → Bool} {held : Bool} (he : P.underlying e = some .string) (h : DataW.trod enc P w base spare held n e cs = some x) :
    ∃ t : { s : ByteArray // s.size ≤ maxLen }, cs = scell t.1 := by
  obtain ⟨s, ha, _, hs⟩ := DataW.trod_string he h
  exact ⟨⟨s, hs⟩, ha⟩
theorem trod_strs {H : Type} {enc : TypeId × Value → H} {P : Program} {w : World} {t e : TypeId} {v : Value} {fuel : Nat} {y : DataW H × List MemPlace} (ht : P.underlying t = some (.slice e)) (hC : P.cellsOf e = 1) (he : P.underlying e = some .string)
    (hf : DataW.trod enc P w 0 (fun _ => true) true fuel t [v] = some y) :
    ∃ (A : Option Addr) (n c : Nat) (ss : List ByteArray), v = .slice A n c ∧ n ≤ c ∧ c ≤ maxLen ∧ fitS ss ∧ Rd w A n 1 (ss.map scell) := by
  obtain ⟨A, n, c, ts, rfl, h1, h2, h3⟩ := trod_rd (sz := 1) (T := { s : ByteArray // s.size ≤ maxLen }) (fun t => scell t.1) ht hC (by omega) (fun n cs x hx => trod_scell he hx) hf
  refine ⟨A, n, c, ts.map (·.1), rfl, h1, h2, fun k hk => ?_, by simpa [List.map_map, Function.comp_def] using h3⟩
  rw [strAt_lt hk]
  simp only [List.getElem_map]
  exact (ts[k]'(by simpa using hk)).2
theorem c_eqStringS (A A' : Option Addr) (n c c' : Nat) (ts : List ByteArray) (w : World) (hm : n ≤ 9223372036854775807) (h : Rd w A n 1 (ts.map scell)) (h' : Rd w A' n 1 (ts.map scell)) :
    Calls Tryz.prog 102 #[.slice A n c, .slice A' n c'] w fun e w' => e = .returned (.bool true) ∧ Bw w w' := by
  go_enter Tryz.func102, Tryz.ntmps102
  go_wp2
  go_loopw [5] (fun i wr => ∃ k : Nat, k ≤ n ∧ i = .int .i64 k ∧ Bw w wr) (fun i _ => n - (intOf i).toNat)
  case atStart => exact ⟨0, Nat.zero_le _, rfl, Bw.refl _⟩
  case round =>
    obtain ⟨k, hk, rfl, hbl⟩ := hrel
    by_cases hlt : k < n
    · obtain ⟨b, off, rfl, hb, hc⟩ := (h.keep hbl).strs (by omega)
      obtain ⟨b', off', rfl, hb', hc'⟩ := (h'.keep hbl).strs (by omega)
      have h0 := hc k hlt
      have p0 := hc' k hlt
      clear hc hc'
      go_wp2
      (refine wp_region_ext (by kernel_rfl) (by kernel_rfl) ?_; (repeat (go_big_quiet_step (fail))); (with_reducible refine wpQuiet_nil ?_); intro w2 hb2)
      go_wp2
      go_roundw
      case rel => exact ⟨k + 1, by omega, by go_num, hbl.trans hb2⟩
      case measure => simp [intOf]; omega
    · go_wp2
      go_ret
      exact ⟨rfl, hbl⟩
theorem c_szStringS (A : Option Addr) (n c : Nat) (ts : List ByteArray) (w : World) (hm : n ≤ 9223372036854775807) (hf : fitS ts) (h : Rd w A n 1 (ts.map scell)) :
    Calls Tryz.prog 111 #[.slice A n c, .int .i64 1048576] w fun e w' => (∃ m : Int, e = .returned (.int .i64 m) ∧ m ≤ 1048576 ∧ (m < 0 ∨ n ≤ 1048576)) ∧ w = w' := by
  have hl := Lib.hid h.slen
  have HF := Lib.hid hf
  clear hf
  go_enter Tryz.func111, Tryz.ntmps111
  by_cases hN : n ≤ 1048576
  · go_wp2
    go_loop [1, 5] (fun lv i => ∃ (k : Nat) (L : Int), k ≤ n ∧ i = .int .i64 k ∧ lv = .int .i64 L ∧ 0 ≤ L ∧ L ≤ 1048576) (fun _ i => n - (intOf i).toNat)
    case atStart => exact ⟨0, _, Nat.zero_le _, rfl, rfl, by omega, by omega⟩
    case round =>
      obtain ⟨k, L, hk, rfl, rfl, hL0, hL1⟩ := hrel
      by_cases hlt : k < n
      · obtain ⟨b, off, rfl, hb, hc⟩ := h.strs (by omega)
        have h0 := hc k hlt
        have hfk := HF.out k (by rw [hl.out]; exact hlt)
        unfold maxLen at hfk
        clear hc
        generalize strAt ts k = s at *
        go_wp2
        · go_ret
          (first | exact ⟨⟨_, rfl, by omega, by omega⟩, rfl⟩ | exact ⟨⟨_, rfl, by omega⟩, rfl⟩)
        · go_round
          case rel => exact ⟨k + 1, _, by omega, by go_num, rfl, by omega, by omega⟩
          case measure => simp [intOf]; omega
      · go_wp2
        go_ret
        (first | exact ⟨⟨_, rfl, by omega, by omega⟩, rfl⟩ | exact ⟨⟨_, rfl, by omega⟩, rfl⟩)
  · go_wp2
    go_ret
    (first | exact ⟨⟨_, rfl, by omega, by omega⟩, rfl⟩ | exact ⟨⟨_, rfl, by omega⟩, rfl⟩)
theorem c_toStringS (A : Option Addr) (n c : Nat) (ts : List ByteArray) (w : World) (hm : n ≤ 1048576) (h : Rd w A n 1 (ts.map scell)) :
    Calls Tryz.prog 120 #[.slice A n c] w fun e w' => (∃ A' c', e = .returned (.slice A' n c') ∧ Row w' w.heap.size 9 1 scell A' n c' ts) ∧ Bw w w' := by
  have hl := Lib.hid h.slen
  obtain ⟨i0, hi, hz0, hz1, hz2⟩ := info_parts infoStr
  have hmk : ∀ W, (Instr.makeSlice 27 (.int .i64 (n : Int)) (.int .i64 (n : Int))).run Tryz.prog W = .ok (.slice (some ⟨W.heap.size, 0, none⟩) n n) (W.alloc (.cells (madeCells #[.string ByteArray.empty] (n * 1)) 9)) := fun W => by
    have := run_make (P := Tryz.prog) W 27 9 i0 _ Tryz.underlying27 hi hz0 .i64 .i64 n n (by omega) (by omega) (by rw [hz2]; omega) (by omega)
    rw [hz1] at this
    exact this
  clear hi hz0 hz1 hz2
  go_enter Tryz.func120, Tryz.ntmps120
  go_wp2
  go_loopw [4] (fun i wr => ∃ k : Nat, k ≤ n ∧ i = .int .i64 k ∧ Row wr w.heap.size 9 1 scell (some ⟨w.heap.size, 0, none⟩) n n (mix ByteArray.empty n k ts) ∧ Bw w wr) (fun i _ => n - (intOf i).toNat)
  case atStart =>
    refine ⟨0, Nat.zero_le _, rfl, ⟨?_, by simp [mix]⟩, (Bw.refl _).alloc _⟩
    have := World.ownsRow_lit (base := w.heap.size) (e := 9) (size := 1) w (madeCells #[.string ByteArray.empty] (n * 1)) n (Nat.le_refl _) (by unfold maxLen; omega) (size_madeCells _ _)
    have e1 := madeCells_flat #[.string ByteArray.empty] (by simp) n
    have e2 : (#[Value.string ByteArray.empty] : Array Value).size = 1 := rfl
    rw [e2] at e1
    rw [e1] at this
    rw [mix_zero, List.flatMap_replicate]
    simp only [Nat.mul_one] at this
    exact this
  case round =>
    obtain ⟨k, hk, rfl, hrow, hbl⟩ := hrel
    by_cases hlt : k < n
    · obtain ⟨b, off, rfl, hb, hc⟩ := (h.keep hbl).strs (by omega)
      have h0 := hc k hlt
      clear hc
      obtain ⟨g, hg, hlo, hgl, hfz, hcc⟩ := hrow.strs (by omega)
      obtain rfl : w.heap.size = g := by simpa using hg
      have q0 := hcc k hlt
      clear hcc
      go_wp2
      go_roundw
      case rel =>
        have hs := hrow.set1 (t := strAt ts k) (fun _ => rfl) hlt rfl
        refine ⟨k + 1, by omega, by go_num, ?_, hbl.grown hs.2 (by simp)⟩
        rw [← mix_succ _ _ _ _ hl.out hlt]
        exact hs.1
      case measure => simp [intOf]; omega
    · go_wp2
      go_ret
      obtain rfl : k = n := by omega
      rw [mix_all _ _ _ hl.out] at hrow
      exact ⟨⟨_, _, rfl, hrow⟩, hbl⟩
end Go.Proofs.YtpjljbhodnlhmaaGreatDoor
