
/- Links: the fates that lie ahead, counted; the law's own marks. -/
import Derived.Test.YtilgllbojdkhhaaDoorN4
import Derived.Test.YtilgllbojdkhhaaDoorS7
import Derived.Test.YtilgllbojdkhhaaDoorI
import Derived.Test.YtilgllbojdkhhaaDoorK17
import Derived.Shelf.Strings.Count
namespace Go.Proofs.YtilgllbojdkhhaaDoor
open Go.RowKit Go.Shelf
def lays138_ren : Go.Shelf.Ren := ⟨fun | 138 => 47 | 195 => 60 | 218 => 61 | 143 => 62 | 219 => 68 | 217 => 72 | 225 => 73 | 224 => 74 | 267 => 75 | 266 => 78 | 314 => 79 | n => n, fun | 9 => 9 | 3 => 3 | 4 => 4 | 5 => 5 | 0 => 0 | 46 => 83 | 146 => 90 | 51 => 89 | n => n, fun | 1 => 0 | n => n⟩
theorem lays138 : Go.Proofs.Lays.n138 Tryd.prog lays138_ren where
  mixed := by kernel_rfl
  f138 := Tryd.func47.trans (congrArg some (by kernel_rfl))
  f143 := Tryd.func62.trans (congrArg some (by kernel_rfl))
  f195 := Tryd.func60.trans (congrArg some (by kernel_rfl))
  f217 := Tryd.func72.trans (congrArg some (by kernel_rfl))
  f218 := Tryd.func61.trans (congrArg some (by kernel_rfl))
  f219 := Tryd.func68.trans (congrArg some (by kernel_rfl))
  f224 := Tryd.func74.trans (congrArg some (by kernel_rfl))
  f225 := Tryd.func73.trans (congrArg some (by kernel_rfl))
  f266 := Tryd.func78.trans (congrArg some (by kernel_rfl))
  f267 := Tryd.func75.trans (congrArg some (by kernel_rfl))
  f314 := Tryd.func79.trans (congrArg some (by kernel_rfl))
  t0 := Tryd.underlying0
  a0 := Tryd.isAgg0
  z0 := Tryd.sizeOf0
  v0 := Tryd.zeroValue0
  t3 := Tryd.underlying3
  a3 := Tryd.isAgg3
  z3 := Tryd.sizeOf3
  v3 := Tryd.zeroValue3
  t4 := Tryd.underlying4
  a4 := Tryd.isAgg4
  z4 := Tryd.sizeOf4
  v4 := Tryd.zeroValue4
  t5 := Tryd.underlying5
  a5 := Tryd.isAgg5
  z5 := Tryd.sizeOf5
  v5 := Tryd.zeroValue5
  t9 := Tryd.underlying9
  a9 := Tryd.isAgg9
  z9 := Tryd.sizeOf9
  v9 := Tryd.zeroValue9
  t46 := Tryd.underlying83
  a46 := Tryd.isAgg83
  z46 := Tryd.sizeOf83
  v46 := Tryd.zeroValue83
  t51 := Tryd.underlying89
  a51 := Tryd.isAgg89
  z51 := Tryd.sizeOf89
  v51 := Tryd.zeroValue89
  t146 := Tryd.underlying90
  a146 := Tryd.isAgg90
  z146 := Tryd.sizeOf90
  v146 := Tryd.zeroValue90
  g1 := by kernel_rfl
def fateN (b : UInt8) : Nat := if b.toNat = 107 then 0 else if b.toNat = 108 then 1 else if b.toNat = 100 then 2 else 3
theorem fateN_lt (b : UInt8) : fateN b < 4 := by unfold fateN; repeat (split; omega)
                                                 omega
def cntL (l : List UInt8) : List Int := [(Lib.countByte l 107 : Int), (Lib.countByte l 108 : Int), (Lib.countByte l 100 : Int), (Lib.countByte l 115 : Int)]
theorem cntL_len (l : List UInt8) : (cntL l).length = 4 := rfl
theorem cntL_bd (l : List UInt8) (k : Nat) (hk : k < 4) : 0 ≤ intAt (cntL l) k ∧ intAt (cntL l) k ≤ l.length := by
  have h : ∀ c : UInt8, Lib.countByte l c ≤ l.length := fun c => List.count_le_length
  match k, hk with
  | 0, _ => exact ⟨Int.natCast_nonneg _, Int.ofNat_le.2 (h 107)⟩
  | 1, _ => exact ⟨Int.natCast_nonneg _, Int.ofNat_le.2 (h 108)⟩
  | 2, _ => exact ⟨Int.natCast_nonneg _, Int.ofNat_le.2 (h 100)⟩
  | 3, _ => exact ⟨Int.natCast_nonneg _, Int.ofNat_le.2 (h 115)⟩
theorem cntL_snoc (l : List UInt8) (b : UInt8) (h : ftAt b = true) : cntL (l ++ [b]) = (cntL l).set (fateN b) (intAt (cntL l) (fateN b) + 1) := by
  simp only [ftAt, Bool.or_eq_true, decide_eq_true_eq] at h
  have e : ∀ c : UInt8, b.toNat = c.toNat → b = c := fun c hc => UInt8.toNat_inj.1 hc
  rcases h with h | h | h | h
  · obtain rfl := e 107 h; simp [cntL, Lib.countByte, fateN, intAt, List.count_append]
  · obtain rfl := e 108 h; simp [cntL, Lib.countByte, fateN, intAt, List.count_append]
  · obtain rfl := e 100 h; simp [cntL, Lib.countByte, fateN, intAt, List.count_append]
  · obtain rfl := e 115 h; simp [cntL, Lib.countByte, fateN, intAt, List.count_append]
theorem c_l7FateN (b : UInt8) (h : ftAt b = true) (w : World) : Calls Tryd.prog 46 #[.int .u8 b.toNat] w fun e w' => e = .returned (.int .i64 (fateN b)) ∧ w = w' := by
  simp only [ftAt, Bool.or_eq_true, decide_eq_true_eq] at h
  have e : ∀ c : UInt8, b.toNat = c.toNat → b = c := fun c hc => UInt8.toNat_inj.1 hc
  rcases h with h | h | h | h
  · obtain rfl := e 107 h
    go_enter Tryd.func46, Tryd.ntmps46
    go_wp2
    go_ret
    exact ⟨rfl, rfl⟩
  · obtain rfl := e 108 h
    go_enter Tryd.func46, Tryd.ntmps46
    go_wp2
    go_ret
    exact ⟨rfl, rfl⟩
  · obtain rfl := e 100 h
    go_enter Tryd.func46, Tryd.ntmps46
    go_wp2
    go_ret
    exact ⟨rfl, rfl⟩
  · obtain rfl := e 115 h
    go_enter Tryd.func46, Tryd.ntmps46
    go_wp2
    go_ret
    exact ⟨rfl, rfl⟩
theorem ftB_at {f : ByteArray} (h : ftB f = true) {k : Nat} (hk : k < f.size) : ftAt f[k] = true := by
  cases hp : ftAt f[k]
  · rw [ftB_no hk hp] at h; cases h
  · rfl
def restL (f : ByteArray) (u k : Nat) : List UInt8 := (f.data.toList.drop u).take (k - u)
theorem restL_succ {f : ByteArray} {u k : Nat} (hu : u ≤ k) (hk : k < f.size) : restL f u (k + 1) = restL f u k ++ [f[k]] := by
  have h1 : k - u < (f.data.toList.drop u).length := by rw [List.length_drop, Array.length_toList]; have : f.data.size = f.size := rfl; omega
  have h2 : k + 1 - u = k - u + 1 := by omega
  rw [restL, h2, List.take_succ_eq_append_getElem h1, List.getElem_drop]
  congr 2
  simp only [show u + (k - u) = k by omega]
  rfl
theorem restL_all (f : ByteArray) (u : Nat) : (f.extract u f.size).data.toList = restL f u f.size := Lib.extract_data _ _ _
theorem restL_len (f : ByteArray) (u k : Nat) : (restL f u k).length ≤ k := by simp [restL]; omega
def cfL (ss : List ByteArray) (f : ByteArray) (u : Int) : List Int := if lkB ss f u = true then cntL (restL f u.toNat f.size) else []
theorem cfL_len (ss : List ByteArray) (f : ByteArray) (u : Int) : (cfL ss f u).length ≤ 4 := by unfold cfL; split <;> simp [cntL]
set_option maxRecDepth 100000 in
set_option maxHeartbeats 1000000 in
theorem c_sCountFates (A : Option Addr) (n c : Nat) (ss : List ByteArray) (hf : fitS ss) (f : ByteArray) (hfs : f.size ≤ maxLen) (u : Int) (w : World) (hn : n ≤ 9223372036854775807) (h : Rd w A n 1 (ss.map scell)) :
    Calls Tryd.prog 25 #[.agg #[.slice A n c, .string f, .int .i64 u]] w fun e w' => (∃ A' c', e = .returned (.tuple #[.slice A' (cfL ss f u).length c', .bool (lkB ss f u)]) ∧ Row w' w.heap.size 3 1 icell A' (cfL ss f u).length c' (cfL ss f u)) ∧ Bw w w' := by
  have hbx : Bw w (w.alloc (.cells #[.slice A n c, .string f, .int .i64 u] 27)) := Bw.alloc (Bw.refl _) _
  cases hg : lkB ss f u
  · have HR := Lib.hid (show cfL ss f u = [] by simp [cfL, hg])
    rw [HR.out]
    go_enter Tryd.func25, Tryd.ntmps25
    go_wp2_with (go_at_call 35; refine (c_l7Good _ _ _ ss hf f hfs u hg _ hn (h.keep hbx)).mono ?_; rintro e w1 ⟨rfl, hb1⟩)
    go_ret2
    exact ⟨⟨_, _, rfl, Row.empty w1 _ _ _ _ (hbx.trans hb1).size⟩, (hbx.trans hb1).alloc _⟩
  · obtain ⟨g1, g2, g3, g4, g5⟩ := lkB_iff.1 hg
    have ⟨u0, u1⟩ := inR_iff.1 g5
    obtain ⟨v, rfl⟩ := Int.eq_ofNat_of_zero_le u0
    have hvf : v ≤ f.size := by omega
    have HF := Lib.hid g4
    have HR := Lib.hid (show cfL ss f (v : Int) = cntL (restL f v f.size) by rw [cfL, if_pos hg]; rfl)
    have Hg := Lib.hid hg
    obtain ⟨i0, hi, hz0, hz1, hz2⟩ := info_parts infoInt
    have hmk : ∀ W, (Instr.makeSlice 41 (.int .i64 4) (.int .i64 4)).run Tryd.prog W = .ok (.slice (some ⟨W.heap.size, 0, none⟩) 4 4) (W.alloc (.cells (madeCells #[.int .i64 0] (4 * 1)) 3)) := fun W => by
      have := run_make (P := Tryd.prog) W 41 3 i0 _ Tryd.underlying41 hi hz0 .i64 .i64 4 4 (by omega) (by omega) (by rw [hz2]; omega) (by omega)
      rw [hz1] at this
      exact this
    clear hi hz0 hz1 hz2 g1 g2 g4 g5 hg
    go_enter Tryd.func25, Tryd.ntmps25
    go_wp2_with (go_at_call 35; refine (c_l7Good _ _ _ ss hf f hfs v Hg.out _ hn (h.keep hbx)).mono ?_; rintro e w1 ⟨rfl, hb1⟩; have d0 := hb1.cellv (p := ⟨w.heap.size, 0, none⟩) (v := .slice A n c) (by go_simp); have d1 := hb1.cellv (p := ⟨w.heap.size, 1, none⟩) (v := .string f) (by go_simp); have d2 := hb1.cellv (p := ⟨w.heap.size, 2, none⟩) (v := .int .i64 v) (by go_simp); have hs1 : w.heap.size < w1.heap.size := World.block_lt_of_cell? w1 _ d1)
    have hb2 := (hbx.trans hb1).alloc (.cells (madeCells #[.int .i64 0] (4 * 1)) 3)
    go_loopw [5] (fun i wr => ∃ k : Nat, v ≤ k ∧ k ≤ f.size ∧ i = .int .i64 k ∧ Row wr w1.heap.size 3 1 icell (some ⟨w1.heap.size, 0, none⟩) 4 4 (cntL (restL f v k)) ∧ wr.cell? ⟨w.heap.size, 1, none⟩ = some (.string f) ∧ Bw w wr) (fun i _ => f.size - (intOf i).toNat)
    case atStart =>
      refine ⟨v, Nat.le_refl _, hvf, rfl, ⟨?_, rfl⟩, by go_simp, hb2⟩
      have := World.ownsRow_lit (base := w1.heap.size) (e := 3) (size := 1) w1 (madeCells #[.int .i64 0] (4 * 1)) 4 (Nat.le_refl _) (by unfold maxLen; omega) (size_madeCells _ _)
      have e1 : (cntL (restL f v v)).flatMap icell = (madeCells #[.int .i64 0] (4 * 1)).toList := by simp [restL, cntL, Lib.countByte, icell, madeCells]; rfl
      rw [e1]
      exact this
    case round =>
      obtain ⟨k, hvk, hk, rfl, hrow, hd1, hbl⟩ := hrel
      by_cases hlt : k < f.size
      · have HA := Lib.hid (ftB_at HF.out hlt)
        have HS := Lib.hid (restL_succ hvk hlt)
        have hbd := cntL_bd (restL f v k) (fateN f[k]) (fateN_lt _)
        have hln := restL_len f v k
        have hfl := fateN_lt f[k]
        obtain ⟨g, hgg, hlo, hgl, hfz, hcc⟩ := hrow.ints (by omega)
        obtain rfl : w1.heap.size = g := (by simpa using hgg)
        have q0 := hcc (fateN f[k]) hfl
        clear hcc
        have HC := Lib.hid (cntL_snoc (restL f v k) f[k] HA.out)
        have hset := hrow.set1 (t := intAt (cntL (restL f v k)) (fateN f[k]) + 1) (a := .int .i64 (intAt (cntL (restL f v k)) (fateN f[k]) + 1)) (fun _ => rfl) hfl rfl
        rw [← HC.out, ← HS.out] at hset
        generalize hx : intAt (cntL (restL f v k)) (fateN f[k]) = x at *
        generalize hy : fateN f[k] = y at *
        have HY := Lib.hid (fun W => c_l7FateN f[k] HA.out W)
        rw [hy] at HY
        clear hx hy
        go_wp2_with (go_at_call 46; refine (HY.out _).mono ?_; rintro e w2 ⟨rfl, rfl⟩)
        go_roundw
        case rel => exact ⟨k + 1, by omega, by omega, by go_num, hset.1, hset.2.cell hd1 (by simp; omega), hbl.grown hset.2 (by simp; omega)⟩
        case measure => simp [intOf]; omega
      · obtain rfl : k = f.size := by omega
        go_wp2
        go_ret2
        rw [HR.out]
        exact ⟨⟨_, _, rfl, hrow.mono (by omega)⟩, hbl⟩
theorem Row.notOwnB {T : Type} {w : World} {lo : Nat} {e : TypeId} {sz : Nat} {enc : T → List Value} {A : Option Addr} {n c : Nat} {ts : List T} (_h : Row w lo e sz enc A n c ts) {b m d : Nat} (hx : ∀ x, A = some x → b < x.block) : some b ≠ Value.ownBlock (.slice A m d) := fun he => by
  cases A with
  | none => simp [Value.ownBlock] at he
  | some y => have := hx y rfl; simp only [Value.ownBlock, Option.some.injEq] at he; omega
end Go.Proofs.YtilgllbojdkhhaaDoor
