
/- MoveBase: the program's and the reference's come to one function. -/
import Derived.Test.YtnejeigcdogolaaR5
namespace Go.Proofs.Ytnejeigcdogolaa
open Go.RowKit
def befN (next : Int) (r : Request) : Bool := befI r.number next
def serN (next : Int) (r : Request) : Prop := 0 ≤ r.number ∧ r.number ≤ 65535 ∧ 0 ≤ next ∧ next ≤ 65535
theorem c_without1 (r : Request) (q : Addr) (next : Int) {b : Bool} (hb : befN next r = b) (hs : serN next r) (w : World) (hq : w.cell? q = some (.int .i64 next)) : Calls Try.prog 68 #[.agg #[.int .i64 r.number, .int .i64 r.state, .int .i64 r.til, .int .i64 r.tries], .pointer (some q)] w fun e w' => e = .returned (.bool b) ∧ Bw w w' := by
  have hlt := World.block_lt_of_cell? w q hq
  obtain ⟨qb, qo, qs⟩ := q
  have ⟨s0, s1, h0, h1⟩ := hs
  clear hs
  go_enter Try.func68, Try.ntmps68
  go_wp2_with (go_at_call 69; refine (c_isBefore _ _ hb s0 s1 h0 h1 _).mono ?_; rintro e w1 ⟨rfl, rfl⟩)
  go_ret
  exact ⟨rfl, by (repeat (first | with_reducible assumption | exact Bw.refl _ | (with_reducible refine Bw.setCell ?_ (by simp) _) | (with_reducible refine Bw.alloc ?_ _) | (with_reducible refine Bw.drew ?_) | (with_reducible refine Bw.drewN ?_ _)))⟩
theorem c_IndexFuncBef (q : Addr) (next : Int) (A : Option Addr) (n c : Nat) (ts : List Request) (hok : ∀ t, t ∈ ts → serN next t) {mm : Int} (hmm : idxPI (befN next) ts = mm) (w : World) (hm : n ≤ 1048576) (h : Rd w A n 4 (ts.map Request.cells)) (hq : w.cell? q = some (.int .i64 next)) :
    Calls Try.prog 76 #[.slice A n c, .func (.func 68) #[] #[.pointer (some q)]] w fun e w' => e = .returned (.int .i64 mm) ∧ Bw w w' := by
  subst hmm
  have Hok := Lib.hid hok
  clear hok
  have hl := Lib.hid h.len
  have hlt := World.block_lt_of_cell? w q hq
  go_enter Try.func76, Try.ntmps76
  go_wp2
  go_loopw [8] (fun i wr => ∃ k : Nat, k ≤ n ∧ i = .int .i64 k ∧ (∀ j (hj : j < k) (hj2 : j < ts.length), befN next ts[j] = false) ∧ Bw w wr) (fun i _ => n - (intOf i).toNat)
  case atStart => exact ⟨0, Nat.zero_le _, rfl, fun j hj => absurd hj (by omega), Bw.refl _⟩
  case round =>
    obtain ⟨k, hk, rfl, hst, hbl⟩ := hrel
    have Hst := Lib.hid hst
    clear hst
    have hlen : ts.length = n := by simpa using hl.out
    have HL := Lib.hid hlen
    by_cases hkn : k < n
    · obtain ⟨b, off, rfl, hb, hc⟩ := (h.keep hbl).request (by omega)
      have ⟨h0, h1, h2, h3⟩ := hc k hkn
      clear hc
      have hkt : k < ts.length := by omega
      have Ht := Lib.hid (requestAt_lt hkt)
      clear hlen
      cases hp : befN next (requestAt ts k)
      · go_wp2_with (go_at_call 68; refine (c_without1 (requestAt ts k) _ _ hp (Hok.out _ (by rw [Ht.out]; exact List.getElem_mem _)) _ (hbl.cellv hq)).mono ?_; rintro e w1 ⟨rfl, hb1⟩)
        go_roundw
        case rel =>
          refine ⟨k + 1, by omega, by go_num, ?_, hbl.trans hb1⟩
          intro j hj hj2
          rcases Nat.lt_succ_iff_lt_or_eq.1 hj with h9 | h9
          · exact Hst.out j h9 hj2
          · subst h9; rw [← Ht.out]; exact hp
        case measure => simp [intOf]; omega
      · go_wp2_with (go_at_call 68; refine (c_without1 (requestAt ts k) _ _ hp (Hok.out _ (by rw [Ht.out]; exact List.getElem_mem _)) _ (hbl.cellv hq)).mono ?_; rintro e w1 ⟨rfl, hb1⟩)
        go_ret
        have hkt : k < ts.length := by rw [HL.out]; exact hkn
        have he := idxP_eq (p := befN next) (ts := ts) hkt (by rw [← Ht.out]; exact hp) (fun j hj => Hst.out j hj (by omega))
        exact ⟨ret_int (by simp [idxPI, he, hkt]), hbl.trans hb1⟩
    · clear hlen
      go_wp2
      go_ret
      have he := idxP_none (p := befN next) (ts := ts) (fun j hj => Hst.out j (by rw [HL.out] at hj; omega) hj)
      exact ⟨ret_int (by simp [idxPI, he]), hbl⟩
set_option maxRecDepth 100000 in
set_option maxHeartbeats 1000000 in
theorem c_DeleteFuncBef (q : Addr) (next : Int) (A : Option Addr) (n c : Nat) (ts : List Request) (hok : ∀ t, t ∈ ts → serN next t) (lo : Nat) (w : World) (hm : n ≤ 1048576) (hrw : Row w lo 37 4 Request.cells A n c ts) (hq : w.cell? q = some (.int .i64 next)) (hqlo : q.block < lo) :
    Calls Try.prog 57 #[.slice A n c, .func (.func 68) #[] #[.pointer (some q)]] w fun e w' => e = .returned (.slice A (leave (befN next) ts).length c) ∧ Row w' lo 37 4 Request.cells A (leave (befN next) ts).length c (leave (befN next) ts) ∧ w.grownBy w' (Value.ownBlock (.slice A n c)) := by
  have hlen := hrw.len
  have Hok := Lib.hid hok
  clear hok
  have HL := Lib.hid hlen
  have ⟨hnc, hcm⟩ := hrw.caps
  unfold maxLen at hcm
  by_cases hi : idxP (befN next) ts = ts.length
  · have hlv := leave_all hi
    have Hlv := Lib.hid hlv
    have hmm : idxPI (befN next) ts = -1 := by simp [idxPI, hi]
    clear hlv hi hlen
    go_enter Try.func57, Try.ntmps57
    go_wp2_with (go_at_call 76; refine (c_IndexFuncBef _ _ A n c ts Hok.out hmm w hm (hrw.rd (fun _ => rfl)) hq).mono ?_; rintro e w1 ⟨rfl, hb1⟩)
    go_ret
    rw [Hlv.out, HL.out]
    exact ⟨rfl, hrw.keep hb1, ⟨hb1.b.os, hb1.b.tape, hb1.b.output, hb1.size, fun k hk _ => hb1.b.block k hk⟩⟩
  · have hi2 : idxP (befN next) ts < ts.length := by have := idxP_le (befN next) ts; omega
    have hst0 := DelSt.start hi2
    have Hst0 := Lib.hid hst0
    have hmm : idxPI (befN next) ts = (idxP (befN next) ts : Int) := by simp [idxPI, hi2]
    generalize hp0 : idxP (befN next) ts = i0 at *
    obtain ⟨g, rfl, hlo, hgl⟩ := hrw.form (by omega)
    have hzv : ∀ w, (zeroValue 37).run Try.prog w = .ok (.agg #[.int .i64 0, .int .i64 0, .int .i64 0, .int .i64 0]) w := fun w => by kernel_rfl
    have Hzv := Lib.hid hzv
    have Hmm := Lib.hid hmm
    have hi3 : i0 < n := by omega
    clear hst0 hmm hzv hlen hi hp0
    go_enter Try.func57, Try.ntmps57
    go_wp2_with (go_at_call 76; refine (c_IndexFuncBef _ _ _ n c ts Hok.out Hmm.out w hm (hrw.rd (fun _ => rfl)) hq).mono ?_; rintro e w1 ⟨rfl, hb1⟩)
    go_loopw [5, 6] (fun iv jv wr => ∃ (i j : Nat) (xs : List Request), iv = .int .i64 i ∧ jv = .int .i64 j ∧ DelSt (befN next) ts xs i j ∧ Row wr lo 37 4 Request.cells (some ⟨g, 0, none⟩) n c xs ∧ w.grownBy wr (some g)) (fun _ jv _ => n - (intOf jv).toNat)
    case atStart => exact ⟨i0, i0 + 1, ts, rfl, by go_num, Hst0.out, hrw.keep hb1, ⟨hb1.b.os, hb1.b.tape, hb1.b.output, hb1.size, fun k hk _ => hb1.b.block k hk⟩⟩
    case round =>
      obtain ⟨i, j, xs, rfl, rfl, hst, hrow, hg⟩ := hrel
      have hij := hst.le
      have hjn := hst.jn
      have hjn' : j ≤ n := by have := HL.out; omega
      have Hst := Lib.hid hst
      clear hst
      have hq1 := hg.cell hq (by simp; omega)
      by_cases hlt : j < n
      · have hjt : j < ts.length := by have := HL.out; omega
        have hat := Hst.out.at_ hjt
        have hxj : requestAt xs j = ts[j] := by simp [requestAt, hat.2]
        obtain ⟨g', hg', _, hgl', hfz, hcc⟩ := hrow.request (by omega)
        obtain rfl : g = g' := by simpa using hg'
        have ⟨h0, h1, h2, h3⟩ := hcc j hlt
        rw [hxj] at h0 h1 h2 h3
        clear hcc hxj hat hfz
        cases hp : befN next ts[j]
        · go_wp2_with (go_at_call 68; refine (c_without1 ts[j] _ _ hp (Hok.out _ (List.getElem_mem _)) _ ((Bw.alloc (Bw.refl _) _).cellv hq1)).mono ?_; rintro e w2 ⟨rfl, hb2⟩; have b0 := hb2.cellv (p := ⟨wr.heap.size, 0, none⟩) (v := .int .i64 ts[j].number) (by go_simp); have b1 := hb2.cellv (p := ⟨wr.heap.size, 1, none⟩) (v := .int .i64 ts[j].state) (by go_simp); have b2 := hb2.cellv (p := ⟨wr.heap.size, 2, none⟩) (v := .int .i64 ts[j].til) (by go_simp); have b3 := hb2.cellv (p := ⟨wr.heap.size, 3, none⟩) (v := .int .i64 ts[j].tries) (by go_simp); have hrow2 := (hrow.keep (Bw.alloc (Bw.refl _) _)).keep hb2; obtain ⟨g2, hg2, _, hgl2, hfz2, hcc2⟩ := hrow2.request (by omega); obtain rfl : g = g2 := (by simpa using hg2); have ⟨p0, p1, p2, p3⟩ := hcc2 i (by omega); clear hcc2)
          go_roundw
          case rel =>
            have hs := hrow2.setN (t := ts[j]) (fun _ => rfl) (show i < n by omega) rfl
            have hgb : wr.grownBy w2 (some g) := ((Bw.alloc (Bw.refl wr) _).trans hb2).toGrown.weaken
            first | exact ⟨i + 1, j + 1, _, by go_num, by go_num, Hst.out.keep hjt hp, hs.1, (hg.trans hgb).trans hs.2⟩ | ((repeat apply Exists.intro); exact ⟨⟨i + 1, j + 1, _, by go_num, by go_num, Hst.out.keep hjt hp, hs.1, (hg.trans hgb).trans hs.2⟩, rfl⟩)
          case measure => simp [intOf]; omega
        · go_wp2_with (go_at_call 68; refine (c_without1 ts[j] _ _ hp (Hok.out _ (List.getElem_mem _)) _ ((Bw.alloc (Bw.refl _) _).cellv hq1)).mono ?_; rintro e w2 ⟨rfl, hb2⟩)
          go_roundw
          case rel =>
            have hgb : wr.grownBy w2 (some g) := ((Bw.alloc (Bw.refl wr) _).trans hb2).toGrown.weaken
            first | exact ⟨i, j + 1, xs, rfl, by go_num, Hst.out.skip hjt hp, (hrow.keep (Bw.alloc (Bw.refl _) _)).keep hb2, hg.trans hgb⟩ | ((repeat apply Exists.intro); exact ⟨⟨i, j + 1, xs, rfl, by go_num, Hst.out.skip hjt hp, (hrow.keep (Bw.alloc (Bw.refl _) _)).keep hb2, hg.trans hgb⟩, rfl⟩)
          case measure => simp [intOf]; omega
      · have hjt : j = ts.length := by have := HL.out; omega
        subst hjt
        have hd := Hst.out.done
        have hin : i < n := by have := HL.out; omega
        have hrow1 := hrow.restrict (fun _ => rfl) (by simp) (show i ≤ n by omega)
        rw [hd.1] at hrow1
        have HD := Lib.hid hd.2.1
        have hc0 : ¬ c = 0 := by omega
        have hci : ¬ c = i := by omega
        clear hd
        go_wp2_with (refine wpList_clear_spare (enc := Request.cells) rfl _ 24 rfl lo 37 4 (.agg #[.int .i64 0, .int .i64 0, .int .i64 0, .int .i64 0]) Try.underlying24 Hzv.out rfl (by intro u hu; simp [Value.cells] at hu; subst hu; rfl) g _ _ _ hrow1 _ _ _ rfl ?_ ?_ ?_; omega; (first | rfl | (simp; done) | (simp; omega)); intro w2 row2 hg2)
        go_ret
        rw [HD.out]
        exact ⟨rfl, row2, hg.trans hg2⟩
theorem c_l12Move (A : Option Addr) (n c : Nat) (ts : List Request) (number : Int) (w : World) (hok : ∀ j, j < ts.length → 0 ≤ (requestAt ts j).number ∧ (requestAt ts j).number ≤ 65535) (hn0 : 0 ≤ number) (hn1 : number ≤ 65535) (hm : n ≤ 100) (h : Rd w A n 4 (ts.map Request.cells)) :
    Calls Try.prog 50 #[.slice A n c, .int .i64 number] w fun e w' => (∃ A' c', e = .returned (.slice A' (leave (befN number) ts).length c') ∧ Row w' w.heap.size 37 4 Request.cells A' (leave (befN number) ts).length c' (leave (befN number) ts)) ∧ Bw w w' := by
  have hl := Lib.hid h.requestlen
  have Hok := Lib.hid hok
  clear hok
  have HR := Lib.hid (show leave (befN number) ts = leave (befN number) (ts.take n) by rw [List.take_of_length_le (by rw [hl.out]; omega)])
  go_enter Try.func50, Try.ntmps50
  go_wp2
  go_loopw [5, 6] (fun v i wr => ∃ k : Nat, k ≤ n ∧ i = .int .i64 k ∧ (∃ A c, v = .slice A (leave (befN number) (ts.take k)).length c ∧ Row wr w.heap.size 37 4 Request.cells A (leave (befN number) (ts.take k)).length c (leave (befN number) (ts.take k))) ∧ Bw w wr) (fun _ i _ => n - (intOf i).toNat)
  case atStart => exact ⟨0, Nat.zero_le _, rfl, ⟨_, _, rfl, Row.empty w _ _ _ _ (Nat.le_refl _)⟩, Bw.alloc (Bw.refl _) _⟩
  case round =>
    obtain ⟨k, hk, rfl, ⟨A', c', rfl, hrow⟩, hbl⟩ := hrel
    have hdl : (leave (befN number) (ts.take k)).length ≤ k := by have := leave_le (befN number) (ts.take k); simp at this; omega
    by_cases hlt : k < n
    · obtain ⟨b, off, rfl, hb, hc⟩ := (h.keep hbl).request (by omega)
      have ⟨h0, h1, h2, h3⟩ := hc k hlt
      clear hc
      have hkt : k < ts.length := by rw [hl.out]; exact hlt
      have Ht := Lib.hid (requestAt_lt hkt)
      have ⟨o0, o1⟩ := Hok.out k hkt
      cases hd : befI (requestAt ts k).number number
      · have HD := Lib.hid (leave_take_succ_yes (befN number) ts k hkt (by rw [← Ht.out]; exact hd))
        go_wp2_with (first | (go_at_call 70; refine (c_l2Before _ _ hd o0 o1 hn0 hn1 _).mono ?_; rintro e w1 ⟨rfl, rfl⟩) | (at_builtin; refine append_Request rfl _ _ rfl _ _ _ _ rfl hrow (requestAt ts k) _ rfl _ rfl rfl ?_ ?_ ?_; omega; exact hbl.size; intro A2 c2 w2 hrow2 hg2 hmv2))
        go_roundw
        case rel => exact ⟨k + 1, by omega, by go_num, by rw [HD.out, ← Ht.out]; exact ⟨A2, c2, by simp, by simpa using hrow2⟩, Bw.ofRow hbl hg2 (fun x hx => (hrow.lt x hx).1)⟩
        case measure => simp [intOf]; omega
      · have HD := Lib.hid (leave_take_succ_no (befN number) ts k hkt (by rw [← Ht.out]; exact hd))
        go_wp2_with ((go_at_call 70; refine (c_l2Before _ _ hd o0 o1 hn0 hn1 _).mono ?_; rintro e w1 ⟨rfl, rfl⟩))
        go_roundw
        case rel => exact ⟨k + 1, by omega, by go_num, by rw [HD.out]; exact ⟨A', c', rfl, hrow⟩, hbl⟩
        case measure => simp [intOf]; omega
    · go_wp2
      go_ret
      obtain rfl : k = n := by omega
      rw [HR.out]
      exact ⟨⟨_, _, rfl, hrow⟩, hbl⟩
theorem goodR_ser {ts : List Request} {base next : Int} (hg : goodR ts base = true) (hn : inR next 0 65535 = true) : ∀ t, t ∈ ts → serN next t := by
  intro t ht
  obtain ⟨j, hj, rfl⟩ := List.getElem_of_mem ht
  have h := goodR_bd hg hj
  rw [requestAt_lt hj] at h
  have := inR_iff.1 hn
  exact ⟨h.1.1, h.1.2, this.1, this.2⟩
def moveC (ts : List Request) (base next : Int) : Bool := (goodR ts base && inR next 0 65535) && goodR (leave (befN next) ts) next
def moveR (ts : List Request) (base next : Int) : List Request := if moveC ts base next then leave (befN next) ts else []
def moveB (ts : List Request) (base next : Int) : Bool := moveC ts base next
theorem moveR_len (ts : List Request) (base next : Int) : (moveR ts base next).length ≤ ts.length := by
  unfold moveR; split
  · exact leave_le _ _
  · simp
theorem c_sMoveBase (A : Option Addr) (n c : Nat) (ts : List Request) (base next : Int) (w : World) (hn : n ≤ 9223372036854775807) (h : Rd w A n 4 (ts.map Request.cells)) :
    Calls Try.prog 18 #[.slice A n c, .int .i64 base, .int .i64 next] w fun e w' => (∃ A' c', e = .returned (.tuple #[.slice A' (moveR ts base next).length c', .bool (moveB ts base next)]) ∧ Row w' w.heap.size 37 4 Request.cells A' (moveR ts base next).length c' (moveR ts base next)) ∧ Bw w w' := by
  have hl := Lib.hid h.requestlen
  cases hg : goodR ts base
  · have HR := Lib.hid (show moveR ts base next = [] ∧ moveB ts base next = false by simp [moveR, moveB, moveC, hg])
    go_enter Try.func18, Try.ntmps18
    go_wp2_with (go_at_call 38; refine (c_l12Good _ _ _ ts _ hg _ hn h).mono ?_; rintro e w1 ⟨rfl, hb1⟩)
    go_ret2
    rw [HR.out.1, HR.out.2]
    exact ⟨⟨_, _, rfl, Row.empty w1 _ _ _ _ hb1.size⟩, hb1.alloc _⟩
  · have hn8 : n ≤ 8 := by rw [← hl.out]; exact (goodR_iff.1 hg).2.1
    cases ht : inR next 0 65535
    · have HR := Lib.hid (show moveR ts base next = [] ∧ moveB ts base next = false by simp [moveR, moveB, moveC, ht])
      go_enter Try.func18, Try.ntmps18
      go_wp2_with (first | (go_at_call 38; refine (c_l12Good _ _ _ ts _ hg _ hn h).mono ?_; rintro e w1 ⟨rfl, hb1⟩) | (go_at_call 45; refine (c_l2Good _ ht _).mono ?_; rintro e w1 ⟨rfl, rfl⟩))
      go_ret2
      rw [HR.out.1, HR.out.2]
      exact ⟨⟨_, _, rfl, Row.empty w1 _ _ _ _ hb1.size⟩, hb1.alloc _⟩
    · have ⟨x0, x1⟩ := inR_iff.1 ht
      have hok : ∀ j, j < ts.length → 0 ≤ (requestAt ts j).number ∧ (requestAt ts j).number ≤ 65535 := fun j hj => (goodR_bd hg hj).1
      have Hok := Lib.hid hok
      clear hok
      have HV := Lib.hid (show (leave (befN next) ts).length ≤ 9223372036854775807 by have := leave_le (befN next) ts; have := hl.out; omega)
      cases hm : goodR (leave (befN next) ts) next
      · have HR := Lib.hid (show moveR ts base next = [] ∧ moveB ts base next = false by simp [moveR, moveB, moveC, hm])
        have Hg := Lib.hid hg
        clear hg
        go_enter Try.func18, Try.ntmps18
        go_wp2_with (first | (go_at_call 45; refine (c_l2Good _ ht _).mono ?_; rintro e w2 ⟨rfl, rfl⟩) | (go_at_call 50; refine (c_l12Move _ _ _ ts _ _ Hok.out x0 x1 (by omega) (h.keep hb1)).mono ?_; rintro e w3 ⟨⟨A3, c3, rfl, row3⟩, hb3⟩) | (go_at_call 38; first | (have row3x := row3; clear row3x; refine (c_l12Good _ _ _ (leave (befN next) ts) _ hm _ HV.out (row3.rd (fun _ => rfl))).mono ?_; rintro e w4 ⟨rfl, hb4⟩) | (refine (c_l12Good _ _ _ ts _ Hg.out _ hn h).mono ?_; rintro e w1 ⟨rfl, hb1⟩)))
        go_ret2
        rw [HR.out.1, HR.out.2]
        exact ⟨⟨_, _, rfl, Row.empty w4 _ _ _ _ (by have := hb1.size; have := hb3.size; have := hb4.size; omega)⟩, ((hb1.trans hb3).trans hb4).alloc _⟩
      · have HR := Lib.hid (show moveR ts base next = leave (befN next) ts ∧ moveB ts base next = true by simp [moveR, moveB, moveC, hm, ht, hg])
        have Hg := Lib.hid hg
        clear hg
        go_enter Try.func18, Try.ntmps18
        go_wp2_with (first | (go_at_call 45; refine (c_l2Good _ ht _).mono ?_; rintro e w2 ⟨rfl, rfl⟩) | (go_at_call 50; first | (have row3x := row3; clear row3x; refine (c_l12Move _ _ _ ts _ _ Hok.out x0 x1 (by omega) (((h.keep hb1).keep hb3).keep hb4)).mono ?_; rintro e w5 ⟨⟨A5, c5, rfl, row5⟩, hb5⟩) | (refine (c_l12Move _ _ _ ts _ _ Hok.out x0 x1 (by omega) (h.keep hb1)).mono ?_; rintro e w3 ⟨⟨A3, c3, rfl, row3⟩, hb3⟩)) | (go_at_call 38; first | (have row3x := row3; clear row3x; refine (c_l12Good _ _ _ (leave (befN next) ts) _ hm _ HV.out (row3.rd (fun _ => rfl))).mono ?_; rintro e w4 ⟨rfl, hb4⟩) | (refine (c_l12Good _ _ _ ts _ Hg.out _ hn h).mono ?_; rintro e w1 ⟨rfl, hb1⟩)))
        go_ret2
        rw [HR.out.1, HR.out.2]
        exact ⟨⟨_, _, rfl, row5.mono (by have := hb1.size; have := hb3.size; have := hb4.size; omega)⟩, (((hb1.trans hb3).trans hb4).trans hb5)⟩
theorem c_withoutBefore (A : Option Addr) (n c : Nat) (ts : List Request) (next : Int) (w : World) (hok : ∀ t, t ∈ ts → serN next t) (hm : n ≤ 100) (h : Rd w A n 4 (ts.map Request.cells)) :
    Calls Try.prog 49 #[.slice A n c, .int .i64 next] w fun e w' => (∃ A' c', e = .returned (.slice A' (leave (befN next) ts).length c') ∧ Row w' w.heap.size 37 4 Request.cells A' (leave (befN next) ts).length c' (leave (befN next) ts)) ∧ Bw w w' := by
  have hl := Lib.hid h.requestlen
  have Hok := Lib.hid hok
  clear hok
  go_enter Try.func49, Try.ntmps49
  go_wp2_with fail
  refine (c_CloneRequest _ _ _ ts _ (by omega) (h.keep (Bw.alloc (Bw.refl _) _))).mono ?_
  rintro e w2 ⟨⟨A2, c2, rfl, row2⟩, hb2⟩
  have lt2 := row2.lt
  have b2 := hb2.cellv (p := ⟨w.heap.size, 0, none⟩) (v := .int .i64 next) (by go_simp)
  go_wp2_with fail
  refine (c_DeleteFuncBef _ _ _ _ _ ts Hok.out _ _ (by omega) row2 b2 (by simp)).mono ?_
  rintro e w3 ⟨rfl, row3, hg3⟩
  go_wp2_with fail
  go_ret
  exact ⟨⟨_, _, rfl, row3.mono (by simp)⟩, Bw.ofRow (Bw.trans (Bw.alloc (Bw.refl _) _) hb2) hg3 (fun x hx => by have := (lt2 x hx).1; simp at this; omega)⟩
theorem c_iMoveBase (A : Option Addr) (n c : Nat) (ts : List Request) (base next : Int) (w : World) (hn : n ≤ 9223372036854775807) (h : Rd w A n 4 (ts.map Request.cells)) :
    Calls Try.prog 17 #[.slice A n c, .int .i64 base, .int .i64 next] w fun e w' => (∃ A' c', e = .returned (.tuple #[.slice A' (moveR ts base next).length c', .bool (moveB ts base next)]) ∧ Row w' w.heap.size 37 4 Request.cells A' (moveR ts base next).length c' (moveR ts base next)) ∧ Bw w w' := by
  have hl := Lib.hid h.requestlen
  cases hg : goodR ts base
  · have HR := Lib.hid (show moveR ts base next = [] ∧ moveB ts base next = false by simp [moveR, moveB, moveC, hg])
    go_enter Try.func17, Try.ntmps17
    go_wp2_with (go_at_call 12; refine (c_AreRequests _ _ _ ts _ hg _ hn h).mono ?_; rintro e w1 ⟨rfl, hb1⟩)
    go_ret2
    rw [HR.out.1, HR.out.2]
    exact ⟨⟨_, _, rfl, Row.nil _ _ _ _ _⟩, hb1⟩
  · have hn8 : n ≤ 8 := by rw [← hl.out]; exact (goodR_iff.1 hg).2.1
    cases ht : inR next 0 65535
    · have HR := Lib.hid (show moveR ts base next = [] ∧ moveB ts base next = false by simp [moveR, moveB, moveC, ht])
      go_enter Try.func17, Try.ntmps17
      go_wp2_with (first | (go_at_call 12; refine (c_AreRequests _ _ _ ts _ hg _ hn h).mono ?_; rintro e w1 ⟨rfl, hb1⟩) | (go_at_call 42; refine (c_IsSerial _ ht _).mono ?_; rintro e w1 ⟨rfl, rfl⟩))
      go_ret2
      rw [HR.out.1, HR.out.2]
      exact ⟨⟨_, _, rfl, Row.nil _ _ _ _ _⟩, hb1⟩
    · have Hok := Lib.hid (goodR_ser hg ht)
      have HV := Lib.hid (show (leave (befN next) ts).length ≤ 9223372036854775807 by have := leave_le (befN next) ts; have := hl.out; omega)
      cases hm : goodR (leave (befN next) ts) next
      · have HR := Lib.hid (show moveR ts base next = [] ∧ moveB ts base next = false by simp [moveR, moveB, moveC, hm])
        have Hg := Lib.hid hg
        clear hg
        go_enter Try.func17, Try.ntmps17
        go_wp2_with (first | (go_at_call 42; refine (c_IsSerial _ ht _).mono ?_; rintro e w2 ⟨rfl, rfl⟩) | (go_at_call 49; refine (c_withoutBefore _ _ _ ts _ _ Hok.out (by omega) (h.keep hb1)).mono ?_; rintro e w3 ⟨⟨A3, c3, rfl, row3⟩, hb3⟩) | (go_at_call 12; first | (have row3x := row3; clear row3x; refine (c_AreRequests _ _ _ (leave (befN next) ts) _ hm _ HV.out (row3.rd (fun _ => rfl))).mono ?_; rintro e w4 ⟨rfl, hb4⟩) | (refine (c_AreRequests _ _ _ ts _ Hg.out _ hn h).mono ?_; rintro e w1 ⟨rfl, hb1⟩)))
        go_ret2
        rw [HR.out.1, HR.out.2]
        exact ⟨⟨_, _, rfl, Row.nil _ _ _ _ _⟩, (hb1.trans hb3).trans hb4⟩
      · have HR := Lib.hid (show moveR ts base next = leave (befN next) ts ∧ moveB ts base next = true by simp [moveR, moveB, moveC, hm, ht, hg])
        have Hg := Lib.hid hg
        clear hg
        go_enter Try.func17, Try.ntmps17
        go_wp2_with (first | (go_at_call 42; refine (c_IsSerial _ ht _).mono ?_; rintro e w2 ⟨rfl, rfl⟩) | (go_at_call 49; refine (c_withoutBefore _ _ _ ts _ _ Hok.out (by omega) (h.keep hb1)).mono ?_; rintro e w3 ⟨⟨A3, c3, rfl, row3⟩, hb3⟩) | (go_at_call 12; first | (have row3x := row3; clear row3x; refine (c_AreRequests _ _ _ (leave (befN next) ts) _ hm _ HV.out (row3.rd (fun _ => rfl))).mono ?_; rintro e w4 ⟨rfl, hb4⟩) | (refine (c_AreRequests _ _ _ ts _ Hg.out _ hn h).mono ?_; rintro e w1 ⟨rfl, hb1⟩)))
        go_ret2
        rw [HR.out.1, HR.out.2]
        exact ⟨⟨_, _, rfl, (row3.keep hb4).mono (by have := hb1.size; omega)⟩, (hb1.trans hb3).trans hb4⟩
end Go.Proofs.Ytnejeigcdogolaa
