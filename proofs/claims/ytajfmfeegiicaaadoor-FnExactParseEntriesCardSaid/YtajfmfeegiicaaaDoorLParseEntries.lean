
/- The law FnExactParseEntries: the walk. -/
import Derived.Test.YtajfmfeegiicaaaDoorY6
import Derived.Test.YtajfmfeegiicaaaDoorY7
namespace Go.Proofs.YtajfmfeegiicaaaDoor
open Go.RowKit Go.Shelf
theorem RowE.fit {w : World} {lo : Nat} {A : Option Addr} {n c : Nat} {es : List Ev} {ts : List Ent} (h : RowE w lo A n c es ts) (hf : ∀ v ∈ es, v.fs.length ≤ 7) : ∀ k, k < n → (entAt ts k).n ≤ 100 := by
  intro k hk
  have h1 := (h.fs k hk).len
  have hl := h.tlen
  have hv := h.vs
  have hm : (entAt ts k).v ∈ es := by
    rw [← hv, entAt_lt (by omega)]
    exact List.mem_map_of_mem (List.getElem_mem _)
  have := hf _ hm
  omega
theorem MkE.bw {w w' : World} {A : Option Addr} {lo n : Nat} {k0 : Int} {ts : List Ent} (h : n = 0 ∨ ∃ g, A = some ⟨g, 0, none⟩ ∧ MkE w lo g n n k0 ts) (hb : Bw w w') : n = 0 ∨ ∃ g, A = some ⟨g, 0, none⟩ ∧ MkE w' lo g n n k0 ts :=
  h.imp id (fun ⟨g, hA, hM⟩ => ⟨g, hA, hM.keep hb⟩)
set_option maxRecDepth 100000 in
set_option maxHeartbeats 1000000 in
theorem w_ParseEntries (s : ByteArray) (hz : s.size ≤ maxLen) (w : World) (hp : PEnv w) :
    Calls Tryd.prog 4 #[.string s] w fun e w' => e = .returned (.bool true) ∧ Bw w w' := by
  unfold maxLen at hz
  by_cases h20 : 1048576 < s.size
  · go_enter Tryd.func4, Tryd.ntmps4
    go_wp2
    go_ret
    exact ⟨rfl, Bw.refl _⟩
  · have hs : s.size ≤ 1048576 := by omega
    have HS := Lib.hid (fun W => c_sParseEntries s hs W)
    have HI := Lib.hid (fun W hp => c_iParseEntries s hs W hp)
    have ⟨hL, hF⟩ := peE_fit s
    generalize peE s = L at *
    generalize peB s = r at *
    generalize peU s = v at *
    have HF := Lib.hid hF
    clear hF
    have hrr : (r != r) = false := by simp
    go_enter Tryd.func4, Tryd.ntmps4
    go_wp2_with fail
    refine (HS.out _).mono ?_
    rintro e w1 ⟨⟨A1, c1, ts1, rfl, row1⟩, hb1⟩
    go_wp2_with fail
    have k1 := hb1.alloc (.cells #[.int .i64 v, .slice A1 L.length c1] 30)
    refine (HI.out _ (hp.keep k1)).mono ?_
    rintro e w2 ⟨⟨A2, c2, ts2, rfl, row2⟩, hb2⟩
    have d1 := hb2.cellv (p := ⟨w1.heap.size, 1, none⟩) (v := .slice A1 L.length c1) (by go_simp)
    have d1i := hb2.cellv (p := ⟨w1.heap.size, 0, none⟩) (v := .int .i64 v) (by go_simp)
    have row1b := (row1.keep ((Bw.refl _).alloc (.cells #[.int .i64 v, .slice A1 L.length c1] 30)))
    have k2 := k1.trans hb2
    have lo2 := hb2.size
    have hb1s := hb1.size
    simp only [World.size_alloc] at lo2 row2
    have hfit := row2.fit HF.out
    have kb := (Bw.refl w2).alloc (.cells #[.int .i64 v, .slice A2 L.length c2] 30)
    have d1a := kb.cellv d1
    have d1ai := kb.cellv d1i
    go_wp2_with fail
    refine (c_eqElement v A2 A1 L.length c2 c1 L ts2 ts1 _ (by omega) (row2.rd.keep kb) ((row1b.keep hb2).rd.keep kb)).mono ?_
    rintro e w3 ⟨rfl, hb3⟩
    have d2 := hb3.cellv (p := ⟨w2.heap.size, 1, none⟩) (v := .slice A2 L.length c2) (by go_simp)
    have d2i := hb3.cellv (p := ⟨w2.heap.size, 0, none⟩) (v := .int .i64 v) (by go_simp)
    have k23 := kb.trans hb3
    have d1b := k23.cellv d1
    have d1bi := k23.cellv d1i
    have row2b := row2.keep k23
    have hw3 := k23.size
    have hmb := mst_bd ts2 1 (by omega) (by omega) L.length (by omega) hfit L.length (Nat.le_refl _)
    have HH := Lib.hid (fun W hh => c_heldElement1 v A2 L.length c2 ts2 1 (w1.heap.size + 1) W (by omega) (by omega) (by omega) hfit hh)
    have HMk := Lib.hid (c_markElement1 v A2 L.length c2 L ts2 1 (w1.heap.size + 1) w3 (by omega) (by omega) (by omega) hfit row2b (by omega) w2.heap.size (fun x hx => (row2.row.lt x hx).2) (fun k hk x hx => (row2.flt hk hx).2))
    generalize mst ts2 1 L.length = M at *
    have hge : ¬ M < 0 := by omega
    go_wp2_with fail
    refine HMk.out.mono ?_
    rintro e w4 ⟨rfl, hM4, hB4⟩
    have kk := (hb2.trans k23).band hB4 (by simp)
    have d1c := kk.cellv (p := ⟨w1.heap.size, 1, none⟩) (v := .slice A1 L.length c1) (by go_simp)
    have d1ci := kk.cellv (p := ⟨w1.heap.size, 0, none⟩) (v := .int .i64 v) (by go_simp)
    have d2c := hB4.cellv d2 (.inr (Nat.le_refl _))
    have d2ci := hB4.cellv d2i (.inr (Nat.le_refl _))
    have row1c := row1b.keep kk
    have k4 : Bw w w4 := k1.trans kk
    clear HMk d1b d1bi d1a d1ai d1 d1i
    go_wp2_with fail
    refine (HH.out _ hM4).mono ?_
    rintro e w5 ⟨rfl, hb5⟩
    have d1d := hb5.cellv d1c
    have d1di := hb5.cellv d1ci
    have d2d := hb5.cellv d2c
    have d2di := hb5.cellv d2ci
    have k5 := k4.trans hb5
    go_wp2_with fail
    refine (HI.out _ (hp.keep k5)).mono ?_
    rintro e w6 ⟨⟨A6, c6, ts6, rfl, row6⟩, hb6⟩
    have kb6 := (Bw.refl w6).alloc (.cells #[.int .i64 v, .slice A6 L.length c6] 30)
    have d1e := (hb6.trans kb6).cellv d1d
    have d1ei := (hb6.trans kb6).cellv d1di
    have d2e := (hb6.trans kb6).cellv d2d
    have d2ei := (hb6.trans kb6).cellv d2di
    have row1e := ((row1c.keep hb5).keep hb6).keep kb6
    go_wp2_with fail
    refine (c_eqElement v A6 A1 L.length c6 c1 L ts6 ts1 _ (by omega) (row6.rd.keep kb6) row1e.rd).mono ?_
    rintro e w7 ⟨rfl, hb7⟩
    have d2f := hb7.cellv d2e
    have d2fi := hb7.cellv d2ei
    go_wp2_with fail
    refine (HH.out _ (MkE.bw hM4 ((hb5.trans (hb6.trans kb6)).trans hb7))).mono ?_
    rintro e w8 ⟨rfl, hb8⟩
    go_wp2
    go_ret
    exact ⟨rfl, ((k5.trans (hb6.trans kb6)).trans hb7).trans hb8⟩
end Go.Proofs.YtajfmfeegiicaaaDoor
