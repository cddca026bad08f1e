
/- slices.Insert at rows of structs: contracts. -/
import Derived.Test.YtnejeigcdogolaaK18
import Derived.StillTailTactics
import Derived.Test.YtnejeigcdogolaaK15
namespace Go.Proofs.Ytnejeigcdogolaa
open Go.RowKit
set_option maxRecDepth 100000 in
set_option maxHeartbeats 1000000 in
theorem c_InsertRequest (A : Option Addr) (n c : Nat) (ts : List Request) (i : Nat) (t : Request) (cs : Array Value) (hcs : t.cells = cs.toList) (lo : Nat) (w : World) (hn : n ≤ 1000000) (hi : i ≤ n) (hlo : lo ≤ w.heap.size) (hrow : Row w lo 37 4 Request.cells A n c ts) :
    Calls Try.prog 54 #[.slice A n c, .int .i64 i, .slice (some ⟨w.heap.size, 0, none⟩) 1 1] (w.alloc (.cells cs 37)) fun e w' => (∃ A2 c2, e = .returned (.slice A2 (n + 1) c2) ∧ Row w' lo 37 4 Request.cells A2 (n + 1) c2 (ts.take i ++ [t] ++ ts.drop i)) ∧ w.grownBy w' (Value.ownBlock (.slice A n c)) := by
  have hl := hrow.len
  have ⟨hnc, hcm⟩ := hrow.caps
  unfold maxLen at hcm
  have hrow1 := hrow.keep (Bw.alloc (Bw.refl w) (.cells cs 37))
  have hgr := World.grownBy_alloc w (.cells cs 37) (Value.ownBlock (.slice A n c))
  have rdt : Rd (w.alloc (.cells cs 37)) (some ⟨w.heap.size, 0, none⟩) 1 4 ([t].map Request.cells) := Rd.one _ _ _ _ 4 hcs
  obtain ⟨i0, hi0, hz0, hz1, hz2⟩ := info_parts infoRequest
  have Hi := Lib.hid hi0
  have Hz0 := Lib.hid hz0
  have Hz1 := Lib.hid hz1
  have Hz2 := Lib.hid hz2
  have HL := Lib.hid hl
  clear hi0 hz0 hz1 hz2 hl
  have j0 : (0 : Int) ≤ (i : Int) := by omega
  have j1 : (i : Int) ≤ (n : Int) := by omega
  have j2 : (n : Int) ≤ (c : Int) := by omega
  by_cases hin : i = n
  · subst hin
    have HT := Lib.hid (show ts.take i ++ [t] ++ ts.drop i = ts ++ [t] by rw [List.take_of_length_le (by rw [HL.out]; omega), List.drop_of_length_le (by rw [HL.out]; omega), List.append_nil])
    have key : ∀ A', A' = A → Calls Try.prog 54 #[.slice A' i c, .int .i64 i, .slice (some ⟨w.heap.size, 0, none⟩) 1 1] (w.alloc (.cells cs 37)) fun e w' => (∃ A2 c2, e = .returned (.slice A2 (i + 1) c2) ∧ Row w' lo 37 4 Request.cells A2 (i + 1) c2 (ts ++ [t])) ∧ w.grownBy w' (Value.ownBlock (.slice A i c)) := by
      intro A' hA
      rcases hrow.ways with ⟨rfl, h0, hc0, _⟩ | ⟨g, rfl, _, _⟩
      · subst h0
        subst hc0
        subst hA
        go_enter Try.func54, Try.ntmps54
        go_wp2_with (at_builtin; refine wpList_append_rd (enc := Request.cells) rfl _ _ 24 rfl lo 37 i0 _ 4 32 Try.underlying24 Hi.out Hz0.out Hz1.out Hz2.out rfl (by decide) (fun _ => rfl) oneRequest _ _ _ _ rfl hrow1 _ 1 _ [t] rfl rdt ?_ ?_ ?_ ?_; (unfold maxLen; omega); omega; (simp; omega); intro A2 c2 w2 hrow2 hg2 hmv2 hnn2)
        go_ret
        exact ⟨⟨A2, c2, rfl, hrow2⟩, hgr.trans hg2⟩
      · subst hA
        by_cases hcn : c = i
        · subst hcn
          go_enter Try.func54, Try.ntmps54
          go_wp2_with (at_builtin; refine wpList_append_rd (enc := Request.cells) rfl _ _ 24 rfl lo 37 i0 _ 4 32 Try.underlying24 Hi.out Hz0.out Hz1.out Hz2.out rfl (by decide) (fun _ => rfl) oneRequest _ _ _ _ rfl hrow1 _ 1 _ [t] rfl rdt ?_ ?_ ?_ ?_; (unfold maxLen; omega); omega; (simp; omega); intro A2 c2 w2 hrow2 hg2 hmv2 hnn2)
          go_ret
          exact ⟨⟨A2, c2, rfl, hrow2⟩, hgr.trans hg2⟩
        · go_enter Try.func54, Try.ntmps54
          go_wp2_with (at_builtin; refine wpList_append_rd (enc := Request.cells) rfl _ _ 24 rfl lo 37 i0 _ 4 32 Try.underlying24 Hi.out Hz0.out Hz1.out Hz2.out rfl (by decide) (fun _ => rfl) oneRequest _ _ _ _ rfl hrow1 _ 1 _ [t] rfl rdt ?_ ?_ ?_ ?_; (unfold maxLen; omega); omega; (simp; omega); intro A2 c2 w2 hrow2 hg2 hmv2 hnn2)
          go_ret
          exact ⟨⟨A2, c2, rfl, hrow2⟩, hgr.trans hg2⟩
    rw [HT.out]
    exact key A rfl
  · have hilt : i < n := by omega
    have hneq : ((i : Int) == (n : Int)) = false := by simp; omega
    obtain ⟨g, rfl, hlg, hgw⟩ := hrow.form (by omega)
    have hw1 : IntKind.i64.wrap ((i : Int) + 1) = (i : Int) + 1 := by rw [IntKind.wrap_i64]; omega
    have hw2 : IntKind.i64.wrap ((n : Int) + 1) = (n : Int) + 1 := by rw [IntKind.wrap_i64]; omega
    have ht1 : ((i : Int) + 1).toNat = i + 1 := by omega
    have ht2 : ((n : Int) + 1).toNat = n + 1 := by omega
    have b1 : (0 : Int) ≤ (i : Int) + 1 := by omega
    have b2 : (0 : Int) ≤ (n : Int) + 1 := by omega
    have b3 : (i : Int) + 1 ≤ (n : Int) + 1 := by omega
    have b4 : (i : Int) ≤ (n : Int) + 1 := by omega
    have b5 : ¬ c = i := by omega
    have hen : ∀ t : Request, t.cells.length = 4 := fun _ => rfl
    have HI := Lib.hid (fun A R hA hAl hR => ins_cells (enc := Request.cells) hen HL.out hi t A R hA hAl hR)
    have hfl := flat_length hen (ts.drop i)
    have hft := flat_length hen (ts.take i)
    rw [List.length_drop, HL.out] at hfl
    rw [List.length_take, HL.out, Nat.min_eq_left hi] at hft
    have HLen := Lib.hid (show (ts.take i ++ [t] ++ ts.drop i).length = n + 1 by have := HL.out; simp only [List.length_append, List.length_take, List.length_drop, List.length_singleton]; omega)
    generalize hX : ts.take i ++ [t] ++ ts.drop i = X at HI HLen
    have hbm : (n - i) * 4 + i * 4 = n * 4 := by omega
    have hcl : cs.toList.length = 4 := by rw [← hcs]; rfl
    have h1c : ∀ v ∈ cs.toList, v.oneCell' = true := fun v hv => oneRequest t v (by rw [hcs]; exact hv)
    have htc : ∀ j v, cs.toList[j]? = some v → (w.alloc (.cells cs 37)).cell? ((⟨w.heap.size, 0, none⟩ : Addr).add j) = some v := fun j v hj => by
      have := cell_of_row (w.alloc (.cells cs 37)) w.heap.size j cs 37 (0, 0) (heap_alloc_new w _)
      rw [← Array.getElem?_toList, hj] at this
      rw [← this]
      unfold Addr.add
      split <;> simp_all
    by_cases hroom : n + 1 ≤ c
    · have r1 : (n : Int) + 1 ≤ (c : Int) := by omega
      have b6 : ¬ c = i + 1 := by omega
      obtain ⟨kB, hkB, hsb⟩ := own_shape hrow1.own (by omega) (by omega)
      have hsz : ∀ w, (Go.sizeOf 37).run Try.prog w = .ok 4 w := fun w => by simp [sizeOf, typeInfo, Hi.out, Hz1.out]
      have hov : ∀ lb cb, (callFunc 73 #[.slice (some ⟨w.heap.size, 0, none⟩) 1 1, .slice (some ⟨g, (i + 1) * 4, none⟩) lb cb]).run Try.prog (w.alloc (.cells cs 37)) = .ok (.value (.bool false)) (w.alloc (.cells cs 37)) := fun lb cb => by
        rw [run_callFunc_extern Try.func73 (by kernel_rfl) (by kernel_rfl) (by kernel_rfl) (e := Extern.SlicesOverlaps.overlaps #[24, 24] #[4]) (by kernel_rfl),
          Lib.run_overlaps_apart _ 24 4 37 Try.underlying24 4 hsz ⟨w.heap.size, 0, none⟩ ⟨g, (i + 1) * 4, none⟩ 1 1 lb cb (by simp; omega) 37 37 cs.size kB (by unfold World.shape?; rw [heap_alloc_new]) hsb hkB (by unfold World.frozen?; rw [heap_alloc_new]; simp) (by unfold World.frozen?; rw [heap_alloc_new]; simp)]
        rfl
      obtain ⟨ys, hyl, own1⟩ := own_more hrow1.own (k := 1) hroom
      have hA : ((ts.flatMap Request.cells) ++ ys).take (i * 4) = (ts.take i).flatMap Request.cells := by
        rw [List.take_append_of_le_length (by rw [hrow.own.1]; omega), flat_take hen]
      have hAl := own1.1
      generalize (ts.flatMap Request.cells) ++ ys = xs1 at own1 hA hAl
      clear hyl hsz hsb
      have HR := Lib.hid (HI.out xs1 cs.toList hA hAl hcs.symm).1
      have hsrc1 := own_src hen (hrow1.keep ((Bw.refl _).drew)) i hi
      have hone1 := one_flat oneRequest (ts.drop i)
      generalize (ts.drop i).flatMap Request.cells = D at hfl HR hsrc1 hone1
      clear HI hA hrow1 rdt hft
      go_enter Try.func54, Try.ntmps54
      go_wp2_with (simp only [hov])
      refine wp_region_still_tail 8 (by kernel_rfl) (by kernel_rfl) ?_
      simp only [List.take_succ_cons, List.take_zero, List.drop_succ_cons, List.drop_zero]
      (repeat still_step)
      (with_reducible refine wpStill_nil ?_)
      change wpList _ _ _ _ _ (w.alloc (.cells cs 37)).drew
      refine wpList_copy_own rfl _ _ 24 rfl Try.underlying24 Hi.out Hz1.out own1.drew ((i + 1) * 4) _ _ rfl ⟨g, i * 4, none⟩ _ _ rfl D ?_ (by omega) hsrc1 hone1 ?_
      · rw [hfl]; congr 1; simp only [Nat.min_def]; split <;> omega
      intro w2 own2 hg2 v2
      have hsrc2 : ∀ j v, cs.toList[j]? = some v → w2.cell? ((⟨w.heap.size, 0, none⟩ : Addr).add j) = some v := fun j v hj => by
        refine (hg2.cell_far _ (by unfold Addr.add; split <;> simp) (by unfold Addr.add; split <;> (simp; omega))).trans (htc j v hj)
      have q1 : cs.toList.length = Nat.min 1 (n + 1 - i) * 4 := by rw [hcl]; simp only [Nat.min_def]; split <;> omega
      have q2 : i * 4 + cs.toList.length ≤ (n + 1) * 4 := by omega
      go_wp2_with ((with_reducible (change Go.wpList _ _ _ ({ dst := _, op := Op.call { callee := Callee.builtin Builtin.copy, args := _, argTypes := _ }, type := _, pos := _, after := _, guard := _ } :: _) _ _)); refine wpList_copy_own rfl _ _ 24 rfl Try.underlying24 Hi.out Hz1.out own2 (i * 4) (n + 1 - i) (c - i) (by rfl) ⟨w.heap.size, 0, none⟩ 1 1 (by rfl) cs.toList q1 q2 hsrc2 h1c ?_; intro w3 own3 hg3 v3)
      go_ret
      rw [HR.out] at own3
      exact ⟨⟨_, _, rfl, ⟨own3, HLen.out⟩⟩, hgr.trans (grown_drewL (hg2.trans hg3))⟩
    · have r1 : (c : Int) < (n : Int) + 1 := by omega
      have hgw1 : g < (w.alloc (.cells cs 37)).heap.size := by simp; omega
      have hold : (Builtin.firstCells i0.size i (.slice (some ⟨g, 0, none⟩) i c)).run Try.prog (w.alloc (.cells cs 37)).drew = .ok ((ts.take i).flatMap Request.cells).toArray (w.alloc (.cells cs 37)).drew := by
        rw [Hz1.out]
        exact run_firstCells_some _ 4 i ⟨g, 0, none⟩ i c _ hft (own_pre hen (hrow1.keep ((Bw.refl _).drew)) i hi)
      have hik : i + (n + 1 - i) = n + 1 := by omega
      have hkk : (n : Int) + 1 - (i : Int) = ((n + 1 - i : Nat) : Int) := by omega
      obtain ⟨G, hG⟩ : ∃ G, G = grownCap (w.alloc (.cells cs 37)) (n + 1) c 37 := ⟨_, rfl⟩
      have hGn : n + 1 ≤ G := by rw [hG]; exact grownCap_ge _ _ _ _
      have hGm : G ≤ maxLen := by rw [hG]; exact grownCap_le_maxLen _ (n + 1) c _ (by unfold maxLen; omega)
      obtain ⟨CE, hCE⟩ : ∃ CE : Array Value, CE = ((ts.take i).flatMap Request.cells).toArray ++ Builtin.zeroCells (Value.agg #[.int .i64 0, .int .i64 0, .int .i64 0, .int .i64 0]).cells (n + 1 - i) ++ Builtin.zeroCells (Value.agg #[.int .i64 0, .int .i64 0, .int .i64 0, .int .i64 0]).cells (G - (n + 1)) := ⟨_, rfl⟩
      have hrz : ∀ ty, (Builtin.append_ #[24, 3] ty #[.slice (some ⟨g, 0, none⟩) i c, .int .i64 ((n : Int) + 1 - (i : Int))]).run Try.prog (w.alloc (.cells cs 37)) =
          .ok (.slice (some ⟨w.heap.size + 1, 0, none⟩) (n + 1) G) ((w.alloc (.cells cs 37)).drew.alloc (.cells CE 37)) := fun ty => by
        have h := Lib.run_append_grow_zeros (w.alloc (.cells cs 37)) 24 3 ty 37 i0 _ .i64 .i64 Try.underlying24 Try.underlying3 Hi.out Hz0.out (some ⟨g, 0, none⟩) i c _ hold (n + 1 - i) (by omega) (by rw [Hz1.out]; omega) (by omega) (by omega) (by rw [Hz2.out]; omega) (by rw [Hz2.out, hik]; exact growslice_fits (by omega) (by omega))
        rw [hik, ← hG, ← hCE] at h
        rw [hkk]
        simpa using h
      have hCs : CE.size = G * 4 := by
        rw [hCE]
        simp only [Array.size_append, List.size_toArray, hft, size_zeroCells]
        simp [Value.cells]
        omega
      have own1 := own_fresh (lo := lo) (e := 37) (sz := 4) (w.alloc (.cells cs 37)).drew (by simp; omega) CE (n + 1) G hGn hGm hCs
      have hA : (CE.toList.take ((n + 1) * 4)).take (i * 4) = (ts.take i).flatMap Request.cells := by
        rw [List.take_take, Nat.min_eq_left (by omega), hCE]
        simp only [Array.toList_append, List.append_assoc]
        rw [List.take_append_of_le_length (by simp only [hft]; omega), List.take_of_length_le (by simp only [hft]; omega)]
      have hAl := own1.1
      generalize CE.toList.take ((n + 1) * 4) = xs1 at own1 hA hAl
      have HR := Lib.hid (HI.out xs1 cs.toList hA hAl hcs.symm).2
      have hsrc1 := own_src hen (hrow1.keep ((Bw.refl _).drew)) i hi
      have hone1 := one_flat oneRequest (ts.drop i)
      generalize (ts.drop i).flatMap Request.cells = D at hfl HR hsrc1 hone1
      unfold maxLen at hGm
      have hGi : ¬ G = i := by omega
      have hGi1 : ¬ G = i + 1 := by omega
      have hn63 : (n : Int) + 1 ≤ (G : Int) := by omega
      have q1 : cs.toList.length = Nat.min 1 (n + 1 - i) * 4 := by rw [hcl]; simp only [Nat.min_def]; split <;> omega
      have q2 : i * 4 + cs.toList.length ≤ (n + 1) * 4 := by omega
      generalize hW1 : (w.alloc (.cells cs 37)).drew.alloc (.cells CE 37) = W1 at own1 hrz
      have hsz1 : W1.heap.size = w.heap.size + 2 := by rw [← hW1]; simp
      have hbW : Bw (w.alloc (.cells cs 37)) W1 := by rw [← hW1]; exact Bw.alloc (Bw.drew (Bw.refl _)) _
      have htc1 : ∀ j v, cs.toList[j]? = some v → W1.cell? ((⟨w.heap.size, 0, none⟩ : Addr).add j) = some v := fun j v hj => hbW.cellv (htc j v hj)
      have hsrc3 : ∀ j v, D[j]? = some v → W1.cell? ((⟨g, i * 4, none⟩ : Addr).add j) = some v := fun j v hj => hbW.cellv (hsrc1 j v hj)
      have hb1 : Bw w W1 := (Bw.alloc (Bw.refl _) _).trans hbW
      simp only [World.size_drew, World.size_alloc] at own1
      clear HI hA hrow1 rdt hft hold hCE hCs hG hW1 hsrc1 hkk hik
      go_enter Try.func54, Try.ntmps54
      go_wp2_with (first | (at_builtin; refine Lib.wpList_append_run _ rfl _ _ _ _ rfl _ _ rfl rfl _ _ (hrz _) ?_) | ((with_reducible (change Go.wpList _ _ _ ({ dst := _, op := Op.call { callee := Callee.builtin Builtin.copy, args := _, argTypes := _ }, type := _, pos := _, after := _, guard := _ } :: _) _ _)); refine wpList_copy_own rfl _ _ 24 rfl Try.underlying24 Hi.out Hz1.out own1 (i * 4) (n + 1 - i) (G - i) (by rfl) ⟨w.heap.size, 0, none⟩ 1 1 (by rfl) cs.toList q1 q2 htc1 h1c ?_; intro w3 own3 hg3 v3))
      have hsrc4 : ∀ j v, D[j]? = some v → w3.drew.cell? ((⟨g, i * 4, none⟩ : Addr).add j) = some v := fun j v hj => by
        have hne : g ≠ w.heap.size + 1 := by omega
        refine (hg3.cell_far _ (by unfold Addr.add; split <;> (simp; omega)) (by unfold Addr.add; split <;> (simp; omega))).trans (hsrc3 j v hj)
      refine wp_region_still_tail 8 (by kernel_rfl) (by kernel_rfl) ?_
      simp only [List.take_succ_cons, List.take_zero, List.drop_succ_cons, List.drop_zero]
      (repeat still_step)
      (with_reducible refine wpStill_nil ?_)
      change wpList _ _ _ _ _ w3.drew
      refine wpList_copy_own rfl _ _ 24 rfl Try.underlying24 Hi.out Hz1.out own3.drew ((i + 1) * 4) _ _ rfl ⟨g, i * 4, none⟩ _ _ rfl D ?_ (by omega) hsrc4 hone1 ?_
      · rw [hfl]; congr 1; simp only [Nat.min_def]; split <;> omega
      intro w4 own4 hg4 v4
      go_wp2_with fail
      go_ret
      rw [HR.out] at own4
      exact ⟨⟨_, _, rfl, ⟨own4, HLen.out⟩⟩, ((hb1.grown hg3 (fun k hk => by simp at hk; omega)).grown (grown_drewL hg4) (fun k hk => by simp at hk; omega)).toGrown.weaken⟩
end Go.Proofs.Ytnejeigcdogolaa
