
/- The text of an element: both sides. -/
import Derived.Test.YtajfmfeegiicaaaDoorJ
import Derived.Test.YtajfmfeegiicaaaDoorJT
import Derived.Test.YtajfmfeegiicaaaDoorE5
namespace Go.Proofs.YtajfmfeegiicaaaDoor
open Go.RowKit
theorem joinE_succ {ts : List Int} {k : Nat} (hk : k < ts.length) : joinT (ts.take (k + 1)) ⟨#[]⟩ = joinT (ts.take k) ⟨#[]⟩ ++ numT (intAt ts k).toNat := by
  rcases Nat.eq_zero_or_pos k with rfl | h1
  · cases ts with
    | nil => simp at hk
    | cons x r =>
      have e : (joinT ((x :: r).take 0) ⟨#[]⟩) = ⟨#[]⟩ := by simp [joinT, numW, Lib.join_nil]
      rw [e]
      simp only [Nat.zero_add, List.take_succ_cons, List.take_zero, joinT_one]
      apply ByteArray.ext
      simp [intAt]
  · rw [joinT_succ h1 hk]
    apply ByteArray.ext
    simp
def entS (acc : ByteArray) (v : Ev) : ByteArray := acc ++ (⟨#[59, 32]⟩ ++ numT v.num.toNat ++ ⟨#[32, 102, 111, 114, 32]⟩ ++ joinT v.fs ⟨#[]⟩ ++ ⟨#[32, 117, 110, 116, 105, 108, 32]⟩ ++ numT v.unt.toNat)
def entsT (u : Nat) (es : List Ev) : ByteArray := es.foldl entS (numT u)
theorem entsT_succ (u : Nat) (es : List Ev) (k : Nat) (hk : k < es.length) : entsT u (es.take (k + 1)) = entS (entsT u (es.take k)) (evAt es k) := by
  rw [evAt_lt hk, entsT, List.take_succ_eq_append_getElem hk, List.foldl_append]; rfl
theorem riseB_len {fs : List Int} (h : riseB 1 7 fs = true) : fs.length ≤ 7 ∧ ∀ k, k < fs.length → 0 ≤ intAt fs k ∧ intAt fs k ≤ 7 := by
  have hs := allB_elim (show allB (stepF 1 7 fs) fs.length = true from h)
  have hin : ∀ k, k < fs.length → 1 ≤ intAt fs k ∧ intAt fs k ≤ 7 := fun k hk => by
    have := hs k hk
    simp only [stepF, Bool.and_eq_true] at this
    exact inR_iff.1 this.1
  have hk : ∀ k, k < fs.length → (k : Int) + 1 ≤ intAt fs k := by
    intro k
    induction k with
    | zero => intro hk; have := hin 0 hk; simpa using this.1
    | succ k ih =>
      intro hk
      have h1 := ih (by omega)
      have h2 := hs (k + 1) hk
      simp [stepF] at h2
      omega
  refine ⟨?_, fun k hk => ⟨by have := (hin k hk).1; omega, (hin k hk).2⟩⟩
  rcases Nat.eq_zero_or_pos fs.length with h0 | h0
  · omega
  · have h1 := hk (fs.length - 1) (by omega)
    have h2 := (hin (fs.length - 1) (by omega)).2
    omega
def evOk (v : Ev) (a b : Nat) : Prop := v.num = a ∧ v.unt = b ∧ a ≤ 65535 ∧ b ≤ 10005 ∧ v.fs.length ≤ 7 ∧ ∀ j, j < v.fs.length → 0 ≤ intAt v.fs j ∧ intAt v.fs j ≤ 7
theorem el_facts {ck : Int} {es : List Ev} (h : elB ck es = true) : (∃ u : Nat, ck = u ∧ u ≤ 9999) ∧ es.length ≤ 5 ∧ ∀ k, k < es.length → ∃ a b, evOk (evAt es k) a b := by
  have ⟨h1, h2, h3⟩ := elB_iff.1 h
  have hb := inR_iff.1 h1
  refine ⟨⟨ck.toNat, by omega, by omega⟩, h2, fun k hk => ?_⟩
  have := h3 k hk
  simp only [oneE, Bool.and_eq_true] at this
  obtain ⟨n1, n2, n3, n4, n5⟩ := this
  have a1 := inR_iff.1 n1
  have a2 := inR_iff.1 n4
  have ⟨f1, f2⟩ := riseB_len n3
  exact ⟨(evAt es k).num.toNat, (evAt es k).unt.toNat, by omega, by omega, by omega, by omega, f1, f2⟩
theorem joinE_size {fs : List Int} (h7 : fs.length ≤ 7) (hv : ∀ j, j < fs.length → 0 ≤ intAt fs j ∧ intAt fs j ≤ 7) (k : Nat) (hk : k ≤ fs.length) : (joinT (fs.take k) ⟨#[]⟩).size ≤ 1000 := by
  have := joinT_size (ts := fs) (sep := ⟨#[]⟩) (by decide) (fun j hj => by have := hv j hj; omega) k hk
  have h9 : k * 102 ≤ 7 * 102 := Nat.mul_le_mul_right _ (by omega)
  omega
theorem entS_size {v : Ev} {a b : Nat} (h : evOk v a b) (acc : ByteArray) : (entS acc v).size ≤ acc.size + 100000 := by
  obtain ⟨e1, e2, h1, h2, h3, h4⟩ := h
  have z1 : (⟨#[59, 32]⟩ : ByteArray).size = 2 := rfl
  have z2 : (⟨#[32, 102, 111, 114, 32]⟩ : ByteArray).size = 5 := rfl
  have z3 : (⟨#[32, 117, 110, 116, 105, 108, 32]⟩ : ByteArray).size = 7 := rfl
  have n1 := numT_size v.num.toNat
  have n2 := numT_size v.unt.toNat
  have n3 := joinE_size h3 h4 v.fs.length (Nat.le_refl _)
  rw [List.take_length] at n3
  simp only [entS, ByteArray.size_append]
  omega
theorem entsT_size {u : Nat} (hu : u ≤ 9999) {es : List Ev} (he : ∀ k, k < es.length → ∃ a b, evOk (evAt es k) a b) (k : Nat) (hk : k ≤ es.length) : (entsT u (es.take k)).size ≤ 10000 + k * 100000 := by
  induction k with
  | zero => have := numT_size u; simp [entsT]; omega
  | succ k ih =>
    rw [entsT_succ u es k (by omega)]
    obtain ⟨a, b, h⟩ := he k (by omega)
    have := entS_size h (entsT u (es.take k))
    have := ih (by omega)
    omega
set_option maxRecDepth 100000 in
theorem c_l14Text (u : Nat) (hu : u ≤ 9999) (A : Option Addr) (n c : Nat) (es : List Ev) (ts : List Ent) (h5 : n ≤ 5) (he : ∀ k, k < es.length → ∃ a b, evOk (evAt es k) a b) (w : World) (h : RdE w A n es ts) :
    Calls Tryd.prog 16 #[.agg #[.int .i64 u, .slice A n c]] w fun e w' => e = .returned (.string (entsT u es)) ∧ Bw w w' := by
  have hl := Lib.hid h.len
  have HE := Lib.hid he
  clear he
  have hbx := (Bw.refl w).alloc (.cells #[.int .i64 (u : Int), .slice A n c] 30)
  go_enter Tryd.func16, Tryd.ntmps16
  go_wp2_with (go_at_call 33; refine (c_l1Num u (by omega) _).mono ?_; rintro e w1 ⟨rfl, hb1⟩)
  go_loopw [3, 4] (fun v i wr => ∃ k : Nat, k ≤ n ∧ i = .int .i64 k ∧ v = .string (entsT u (es.take k)) ∧ Bw (w.alloc (.cells #[.int .i64 (u : Int), .slice A n c] 30)) wr) (fun _ i _ => n - (intOf i).toNat)
  case atStart => exact ⟨0, Nat.zero_le _, rfl, by simp [entsT], hb1⟩
  case round =>
    obtain ⟨k, hk, rfl, rfl, hbl⟩ := hrel
    have b1 := hbl.cellv (p := ⟨w.heap.size, 1, none⟩) (v := .slice A n c) (by go_simp)
    by_cases hlt : k < n
    · have HH := Lib.hid (h.keep (hbx.trans hbl))
      obtain ⟨b, off, rfl, hb, hc⟩ := HH.out.at_ (by omega)
      have ⟨q0, q1, q2⟩ := hc k hlt
      clear hc
      have HI := Lib.hid (HH.out.ints hlt)
      have HS := Lib.hid (entsT_succ u es k (by rw [hl.out]; exact hlt))
      have hz := entsT_size hu HE.out k (by rw [hl.out]; omega)
      obtain ⟨x, y, hx⟩ := HE.out k (by rw [hl.out]; exact hlt)
      generalize entsT u (es.take k) = acc at *
      generalize evAt es k = v at *
      obtain ⟨vn, vu, fs⟩ := v
      obtain ⟨e1, e2, hx1, hx2, h7, hf⟩ := hx
      dsimp only at e1 e2 h7 hf q0 q2 HI
      subst e1 e2
      generalize hE : entAt ts k = E at q1 HI
      obtain ⟨_, fA, fn, fc⟩ := E
      dsimp only at q1 HI
      have HF := Lib.hid hf
      have hfl := Lib.hid HI.out.ilen
      have z1 : (⟨#[59, 32]⟩ : ByteArray).size = 2 := rfl
      have z2 : (⟨#[32, 102, 111, 114, 32]⟩ : ByteArray).size = 5 := rfl
      have z3 : (⟨#[32, 117, 110, 116, 105, 108, 32]⟩ : ByteArray).size = 7 := rfl
      have n1 := numT_size x
      have n2 := numT_size y
      have r1 := fun (W : World) => run_string_add (P := Tryd.prog) W acc ⟨#[59, 32]⟩ (by omega) (by omega)
      have r2 := fun (W : World) => run_string_add (P := Tryd.prog) W (acc ++ ⟨#[59, 32]⟩) (numT x) (by simp only [ByteArray.size_append]; omega) (by omega)
      have r3 := fun (W : World) => run_string_add (P := Tryd.prog) W (acc ++ ⟨#[59, 32]⟩ ++ numT x) ⟨#[32, 102, 111, 114, 32]⟩ (by simp only [ByteArray.size_append]; omega) (by omega)
      have hz1 : (acc ++ ⟨#[59, 32]⟩ ++ numT x ++ ⟨#[32, 102, 111, 114, 32]⟩).size ≤ 1000000 := by simp only [ByteArray.size_append]; omega
      have hz2 := Lib.hid (joinE_size h7 hf)
      have hfn7 : fn ≤ 7 := by rw [← hfl.out]; exact h7
      clear z1 z2 hz n1 hf h7
      go_wp2_with (go_at_call 33; refine (c_l1Num x (by omega) _).mono ?_; rintro e w2 ⟨rfl, hb2⟩)
      clear r1 r2 r3
      have HA := Lib.hid (show entS acc ⟨(x : Int), (y : Int), fs⟩ = acc ++ ⟨#[59, 32]⟩ ++ numT x ++ ⟨#[32, 102, 111, 114, 32]⟩ ++ joinT fs ⟨#[]⟩ ++ ⟨#[32, 117, 110, 116, 105, 108, 32]⟩ ++ numT y by simp only [entS, ByteArray.append_assoc]; rfl)
      generalize acc ++ ⟨#[59, 32]⟩ ++ numT x ++ ⟨#[32, 102, 111, 114, 32]⟩ = acd at *
      go_loopw [3, 5] (fun v i wq => ∃ j : Nat, j ≤ fn ∧ i = .int .i64 j ∧ v = .string (acd ++ joinT (fs.take j) ⟨#[]⟩) ∧ Bw wr wq) (fun _ i _ => fn - (intOf i).toNat)
      case atStart => exact ⟨0, Nat.zero_le _, rfl, by rw [show joinT (fs.take 0) ⟨#[]⟩ = ⟨#[]⟩ by simp [joinT, numW, Lib.join_nil]]; congr 1; apply ByteArray.ext; simp, hb2⟩
      case round =>
        obtain ⟨j, hj, rfl, rfl, hbq⟩ := hrel
        have p1 := hbq.cellv b1
        have t0 := hbq.cellv q0
        have t1 := hbq.cellv q1
        have t2 := hbq.cellv q2
        by_cases hjl : j < fn
        · obtain ⟨g, go, rfl, hgb, hgc⟩ := (HI.out.keep hbq).ints (by omega)
          have s0 := hgc j hjl
          clear hgc
          have ⟨y0, y1⟩ := HF.out j (by rw [hfl.out]; exact hjl)
          have HT := Lib.hid (joinE_succ (ts := fs) (k := j) (by rw [hfl.out]; exact hjl))
          have hz3 := hz2.out j (by rw [hfl.out]; omega)
          generalize intAt fs j = f at s0 y0 y1 HT
          obtain ⟨m, rfl⟩ : ∃ m : Nat, f = m := ⟨f.toNat, by omega⟩
          have n3 := numT_size m
          generalize joinT (fs.take j) ⟨#[]⟩ = fj at *
          have r4 := fun (W : World) => run_string_add (P := Tryd.prog) W (acd ++ fj) (numT m) (by simp only [ByteArray.size_append]; omega) (by omega)
          clear n3 hz3
          go_wp2_with (go_at_call 33; refine (c_l1Num m (by omega) _).mono ?_; rintro e w3 ⟨rfl, hb3⟩)
          all_goals
            go_roundw
            case rel => exact ⟨j + 1, by omega, by go_num, by rw [HT.out, ← ByteArray.append_assoc]; rfl, hbq.trans hb3⟩
            case measure => simp [intOf]; omega
        · obtain rfl : j = fn := by omega
          have hz3 := hz2.out j (by rw [hfl.out]; omega)
          have e : fs.take j = fs := List.take_of_length_le (by rw [hfl.out]; omega)
          rw [e] at hz3 ⊢
          have r5 := fun (W : World) => run_string_add (P := Tryd.prog) W (acd ++ joinT fs ⟨#[]⟩) ⟨#[32, 117, 110, 116, 105, 108, 32]⟩ (by simp only [ByteArray.size_append]; omega) (by omega)
          have r6 := fun (W : World) => run_string_add (P := Tryd.prog) W (acd ++ joinT fs ⟨#[]⟩ ++ ⟨#[32, 117, 110, 116, 105, 108, 32]⟩) (numT y) (by simp only [ByteArray.size_append]; omega) (by omega)
          clear n2 hz3 z3 e
          go_wp2_with (go_at_call 33; refine (c_l1Num y (by omega) _).mono ?_; rintro e w3 ⟨rfl, hb3⟩)
          all_goals
            go_roundw
            case rel => exact ⟨k + 1, by omega, by go_num, by rw [HS.out, HA.out], (hbl.trans hbq).trans hb3⟩
            case measure => simp [intOf]; omega
    · go_wp2
      go_ret
      obtain rfl : k = n := by omega
      have e : es.take k = es := by rw [List.take_of_length_le (by rw [hl.out]; omega)]
      rw [e]
      exact ⟨rfl, hbx.trans hbl⟩
set_option maxRecDepth 100000 in
theorem c_entriesText (u : Nat) (hu : u ≤ 9999) (A : Option Addr) (n c : Nat) (es : List Ev) (ts : List Ent) (h5 : n ≤ 5) (he : ∀ k, k < es.length → ∃ a b, evOk (evAt es k) a b) (w : World) (ht : Tab10 w) (h : RdE w A n es ts) :
    Calls Tryd.prog 19 #[.agg #[.int .i64 u, .slice A n c]] w fun e w' => e = .returned (.string (entsT u es)) ∧ Bw w w' := by
  have hl := Lib.hid h.len
  have HE := Lib.hid he
  clear he
  have hbx := (Bw.refl w).alloc (.cells #[.int .i64 (u : Int), .slice A n c] 30)
  go_enter Tryd.func19, Tryd.ntmps19
  go_wp2_with (go_at_call 41; refine (c_Itoa u (by omega) _ (ht.keep hbx)).mono ?_; rintro e w1 ⟨rfl, hb1⟩; have e1 := hb1.cellv (p := ⟨w.heap.size, 1, none⟩) (v := .slice A n c) (by go_simp))
  go_loopw [3, 12] (fun v i wr => ∃ k : Nat, k ≤ n ∧ i = .int .i64 k ∧ v = .string (entsT u (es.take k)) ∧ Bw (w.alloc (.cells #[.int .i64 (u : Int), .slice A n c] 30)) wr) (fun _ i _ => n - (intOf i).toNat)
  case atStart => exact ⟨0, Nat.zero_le _, rfl, by simp [entsT], hb1⟩
  case round =>
    obtain ⟨k, hk, rfl, rfl, hbl⟩ := hrel
    by_cases hlt : k < n
    · have HH := Lib.hid (h.keep (hbx.trans hbl))
      obtain ⟨b, off, rfl, hb, hc⟩ := HH.out.at_ (by omega)
      have ⟨q0, q1, q2⟩ := hc k hlt
      clear hc
      have HI := Lib.hid (HH.out.ints hlt)
      have HS := Lib.hid (entsT_succ u es k (by rw [hl.out]; exact hlt))
      have hz := entsT_size hu HE.out k (by rw [hl.out]; omega)
      obtain ⟨x, y, hx⟩ := HE.out k (by rw [hl.out]; exact hlt)
      generalize entsT u (es.take k) = acc at *
      generalize evAt es k = v at *
      obtain ⟨vn, vu, fs⟩ := v
      obtain ⟨e1, e2, hx1, hx2, h7, hf⟩ := hx
      dsimp only at e1 e2 h7 hf q0 q2 HI
      subst e1 e2
      generalize hE : entAt ts k = E at q1 HI
      obtain ⟨_, fA, fn, fc⟩ := E
      dsimp only at q1 HI
      have hfl := Lib.hid HI.out.ilen
      have z1 : (⟨#[59, 32]⟩ : ByteArray).size = 2 := rfl
      have z2 : (⟨#[32, 102, 111, 114, 32]⟩ : ByteArray).size = 5 := rfl
      have z3 : (⟨#[32, 117, 110, 116, 105, 108, 32]⟩ : ByteArray).size = 7 := rfl
      have n1 := numT_size x
      have n2 := numT_size y
      have n3 := joinE_size h7 hf fs.length (Nat.le_refl _)
      rw [List.take_length] at n3
      have HA := Lib.hid (show entS acc ⟨(x : Int), (y : Int), fs⟩ = acc ++ (⟨#[59, 32]⟩ ++ numT x ++ ⟨#[32, 102, 111, 114, 32]⟩ ++ joinT fs ⟨#[]⟩ ++ ⟨#[32, 117, 110, 116, 105, 108, 32]⟩ ++ numT y) from rfl)
      have htr := (ht.keep hbx).keep hbl
      have hba := (Bw.refl wr).alloc (.cells #[.int .i64 (x : Int), .slice fA fn fc, .int .i64 (y : Int)] 49)
      have HX := Lib.hid (fun (W : World) (t : Tab10 W) => c_Itoa x (by omega) W t)
      have HY := Lib.hid (fun (W : World) (t : Tab10 W) => c_Itoa y (by omega) W t)
      have HJ := Lib.hid (fun (W : World) (t : Tab10 W) (r : Rd W fA fn 1 (fs.map icell)) => c_joinInts fA fn fc fs ⟨#[]⟩ (fun j hj => by have := hf j hj; omega) (by omega) W t (by rw [← hfl.out]; omega) r)
      have htb := Lib.hid (htr.keep hba)
      have hrb := Lib.hid (HI.out.keep hba)
      generalize joinT fs ⟨#[]⟩ = fj at *
      have r1 := fun (W : World) => run_string_add (P := Tryd.prog) W ⟨#[59, 32]⟩ (numT x) (by omega) (by omega)
      have r2 := fun (W : World) => run_string_add (P := Tryd.prog) W (⟨#[59, 32]⟩ ++ numT x) ⟨#[32, 102, 111, 114, 32]⟩ (by simp only [ByteArray.size_append]; omega) (by omega)
      have r3 := fun (W : World) => run_string_add (P := Tryd.prog) W (⟨#[59, 32]⟩ ++ numT x ++ ⟨#[32, 102, 111, 114, 32]⟩) fj (by simp only [ByteArray.size_append]; omega) (by omega)
      have r4 := fun (W : World) => run_string_add (P := Tryd.prog) W (⟨#[59, 32]⟩ ++ numT x ++ ⟨#[32, 102, 111, 114, 32]⟩ ++ fj) ⟨#[32, 117, 110, 116, 105, 108, 32]⟩ (by simp only [ByteArray.size_append]; omega) (by omega)
      have r5 := fun (W : World) => run_string_add (P := Tryd.prog) W (⟨#[59, 32]⟩ ++ numT x ++ ⟨#[32, 102, 111, 114, 32]⟩ ++ fj ++ ⟨#[32, 117, 110, 116, 105, 108, 32]⟩) (numT y) (by simp only [ByteArray.size_append]; omega) (by omega)
      have r6 := fun (W : World) => run_string_add (P := Tryd.prog) W acc (⟨#[59, 32]⟩ ++ numT x ++ ⟨#[32, 102, 111, 114, 32]⟩ ++ fj ++ ⟨#[32, 117, 110, 116, 105, 108, 32]⟩ ++ numT y) (by omega) (by simp only [ByteArray.size_append]; omega)
      clear z1 z2 z3 hz n1 n2 n3 hf h7
      go_wp2
      (refine wp_region_ext (by kernel_rfl) (by kernel_rfl) ?_; (repeat (go_big_quiet_step (first | with_reducible exact Ext.calls (HX.out _ (htb.out.keep (Ext.h _))) | with_reducible exact Ext.calls (HY.out _ (htb.out.keep (Ext.h _))) | with_reducible exact Ext.calls (HJ.out _ (htb.out.keep (Ext.h _)) (hrb.out.keep (Ext.h _)))))); (with_reducible refine wpQuiet_nil ?_); intro w2 hb2)
      go_wp2
      go_roundw
      case rel => exact ⟨k + 1, by omega, by go_num, by rw [HS.out, HA.out], (hbl.trans hba).trans hb2⟩
      case measure => simp [intOf]; omega
    · go_wp2
      go_ret
      obtain rfl : k = n := by omega
      have e : es.take k = es := by rw [List.take_of_length_le (by rw [hl.out]; omega)]
      rw [e]
      exact ⟨rfl, hbx.trans hbl⟩
end Go.Proofs.YtajfmfeegiicaaaDoor
