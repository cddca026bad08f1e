
/- The numbers of words. -/
import Derived.Test.YthciecmofgoebaaGreatDoorQ5
import Derived.Test.YthciecmofgoebaaGreatDoorI
namespace Go.Proofs.YthciecmofgoebaaGreatDoor
open Go.RowKit Go.Shelf
/-- One number is appended to a row of numbers of the call's own. -/
theorem append_intL {w0 : World} {lo : Nat} {ops : Array Oper} {rest : List Oper} {o : Oper} {a : Act} {Q : Exit → Act → World → Prop} (hgd : o.guard = none) (s x : Operand)
    (ho : o.op = .call { callee := .builtin .append, args := #[s, x], argTypes := #[24, 24] }) (A : Option Addr) (n c : Nat) (xs : List Int) (hs : a.eval s = .slice A n c) (hown : Row w0 lo 3 1 icell A n c xs) (y : Int)
    (B : Nat) (hx : a.eval x = .slice (some ⟨B, 0, none⟩) 1 1) (hB : w0.heap.size = B) (hn : n < 2000000) (hlo : lo ≤ w0.heap.size)
    (h : ∀ A2 c2 w', Row w' lo 3 1 icell A2 (n + 1) c2 (xs ++ [y]) → w0.grownBy w' (Value.ownBlock (.slice A n c)) → (∃ x, A2 = some x ∧ (w0.heap.size < x.block ∨ ∃ y, A = some y ∧ x.block = y.block)) → wpList Tryz.prog ops Q rest (a.put o.dst (.slice A2 (n + 1) c2)) w') : wpList Tryz.prog ops Q (o :: rest) a (w0.alloc (.cells #[.int .i64 y] 3)) := by
  subst hB
  obtain ⟨i0, hi, hz0, hz1, hz2⟩ := info_parts infoInt
  refine wpList_append_rd (enc := icell) hgd s x 24 ho lo 3 i0 (.int .i64 0) 1 8 Tryz.underlying24 hi hz0 hz1 hz2 rfl (by decide) (fun _ => rfl) (by intro t u hu; simp [icell] at hu; subst hu; rfl) A n c xs hs (hown.keep (Bw.alloc (Bw.refl _) _)) _ 1 1 [y] hx (Rd.one _ _ _ _ 1 rfl) (by unfold maxLen; omega) (by omega) (by simp; omega) ?_
  intro A2 c2 w' h1 h2 h3 h4
  refine h A2 c2 w' h1 ((World.grownBy_alloc w0 _ _).trans h2) ?_
  rcases h3 with h3 | ⟨x, hx, h5 | h5⟩
  · cases hA : A2 with
    | none => exact absurd hA (h4 (by omega))
    | some x => exact ⟨x, rfl, .inr ⟨x, by rw [← h3]; exact hA, rfl⟩⟩
  · exact ⟨x, hx, .inl (by rw [h5]; simp)⟩
  · exact ⟨x, hx, .inr h5⟩
noncomputable def pvL (ws : List ByteArray) : List Int := if ws.all rdB = true then ws.map rdV else []
theorem rd_take_succ (ws : List ByteArray) (k : Nat) (hk : k < ws.length) : (ws.take (k + 1)).map rdV = (ws.take k).map rdV ++ [rdV (strAt ws k)] := by
  rw [strAt_lt hk, List.take_succ_eq_append_getElem hk, List.map_append]; rfl
theorem pvL_no {ws : List ByteArray} {k : Nat} (hk : k < ws.length) (h : rdB (strAt ws k) = false) : ws.all rdB = false ∧ pvL ws = [] := by
  have : ws.all rdB = false := by
    rw [List.all_eq_false]
    exact ⟨ws[k], List.getElem_mem hk, by rw [← strAt_lt hk, h]; simp⟩
  exact ⟨this, by rw [pvL, this]; simp⟩
theorem pvL_yes {ws : List ByteArray} (h : ∀ j, j < ws.length → rdB (strAt ws j) = true) : ws.all rdB = true ∧ pvL ws = ws.map rdV := by
  have : ws.all rdB = true := by
    rw [List.all_eq_true]
    intro x hx
    obtain ⟨j, hj, rfl⟩ := List.getElem_of_mem hx
    rw [← strAt_lt hj]; exact h j hj
  exact ⟨this, by rw [pvL, this]; simp⟩
set_option maxRecDepth 100000 in
theorem c_parseInts (A : Option Addr) (n c : Nat) (ws : List ByteArray) (hw : ∀ k, k < ws.length → (strAt ws k).size ≤ 1048576) (w : World) (hp : PEnv w) (hm : n ≤ 1048577) (h : Rd w A n 1 (ws.map scell)) :
    Calls Tryz.prog 23 #[.slice A n c] w fun e w' => (∃ A' c', e = .returned (.tuple #[.slice A' (pvL ws).length c', .bool (ws.all rdB)]) ∧ Row w' w.heap.size 3 1 icell A' (pvL ws).length c' (pvL ws)) ∧ Bw w w' := by
  have hl := Lib.hid h.slen
  have HW := Lib.hid hw
  clear hw
  go_enter Tryz.func23, Tryz.ntmps23
  go_wp2
  go_loopw [4, 11] (fun v i wr => ∃ k : Nat, ∃ A' c', k ≤ n ∧ i = .int .i64 k ∧ v = .slice A' ((ws.take k).map rdV).length c' ∧ Row wr w.heap.size 3 1 icell A' ((ws.take k).map rdV).length c' ((ws.take k).map rdV) ∧ (∀ j, j < k → rdB (strAt ws j) = true) ∧ Bw w wr) (fun _ i _ => n - (intOf i).toNat)
  case atStart => exact ⟨0, none, 0, Nat.zero_le _, rfl, rfl, Row.nil _ _ _ _ _, fun j hj => absurd hj (by omega), Bw.refl _⟩
  case round =>
    obtain ⟨k, A', c', hk, rfl, rfl, hrow, hno, hbl⟩ := hrel
    have Hno := Lib.hid hno
    clear hno
    have hdl : ((ws.take k).map rdV).length ≤ k := by simp; omega
    by_cases hlt : k < n
    · obtain ⟨b, off, rfl, hb, hc⟩ := (h.keep hbl).strs (by omega)
      have q0 := hc k hlt
      clear hc
      have hsz := HW.out k (by rw [hl.out]; exact hlt)
      have HD := Lib.hid (rd_take_succ ws k (by rw [hl.out]; exact hlt))
      have HX := Lib.hid (fun e => pvL_no (ws := ws) (k := k) (by rw [hl.out]; exact hlt) e)
      cases hr : rdB (strAt ws k)
      · have HN := Lib.hid (HX.out hr)
        have HC := Lib.hid (c_ParseInt (strAt ws k) hsz wr (hp.keep hbl))
        rw [hr] at HC
        generalize strAt ws k = x at q0 HC
        generalize (ws.take k).map rdV = L at *
        go_wp2_with (go_at_call 43; refine HC.out.mono ?_; rintro e w1 ⟨rfl, hb1⟩)
        go_ret2
        rw [HN.out.1, HN.out.2]
        exact ⟨⟨none, 0, rfl, Row.nil _ _ _ _ _⟩, hbl.trans hb1⟩
      · have HC := Lib.hid (c_ParseInt (strAt ws k) hsz wr (hp.keep hbl))
        rw [hr] at HC
        have HR := Lib.hid hr
        clear hr
        have HQ := Lib.hid (snoc_lt Hno.out HR.out)
        generalize hxs : strAt ws k = x at q0 HC HD
        clear hxs
        generalize (ws.take k).map rdV = L at *
        go_wp2_with (first | (go_at_call 43; refine HC.out.mono ?_; rintro e w1 ⟨rfl, hb1⟩; have hrow1 := hrow.keep hb1; have hsz1 := (hbl.trans hb1).size) | (at_builtin; refine append_intL rfl _ _ rfl _ _ _ _ rfl hrow1 _ _ rfl rfl ?_ ?_ ?_; omega; exact hsz1; intro A2 c2 w2 hrow2 hg2 hmv2))
        go_roundw
        case rel => exact ⟨k + 1, A2, c2, by omega, by go_num, by rw [HD.out]; simp, by rw [HD.out]; simpa using hrow2, HQ.out, Bw.ofRow (hbl.trans hb1) hg2 (fun x hx => (hrow.lt x hx).1)⟩
        case measure => simp [intOf]; omega
    · obtain rfl : k = n := by omega
      have HN := Lib.hid (pvL_yes (ws := ws) (by rw [hl.out]; exact Hno.out))
      have e : ws.take k = ws := List.take_of_length_le (by rw [hl.out]; omega)
      rw [e] at hrow hdl ⊢
      generalize hL : ws.map rdV = L at *
      go_wp2
      go_ret2
      rw [HN.out.1, HN.out.2]
      exact ⟨⟨_, _, rfl, hrow⟩, hbl⟩
end Go.Proofs.YthciecmofgoebaaGreatDoor
