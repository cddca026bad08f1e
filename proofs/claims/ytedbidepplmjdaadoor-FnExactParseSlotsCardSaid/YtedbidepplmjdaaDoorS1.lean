
/- Lists of strings, and the laws' own helpers at them. -/
import Derived.Test.YtedbidepplmjdaaDoorK3
import Derived.Test.YtedbidepplmjdaaDoorK7
import Derived.Test.YtedbidepplmjdaaDoorK14
namespace Go.Proofs.YtedbidepplmjdaaDoor
open Go.RowKit Go.ChangeShapes Go.WideShapes Go.ChangeAt Go.Joins Go.Deep
def scell (x : ByteArray) : List Value := [.string x]
def strAt (ts : List ByteArray) (k : Nat) : ByteArray := ts.getD k ByteArray.empty
/-- Strings as an input brings them. -/
def fitS (ts : List ByteArray) : Prop := ∀ k, k < ts.length → (strAt ts k).size ≤ maxLen
theorem strAt_lt {ts : List ByteArray} {k : Nat} (h : k < ts.length) : strAt ts k = ts[k] := by simp [strAt, h]
theorem Rd.strs {w : World} {A : Option Addr} {n : Nat} {ts : List ByteArray} (h : Rd w A n 1 (ts.map scell)) (hn : 0 < n) :
    ∃ b off, A = some ⟨b, off, none⟩ ∧ b < w.heap.size ∧ ∀ k, k < n → w.cell? ⟨b, off + k, none⟩ = some (.string (strAt ts k)) := by
  obtain ⟨b, off, hA, hb, hc⟩ := h.at_ hn
  refine ⟨b, off, hA, hb, fun k hk => ?_⟩
  have hl : ts.length = n := by simpa using h.len
  have hk' : k < ts.length := by omega
  have hx : (ts.map scell)[k]? = some (scell (strAt ts k)) := by simp [strAt, hk']
  simpa using hc k 0 _ _ hx rfl
theorem Rd.slen {w : World} {A : Option Addr} {n : Nat} {ts : List ByteArray} (h : Rd w A n 1 (ts.map scell)) : ts.length = n := by simpa using h.len
theorem Row.strs {w : World} {lo : Nat} {e : TypeId} {A : Option Addr} {n c : Nat} {ts : List ByteArray} (h : Row w lo e 1 scell A n c ts) (hn : 0 < n) :
    ∃ g, A = some ⟨g, 0, none⟩ ∧ lo ≤ g ∧ g < w.heap.size ∧ (∀ j, w.frozen? ⟨g, j, none⟩ = false) ∧ ∀ k, k < n → w.cell? ⟨g, k, none⟩ = some (.string (strAt ts k)) := by
  obtain ⟨g, rfl, hlo, hlt⟩ := h.form hn
  obtain ⟨b, off, hA, _, hc⟩ := (h.rd (fun _ => rfl)).strs hn
  simp only [Option.some.injEq, Addr.mk.injEq, and_true] at hA
  obtain ⟨rfl, rfl⟩ := hA
  exact ⟨g, rfl, hlo, hlt, fun j => h.frozen j, fun k hk => by simpa using hc k hk⟩
theorem infoStr : (Tryd.prog.info? 9).map (fun i => (i.zero, i.size, i.bytes)) = some (some (.string ByteArray.empty), 1, 16) := by kernel_rfl
theorem trod_scell {H : Type} {enc : TypeId × Value → H} {P : Program} {w : World} {n : Nat} {cs : List Value} {e : TypeId} {x : DataW H × List MemPlace} {base : Nat} {spare : Nat → Bool} {held : Bool} (he : P.underlying e = some .string) (h : DataW.trod enc P w base spare held n e cs = some x) :
    ∃ t : { s : ByteArray // s.size ≤ maxLen }, cs = scell t.1 := by
  obtain ⟨s, ha, _, hs⟩ := DataW.trod_string he h
  exact ⟨⟨s, hs⟩, ha⟩
theorem trod_strs {H : Type} {enc : TypeId × Value → H} {P : Program} {w : World} {t e : TypeId} {v : Value} {fuel : Nat} {y : DataW H × List MemPlace} (ht : P.underlying t = some (.slice e)) (hC : P.cellsOf e = 1) (he : P.underlying e = some .string)
    (hf : DataW.trod enc P w 0 (fun _ => true) true fuel t [v] = some y) :
    ∃ (A : Option Addr) (n c : Nat) (ss : List ByteArray), v = .slice A n c ∧ n ≤ c ∧ c ≤ maxLen ∧ fitS ss ∧ Rd w A n 1 (ss.map scell) := by
  obtain ⟨A, n, c, ts, rfl, h1, h2, h3⟩ := trod_rd (sz := 1) (T := { s : ByteArray // s.size ≤ maxLen }) (fun t => scell t.1) ht hC (by omega) (fun n cs x hx => trod_scell he hx) hf
  refine ⟨A, n, c, ts.map (·.1), rfl, h1, h2, fun k hk => ?_, by simpa [List.map_map, Function.comp_def] using h3⟩
  rw [strAt_lt hk]
  simp only [List.getElem_map]
  exact (ts[k]'(by simpa using hk)).2
end Go.Proofs.YtedbidepplmjdaaDoor
