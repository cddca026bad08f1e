
/- Texts in rows (where the seat has no laws over lists of texts; else: from there). -/
import Derived.Test.YthciecmofgoebaaGreatDoorI
namespace Go.Proofs.YthciecmofgoebaaGreatDoor
open Go.RowKit
def scell (x : ByteArray) : List Value := [.string x]
def strAt (ts : List ByteArray) (k : Nat) : ByteArray := ts.getD k ByteArray.empty
theorem strAt_lt {ts : List ByteArray} {k : Nat} (h : k < ts.length) : strAt ts k = ts[k] := by simp [strAt, h]
theorem Rd.strs {w : World} {A : Option Addr} {n : Nat} {ts : List ByteArray} (h : Rd w A n 1 (ts.map scell)) (hn : 0 < n) :
    ∃ b off, A = some ⟨b, off, none⟩ ∧ b < w.heap.size ∧ ∀ k, k < n → w.cell? ⟨b, off + k, none⟩ = some (.string (strAt ts k)) := by
  obtain ⟨b, off, hA, hb, hc⟩ := h.at_ hn
  refine ⟨b, off, hA, hb, fun k hk => ?_⟩
  have hl : ts.length = n := by simpa using h.len
  have hk' : k < ts.length := by omega
  have hx : (ts.map scell)[k]? = some (scell (strAt ts k)) := by simp [strAt, hk']
  simpa using hc k 0 _ _ hx rfl
theorem Rd.slen {w : World} {A : Option Addr} {n : Nat} {ts : List ByteArray} (h : Rd w A n 1 (ts.map scell)) : ts.length = n := by simpa using h.len
theorem Row.strs {w : World} {lo : Nat} {e : TypeId} {A : Option Addr} {n c : Nat} {ts : List ByteArray} (h : Row w lo e 1 scell A n c ts) (hn : 0 < n) :
    ∃ g, A = some ⟨g, 0, none⟩ ∧ lo ≤ g ∧ g < w.heap.size ∧ (∀ j, w.frozen? ⟨g, j, none⟩ = false) ∧ ∀ k, k < n → w.cell? ⟨g, k, none⟩ = some (.string (strAt ts k)) := by
  obtain ⟨g, rfl, hlo, hlt⟩ := h.form hn
  obtain ⟨b, off, hA, _, hc⟩ := (h.rd (fun _ => rfl)).strs hn
  simp only [Option.some.injEq, Addr.mk.injEq, and_true] at hA
  obtain ⟨rfl, rfl⟩ := hA
  exact ⟨g, rfl, hlo, hlt, fun j => h.frozen j, fun k hk => by simpa using hc k hk⟩
theorem infoStr : (Tryz.prog.info? 9).map (fun i => (i.zero, i.size, i.bytes)) = some (some (.string ByteArray.empty), 1, 16) := by kernel_rfl
end Go.Proofs.YthciecmofgoebaaGreatDoor
