
/- Words and lemmas that all walks of this seat share: what lay in memory when a call began is kept; a slice that reads as a list; regions that draw their order. No function of the program is spoken of. -/
import Derived.Test.YtpjljbhodnlhmaaGreatDoorProg
import Derived.WalkKit
import Derived.WalkSpells
import Derived.Deep.QuietTactic
import Derived.BigQuiet
import Derived.Lib.Hide
import Derived.IntWalk
namespace Go.Proofs.YtpjljbhodnlhmaaGreatDoor
open Go.RowKit

/-- All that lay in memory when the call began is as it was; the streams too. -/
structure Bw (a b : World) : Prop where
  b : Below a.heap.size a b
theorem Bw.refl (a : World) : Bw a a := ⟨Below.refl _ _⟩
theorem Bw.size {a b : World} (h : Bw a b) : a.heap.size ≤ b.heap.size := h.b.size
theorem Bw.trans {a b c : World} (h : Bw a b) (k : Bw b c) : Bw a c := ⟨h.b.trans (k.b.mono h.b.size)⟩
theorem Bw.alloc {a b : World} (h : Bw a b) (o : Obj) : Bw a (b.alloc o) := ⟨h.b.alloc h.b.size o⟩
theorem Bw.drew {a b : World} (h : Bw a b) : Bw a b.drew := ⟨h.b.drew⟩
theorem Bw.drewN {a b : World} (h : Bw a b) (n : Nat) : Bw a (b.drewN n) := ⟨⟨h.b.os, h.b.tape, h.b.output, h.b.size, h.b.block⟩⟩
theorem Bw.setCell {a b : World} (h : Bw a b) {p : Addr} (hp : a.heap.size ≤ p.block) (u : Value) : Bw a (b.setCell p u) := ⟨h.b.setCell hp u⟩
theorem Bw.rule {a b : World} (h : Bw a b) : ∀ p : Addr, p.block < a.heap.size → b.cell? p = a.cell? p := fun _ hp => h.b.cell hp
theorem Bw.frz {a b : World} (h : Bw a b) : ∀ p : Addr, p.block < a.heap.size → b.frozen? p = a.frozen? p := fun _ hp => h.b.frozen hp
theorem Bw.cellv {a b : World} (h : Bw a b) {p : Addr} {v : Value} (hc : a.cell? p = some v) : b.cell? p = some v := (h.rule p (World.block_lt_of_cell? a p hc)).trans hc
theorem Bw.grown {a b c : World} {row : Option Nat} (h : Bw a b) (hg : b.grownBy c row) (hr : ∀ k, row = some k → a.heap.size ≤ k) : Bw a c := ⟨h.b.grown hg h.b.size hr⟩
theorem Bw.blk {a b : World} (h : Bw a b) : ∀ k, k < a.heap.size → b.heap[k]? = a.heap[k]? := h.b.block

/-- A world that is w for all that lay there. -/
structure Ext (w : World) where
  v : World
  h : Bw w v
instance (w : World) : Nonempty (Ext w) := ⟨⟨w, Bw.refl _⟩⟩
theorem Ext.cell {w : World} (x : Ext w) {p : Addr} (h : p.block < w.heap.size) : x.v.cell? p = w.cell? p := x.h.rule p h
attribute [go_sem] Ext.cell
theorem Ext.calls {P : Program} {f : FuncId} {args : Array Value} {w : World} {x : Ext w} {v : Value}
    (h : Calls P f args x.v fun e w' => e = .returned v ∧ Bw x.v w') : Calls P f args x.v fun e w'' => e = .returned v ∧ ∃ y : Ext w, w'' = y.v :=
  h.mono fun _ _ ⟨he, hb⟩ => ⟨he, ⟨_, x.h.trans hb⟩, rfl⟩
theorem Ext.same {P : Program} {f : FuncId} {args : Array Value} {w : World} {x : Ext w} {v : Value}
    (h : Calls P f args x.v fun e w' => e = .returned v ∧ x.v = w') : Calls P f args x.v fun e w'' => e = .returned v ∧ ∃ y : Ext w, w'' = y.v :=
  h.mono fun _ _ ⟨he, hb⟩ => ⟨he, x, hb.symm⟩
theorem wp_region_ext {P : Program} {id : Nat} {Q : Exit → Act → World → Prop} {a : Act} {w : World} {l : List Oper} (hm : P.follows .mixedOrders = true) (hB : Region.lexB .any l.toArray = true)
    (h : wpQuiet P l.toArray (fun w' => ∃ x : Ext w, w' = x.v) (fun a' => ∀ w', Bw w w' → Q .normal a' w') l a) : (Code.region id l.toArray true).wp P Q a w :=
  wp_region_quiet (C := fun w' => ∃ x : Ext w, w' = x.v) hm hB ⟨⟨_, (Bw.refl _).drew⟩, rfl⟩ (by
    have : (fun a' => ∀ w', Bw w w' → Q .normal a' w') = (fun a' => ∀ w', (∃ x : Ext w, w' = x.v) → Q .normal a' w') := by
      funext a'; apply propext
      exact ⟨fun h w' ⟨x, hx⟩ => h _ (hx ▸ x.h), fun h w' hw => h _ ⟨⟨w', hw⟩, rfl⟩⟩
    rw [this] at h
    simpa using h)

theorem ret_bool {a b : Bool} (h : a = b) : Ending.returned (.bool a) = .returned (.bool b) := by rw [h]
theorem ret_int {a b : Int} (h : a = b) : Ending.returned (.int .i64 a) = .returned (.int .i64 b) := by rw [h]

/-- The slice's header 'A, n' reads as the elements xs, each of sz cells. -/
structure Rd (w : World) (A : Option Addr) (n sz : Nat) (xs : List (List Value)) : Prop where
  len : xs.length = n
  at_ : 0 < n → ∃ b off, A = some ⟨b, off, none⟩ ∧ b < w.heap.size ∧ ∀ k j cs u, xs[k]? = some cs → cs[j]? = some u → w.cell? ⟨b, off + k * sz + j, none⟩ = some u
theorem Rd.keep {a b : World} {A : Option Addr} {n sz : Nat} {xs : List (List Value)} (h : Rd a A n sz xs) (hb : Bw a b) : Rd b A n sz xs :=
  ⟨h.len, fun hn => let ⟨g, off, hA, hg, hc⟩ := h.at_ hn; ⟨g, off, hA, Nat.lt_of_lt_of_le hg hb.size, fun k j cs u h1 h2 => (hb.rule _ hg).trans (hc k j cs u h1 h2)⟩⟩
theorem Rd.nil (w : World) (A : Option Addr) (sz : Nat) : Rd w A 0 sz [] := ⟨rfl, fun h => absurd h (by omega)⟩
end Go.Proofs.YtpjljbhodnlhmaaGreatDoor
