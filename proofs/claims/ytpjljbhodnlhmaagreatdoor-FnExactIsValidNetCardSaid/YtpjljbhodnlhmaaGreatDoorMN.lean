/- Networks that came in: what they hold, Queues, zero elements, zero receivers, leaves, Queues: the program's test by the two searches with a closure, Queues: the program's test, Trees: which are valid, Leaves: both sides, What stands at a node: the two sides' tests answer alike, Networks: readers of their lists. -/
import Derived.Test.YtpjljbhodnlhmaaGreatDoorE5
import Derived.Test.YtpjljbhodnlhmaaGreatDoorU2
import Derived.Test.YtpjljbhodnlhmaaGreatDoorS10
import Derived.Test.YtpjljbhodnlhmaaGreatDoorT12
import Derived.Test.YtpjljbhodnlhmaaGreatDoorSRC
import Derived.Test.YtpjljbhodnlhmaaGreatDoorP5T
import Derived.Test.YtpjljbhodnlhmaaGreatDoorI2
import Derived.Test.YtpjljbhodnlhmaaGreatDoorK1
import Derived.Test.YtpjljbhodnlhmaaGreatDoorK7

namespace Go.Proofs.YtpjljbhodnlhmaaGreatDoor
open Go.ChangeShapes Go.WideShapes Go.ChangeAt Go.RowKit Go.Joins Go.Deep
/-- An element in memory. -/
structure ElM where
  ck : Int
  A : Option Addr
  n : Nat
  c : Nat
  es : List Ev
  ts : List Ent
def ElM.cells (e : ElM) : List Value := [.int .i64 e.ck, .slice e.A e.n e.c]
def ElM.ok (w : World) (e : ElM) : Prop := e.n ≤ e.c ∧ e.c ≤ maxLen ∧ RdE w e.A e.n e.es e.ts
theorem ElM.ok.keep {w w' : World} {e : ElM} (h : e.ok w) (hb : Bw w w') : e.ok w' := ⟨h.1, h.2.1, h.2.2.keep hb⟩
def el0 : ElM := ⟨0, none, 0, 0, [], []⟩
def elAt (xs : List ElM) (k : Nat) : ElM := xs.getD k el0
/-- A receiver in memory. -/
structure ReM where
  st : Bool
  ck : Int
  t : Int
  A : Option Addr
  n : Nat
  c : Nat
  ts : List Slot
  B : Option Addr
  m : Nat
  d : Nat
  rs : List Request
def ReM.cells (r : ReM) : List Value := [.bool r.st, .int .i64 r.ck, .int .i64 r.t, .slice r.A r.n r.c, .slice r.B r.m r.d]
def ReM.ok (w : World) (r : ReM) : Prop := r.n ≤ r.c ∧ r.c ≤ maxLen ∧ fitL r.ts ∧ Rd w r.A r.n 2 (r.ts.map Slot.cells) ∧ r.m ≤ r.d ∧ r.d ≤ maxLen ∧ Rd w r.B r.m 4 (r.rs.map Request.cells)
theorem ReM.ok.keep {w w' : World} {r : ReM} (h : r.ok w) (hb : Bw w w') : r.ok w' := ⟨h.1, h.2.1, h.2.2.1, h.2.2.2.1.keep hb, h.2.2.2.2.1, h.2.2.2.2.2.1, h.2.2.2.2.2.2.keep hb⟩
def re0 : ReM := ⟨false, 0, 0, none, 0, 0, [], none, 0, 0, []⟩
def reAt (xs : List ReM) (k : Nat) : ReM := xs.getD k re0
/-- A packet. -/
structure Pk where
  k : Int
  nu : Int
  tr : Int
  le : Int
  d : ByteArray
def Pk.cells (p : Pk) : List Value := [.int .i64 p.k, .int .i64 p.nu, .int .i64 p.tr, .int .i64 p.le, .string p.d]
def pk0 : Pk := ⟨0, 0, 0, 0, ByteArray.empty⟩
def pkAt (xs : List Pk) (k : Nat) : Pk := xs.getD k pk0
def fitP (ps : List Pk) : Prop := ∀ k, k < ps.length → (pkAt ps k).d.size ≤ maxLen
/-- A queue in memory. -/
structure QuM where
  A : Option Addr
  n : Nat
  c : Nat
  ps : List Pk
def QuM.cells (q : QuM) : List Value := [.slice q.A q.n q.c]
def QuM.ok (w : World) (q : QuM) : Prop := q.n ≤ q.c ∧ q.c ≤ maxLen ∧ fitP q.ps ∧ Rd w q.A q.n 5 (q.ps.map Pk.cells)
theorem QuM.ok.keep {w w' : World} {q : QuM} (h : q.ok w) (hb : Bw w w') : q.ok w' := ⟨h.1, h.2.1, h.2.2.1, h.2.2.2.keep hb⟩
def qu0 : QuM := ⟨none, 0, 0, []⟩
def quAt (xs : List QuM) (k : Nat) : QuM := xs.getD k qu0
section
variable {H : Type} {enc : TypeId × Value → H} {w : World} {n : Nat} {cs : List Value} {x : DataW H × List MemPlace}
theorem trod_elM (h : DataW.trod enc Tryz.prog w 0 (fun _ => true) true n 110 cs = some x) : ∃ e : { e : ElM // e.ok w }, cs = e.1.cells := by
  obtain ⟨a, b, y0, y1, m, rfl, h0, h1⟩ := trod_two Tryz.underlying110 (by kernel_rfl) (by kernel_rfl) h
  obtain ⟨t, ht, _⟩ := DataW.trod_int Tryz.underlying3 h0
  obtain ⟨A, n, c, ts, rfl, h1, h2, h3⟩ := trod_rd (sz := 3) (T := { e : Ent // Rd w e.A e.n 1 (e.v.fs.map icell) ∧ e.n ≤ maxLen }) (fun t => t.1.cells) Tryz.underlying108 (by kernel_rfl) (by omega) (fun n cs x hx => trod_ent hx) h1
  simp only [List.cons.injEq, and_true] at ht
  subst ht
  have hl : ts.length = n := by simpa using h3.len
  refine ⟨⟨⟨t, A, n, c, (ts.map (·.1)).map (·.v), ts.map (·.1)⟩, h1, h2, ⟨by simpa [List.map_map, Function.comp_def] using h3, rfl, fun k hk => ?_⟩⟩, rfl⟩
  have hk : k < n := hk
  show Rd w (entAt (ts.map (·.1)) k).A (entAt (ts.map (·.1)) k).n 1 ((entAt (ts.map (·.1)) k).v.fs.map icell) ∧ (entAt (ts.map (·.1)) k).n ≤ maxLen
  rw [entAt_lt (by simp; omega)]
  simp only [List.getElem_map]
  exact (ts[k]'(by omega)).2
set_option maxRecDepth 100000 in
theorem trod_pk (h : DataW.trod enc Tryz.prog w 0 (fun _ => true) true n 156 cs = some x) : ∃ p : { p : Pk // p.d.size ≤ maxLen }, cs = p.1.cells := by
  have hC : Tryz.prog.cellsOf 156 = 5 := by kernel_rfl
  have cI : Tryz.prog.cellsOf 3 = 1 := by kernel_rfl
  have cS : Tryz.prog.cellsOf 9 = 1 := by kernel_rfl
  obtain ⟨xs, k, _, _, hl, hlen, hf2⟩ := DataW.trod_struct Tryz.underlying156 h
  rw [hC] at hl
  have h0 := hf2 0 _ rfl
  have h1 := hf2 1 _ rfl
  have h2 := hf2 2 _ rfl
  have h3 := hf2 3 _ rfl
  have h4 := hf2 4 _ rfl
  match cs, hl, xs, hlen with
  | [a0, a1, a2, a3, a4], _, [y0, y1, y2, y3, y4], _ =>
    simp [cI] at h0 h1 h2 h3
    simp [cS] at h4
    obtain ⟨k, e0, _⟩ := DataW.trod_int Tryz.underlying3 h0
    obtain ⟨nu, e1, _⟩ := DataW.trod_int Tryz.underlying3 h1
    obtain ⟨tr, e2, _⟩ := DataW.trod_int Tryz.underlying3 h2
    obtain ⟨le, e3, _⟩ := DataW.trod_int Tryz.underlying3 h3
    obtain ⟨s, e4, _, hs⟩ := DataW.trod_string Tryz.underlying9 h4
    simp only [List.cons.injEq, and_true] at e0 e1 e2 e3 e4
    subst e0 e1 e2 e3 e4
    exact ⟨⟨⟨k, nu, tr, le, s⟩, hs⟩, rfl⟩
set_option maxRecDepth 100000 in
theorem trod_reM (h : DataW.trod enc Tryz.prog w 0 (fun _ => true) true n 117 cs = some x) : ∃ r : { r : ReM // r.ok w }, cs = r.1.cells := by
  have hC : Tryz.prog.cellsOf 117 = 5 := by kernel_rfl
  have cW : Tryz.prog.cellsOf 114 = 2 := by kernel_rfl
  have cI : Tryz.prog.cellsOf 3 = 1 := by kernel_rfl
  have cB : Tryz.prog.cellsOf 4 = 1 := by kernel_rfl
  have cH : Tryz.prog.cellsOf 115 = 1 := by kernel_rfl
  obtain ⟨xs, k, _, _, hl, hlen, hf2⟩ := DataW.trod_struct Tryz.underlying117 h
  rw [hC] at hl
  have h0 := hf2 0 _ rfl
  have h1 := hf2 1 _ rfl
  have h2 := hf2 2 _ rfl
  have h3 := hf2 3 _ rfl
  match cs, hl, xs, hlen with
  | [a0, a1, a2, a3, a4], _, [y0, y1, y2, y3], _ =>
    simp [cB] at h0
    simp [cI] at h1
    simp [cW] at h2
    simp [cH] at h3
    obtain ⟨st, hst, _⟩ := DataW.trod_bool Tryz.underlying4 h0
    obtain ⟨ck, hck, _⟩ := DataW.trod_int Tryz.underlying3 h1
    obtain ⟨u0, u1, k2, g0, g1⟩ := trod_twoV Tryz.underlying114 (by kernel_rfl) (by kernel_rfl) h2
    obtain ⟨t, ht, _⟩ := DataW.trod_int Tryz.underlying3 g0
    obtain ⟨A, n, c, ts, rfl, e1, e2, e3⟩ := trod_rd (sz := 2) (T := { s : Slot // s.item.size ≤ maxLen }) (fun t => t.1.cells) Tryz.underlying112 (by kernel_rfl) (by omega) (fun n cs x hx => trod_slot hx) g1
    obtain ⟨B, m, d, rs, hB, f1, f2, f3⟩ := trod_rd (sz := 4) Request.cells Tryz.underlying115 (by kernel_rfl) (by omega) (fun n cs x hx => trod_request hx) h3
    simp only [List.cons.injEq, and_true] at hst hck ht
    subst hst hck ht hB
    refine ⟨⟨⟨st, ck, t, A, n, c, ts.map (·.1), B, m, d, rs⟩, e1, e2, fun k hk => ?_, by simpa [List.map_map, Function.comp_def] using e3, f1, f2, f3⟩, rfl⟩
    have hk : k < (ts.map (·.1)).length := hk
    show (slotAt (ts.map (·.1)) k).item.size ≤ maxLen
    rw [slotAt_lt hk]
    simp only [List.getElem_map]
    exact (ts[k]'(by simpa using hk)).2
theorem trod_quM (h : DataW.trod enc Tryz.prog w 0 (fun _ => true) true n 119 cs = some x) : ∃ q : { q : QuM // q.ok w }, cs = q.1.cells := by
  obtain ⟨a, rfl⟩ : ∃ a, cs = [a] := by
    rcases open_slice Tryz.underlying119 h with ⟨hcs, _⟩ | ⟨_, _, _, _, _, _, _, hcs, _⟩
    · exact ⟨_, hcs⟩
    · exact ⟨_, hcs⟩
  obtain ⟨A, n, c, ps, rfl, h1, h2, h3⟩ := trod_rd (sz := 5) (T := { p : Pk // p.d.size ≤ maxLen }) (fun p => p.1.cells) Tryz.underlying119 (by kernel_rfl) (by omega) (fun n cs x hx => trod_pk hx) h
  refine ⟨⟨⟨A, n, c, ps.map (·.1)⟩, h1, h2, fun k hk => ?_, by simpa [List.map_map, Function.comp_def] using h3⟩, rfl⟩
  simp only [List.length_map] at hk
  simp only [pkAt, List.getD_eq_getElem?_getD, List.getElem?_map, List.getElem?_eq_getElem hk, Option.map_some, Option.getD_some]
  exact (ps[k]).2
end
/-- A network in memory. -/
structure NetM where
  B : Option Addr
  n : Nat
  d : Nat
  ps : List Int
  t : Int
  z : Int
  S : Option Addr
  sn : Nat
  sc : Nat
  ss : List ByteArray
  ck : Int
  q : Int
  H : Option Addr
  hn : Nat
  hc : Nat
  hs : List Hold
  E : Option Addr
  en : Nat
  ec : Nat
  els : List ElM
  R : Option Addr
  rn : Nat
  rc : Nat
  res : List ReM
  D : Option Addr
  dn : Nat
  dc : Nat
  dqs : List QuM
  U : Option Addr
  un : Nat
  uc : Nat
  uqs : List QuM
def NetM.src (N : NetM) : Value := .agg #[.int .i64 N.t, .int .i64 N.z, .slice N.S N.sn N.sc, .int .i64 N.ck, .int .i64 N.q, .slice N.H N.hn N.hc]
def NetM.val (N : NetM) : Value := .agg #[.slice N.B N.n N.d, .int .i64 N.t, .int .i64 N.z, .slice N.S N.sn N.sc, .int .i64 N.ck, .int .i64 N.q, .slice N.H N.hn N.hc, .slice N.E N.en N.ec, .slice N.R N.rn N.rc, .slice N.D N.dn N.dc, .slice N.U N.un N.uc]
/-- It reads so, at w. -/
structure RdN (w : World) (N : NetM) : Prop where
  bt : N.n ≤ N.d ∧ N.d ≤ maxLen
  tr : Rd w N.B N.n 1 (N.ps.map icell)
  bs : N.sn ≤ N.sc ∧ N.sc ≤ maxLen
  fs : fitS N.ss
  st : Rd w N.S N.sn 1 (N.ss.map scell)
  bh : N.hn ≤ N.hc ∧ N.hc ≤ maxLen
  ho : Rd w N.H N.hn 2 (N.hs.map Hold.cells)
  be : N.en ≤ N.ec ∧ N.ec ≤ maxLen
  el : Rd w N.E N.en 2 (N.els.map ElM.cells)
  eo : ∀ k, k < N.els.length → (elAt N.els k).ok w
  br : N.rn ≤ N.rc ∧ N.rc ≤ maxLen
  re : Rd w N.R N.rn 5 (N.res.map ReM.cells)
  ro : ∀ k, k < N.res.length → (reAt N.res k).ok w
  bd : N.dn ≤ N.dc ∧ N.dc ≤ maxLen
  dq : Rd w N.D N.dn 1 (N.dqs.map QuM.cells)
  do_ : ∀ k, k < N.dqs.length → (quAt N.dqs k).ok w
  bu : N.un ≤ N.uc ∧ N.uc ≤ maxLen
  uq : Rd w N.U N.un 1 (N.uqs.map QuM.cells)
  uo : ∀ k, k < N.uqs.length → (quAt N.uqs k).ok w
theorem RdN.keep {w w' : World} {N : NetM} (h : RdN w N) (hb : Bw w w') : RdN w' N :=
  ⟨h.bt, h.tr.keep hb, h.bs, h.fs, h.st.keep hb, h.bh, h.ho.keep hb, h.be, h.el.keep hb, fun k hk => (h.eo k hk).keep hb, h.br, h.re.keep hb, fun k hk => (h.ro k hk).keep hb, h.bd, h.dq.keep hb, fun k hk => (h.do_ k hk).keep hb, h.bu, h.uq.keep hb, fun k hk => (h.uo k hk).keep hb⟩
theorem elAt_lt {xs : List ElM} {k : Nat} (h : k < xs.length) : elAt xs k = xs[k] := by simp [elAt, h]
theorem reAt_lt {xs : List ReM} {k : Nat} (h : k < xs.length) : reAt xs k = xs[k] := by simp [reAt, h]
theorem quAt_lt {xs : List QuM} {k : Nat} (h : k < xs.length) : quAt xs k = xs[k] := by simp [quAt, h]
theorem pkAt_lt {xs : List Pk} {k : Nat} (h : k < xs.length) : pkAt xs k = xs[k] := by simp [pkAt, h]
set_option maxRecDepth 100000 in
theorem open_net {H : Type} {enc : TypeId × Value → H} {w : World} {v : Value} {d : DataW H} {p : List MemPlace} (hv : Value.okWide Tryz.prog w .any 0 54 v) (h : DataW.Trod enc Tryz.prog w 0 (fun _ => true) true 54 v d p) :
    ∃ N : NetM, v = N.val ∧ RdN w N := by
  obtain ⟨cs, rfl, hsz⟩ := okWide_struct Tryz.underlying54 hv
  have hC : Tryz.prog.cellsOf 54 = 11 := by kernel_rfl
  have cT : Tryz.prog.cellsOf 24 = 1 := by kernel_rfl
  have cS : Tryz.prog.cellsOf 49 = 6 := by kernel_rfl
  have cW : Tryz.prog.cellsOf 46 = 3 := by kernel_rfl
  have cI : Tryz.prog.cellsOf 3 = 1 := by kernel_rfl
  have cV : Tryz.prog.cellsOf 22 = 1 := by kernel_rfl
  have cH : Tryz.prog.cellsOf 47 = 1 := by kernel_rfl
  have cE : Tryz.prog.cellsOf 50 = 1 := by kernel_rfl
  have cR : Tryz.prog.cellsOf 51 = 1 := by kernel_rfl
  have cQ : Tryz.prog.cellsOf 52 = 1 := by kernel_rfl
  rw [hC] at hsz
  obtain ⟨l⟩ := cs
  match l, hsz with
  | [a0, a1, a2, a3, a4, a5, a6, a7, a8, a9, a10], _ =>
    obtain ⟨fuel, hf⟩ := h
    obtain ⟨xs, k, _, _, hl, hlen, hf2⟩ := DataW.trod_struct Tryz.underlying54 hf
    have h0 := hf2 0 _ rfl
    have h1 := hf2 1 _ rfl
    have h2 := hf2 2 _ rfl
    have h3 := hf2 3 _ rfl
    have h4 := hf2 4 _ rfl
    have h5 := hf2 5 _ rfl
    match xs, hlen with
    | [y0, y1, y2, y3, y4, y5], _ =>
      simp [Value.cells, cT] at h0
      simp [Value.cells, cS] at h1
      simp [Value.cells, cE] at h2
      simp [Value.cells, cR] at h3
      simp [Value.cells, cQ] at h4
      simp [Value.cells, cQ] at h5
      obtain ⟨ys, kt, _, _, _, tlen, tf⟩ := DataW.trod_struct Tryz.underlying24 h0
      have t0 := tf 0 _ rfl
      obtain ⟨zs, ks, _, _, _, slen, sf⟩ := DataW.trod_struct Tryz.underlying49 h1
      have s0 := sf 0 _ rfl
      have s1 := sf 1 _ rfl
      have s2 := sf 2 _ rfl
      have s3 := sf 3 _ rfl
      match ys, tlen, zs, slen with
      | [u0], _, [z0, z1, z2, z3], _ =>
        simp [cV] at t0
        simp [cW] at s0
        simp [cI] at s1 s2
        simp [cH] at s3
        obtain ⟨B, n, d, ps, rfl, b1, b2, b3⟩ := trod_rd (sz := 1) icell Tryz.underlying22 (by kernel_rfl) (by omega) (fun n cs x hx => trod_icell Tryz.underlying3 hx) t0
        obtain ⟨v0, v1, v2, kv, g0, g1, g2⟩ := trod_three Tryz.underlying46 (by kernel_rfl) s0
        obtain ⟨t, ht, _⟩ := DataW.trod_int Tryz.underlying3 g0
        obtain ⟨z, hz, _⟩ := DataW.trod_int Tryz.underlying3 g1
        obtain ⟨S, sn, sc, ss, hS, e1, e2, e3, e4⟩ := trod_strs Tryz.underlying27 (by kernel_rfl) Tryz.underlying9 g2
        obtain ⟨ck, hck, _⟩ := DataW.trod_int Tryz.underlying3 s1
        obtain ⟨q, hq, _⟩ := DataW.trod_int Tryz.underlying3 s2
        obtain ⟨HA, hn, hc, hs, hH, f1, f2, f3⟩ := trod_rd (sz := 2) Hold.cells Tryz.underlying47 (by kernel_rfl) (by omega) (fun n cs x hx => trod_hold hx) s3
        obtain ⟨E, en, ec, els, hE, i1, i2, i3⟩ := trod_rd (sz := 2) (T := { e : ElM // e.ok w }) (fun e => e.1.cells) Tryz.underlying50 (by kernel_rfl) (by omega) (fun n cs x hx => trod_elM hx) h2
        obtain ⟨R, rn, rc, res, hR, j1, j2, j3⟩ := trod_rd (sz := 5) (T := { r : ReM // r.ok w }) (fun r => r.1.cells) Tryz.underlying51 (by kernel_rfl) (by omega) (fun n cs x hx => trod_reM hx) h3
        obtain ⟨D, dn, dc, dqs, hD, k1, k2, k3⟩ := trod_rd (sz := 1) (T := { q : QuM // q.ok w }) (fun q => q.1.cells) Tryz.underlying52 (by kernel_rfl) (by omega) (fun n cs x hx => trod_quM hx) h4
        obtain ⟨U, un, uc, uqs, hU, l1, l2, l3⟩ := trod_rd (sz := 1) (T := { q : QuM // q.ok w }) (fun q => q.1.cells) Tryz.underlying52 (by kernel_rfl) (by omega) (fun n cs x hx => trod_quM hx) h5
        simp only [List.cons.injEq, and_true] at ht hz hck hq
        subst ht hz hck hq hS hH hE hR hD hU
        refine ⟨⟨B, n, d, ps, t, z, S, sn, sc, ss, ck, q, HA, hn, hc, hs, E, en, ec, els.map (·.1), R, rn, rc, res.map (·.1), D, dn, dc, dqs.map (·.1), U, un, uc, uqs.map (·.1)⟩, rfl, ⟨⟨b1, b2⟩, b3, ⟨e1, e2⟩, e3, e4, ⟨f1, f2⟩, f3, ⟨i1, i2⟩, by simpa [List.map_map, Function.comp_def] using i3, fun k hk => ?_, ⟨j1, j2⟩, by simpa [List.map_map, Function.comp_def] using j3, fun k hk => ?_, ⟨k1, k2⟩, by simpa [List.map_map, Function.comp_def] using k3, fun k hk => ?_, ⟨l1, l2⟩, by simpa [List.map_map, Function.comp_def] using l3, fun k hk => ?_⟩⟩
        · have hk : k < (els.map (·.1)).length := hk
          show (elAt (els.map (·.1)) k).ok w
          rw [elAt_lt hk]; simp only [List.getElem_map]; exact (els[k]'(by simpa using hk)).2
        · have hk : k < (res.map (·.1)).length := hk
          show (reAt (res.map (·.1)) k).ok w
          rw [reAt_lt hk]; simp only [List.getElem_map]; exact (res[k]'(by simpa using hk)).2
        · have hk : k < (dqs.map (·.1)).length := hk
          show (quAt (dqs.map (·.1)) k).ok w
          rw [quAt_lt hk]; simp only [List.getElem_map]; exact (dqs[k]'(by simpa using hk)).2
        · have hk : k < (uqs.map (·.1)).length := hk
          show (quAt (uqs.map (·.1)) k).ok w
          rw [quAt_lt hk]; simp only [List.getElem_map]; exact (uqs[k]'(by simpa using hk)).2
end Go.Proofs.YtpjljbhodnlhmaaGreatDoor

namespace Go.Proofs.YtpjljbhodnlhmaaGreatDoor
open Go.RowKit
theorem Rd.pks {w : World} {A : Option Addr} {n : Nat} {ps : List Pk} (h : Rd w A n 5 (ps.map Pk.cells)) (hn : 0 < n) :
    ∃ b off, A = some ⟨b, off, none⟩ ∧ b < w.heap.size ∧ ∀ k, k < n → w.cell? ⟨b, off + k * 5, none⟩ = some (.int .i64 (pkAt ps k).k) ∧ w.cell? ⟨b, off + k * 5 + 1, none⟩ = some (.int .i64 (pkAt ps k).nu) ∧ w.cell? ⟨b, off + k * 5 + 2, none⟩ = some (.int .i64 (pkAt ps k).tr) ∧ w.cell? ⟨b, off + k * 5 + 3, none⟩ = some (.int .i64 (pkAt ps k).le) ∧ w.cell? ⟨b, off + k * 5 + 4, none⟩ = some (.string (pkAt ps k).d) := by
  obtain ⟨b, off, hA, hb, hc⟩ := h.at_ hn
  refine ⟨b, off, hA, hb, fun k hk => ?_⟩
  have hl : ps.length = n := by simpa using h.len
  have hk' : k < ps.length := by omega
  have hx : (ps.map Pk.cells)[k]? = some (pkAt ps k).cells := by simp [pkAt, hk']
  exact ⟨by simpa using hc k 0 _ _ hx rfl, by simpa using hc k 1 _ _ hx rfl, by simpa using hc k 2 _ _ hx rfl, by simpa using hc k 3 _ _ hx rfl, by simpa using hc k 4 _ _ hx rfl⟩
theorem Rd.pklen {w : World} {A : Option Addr} {n : Nat} {ps : List Pk} (h : Rd w A n 5 (ps.map Pk.cells)) : ps.length = n := by simpa using h.len
def pkO (p : Pk) : Bool := pkB p.k p.nu p.tr p.le p.d
def quO (up : Bool) (ps : List Pk) (k : Nat) : Bool := pkO (pkAt ps k) && (!up || (pkAt ps k).k == 3)
def quB (up : Bool) (ps : List Pk) : Bool := allB (quO up ps) ps.length && decide (ps.length ≤ 6)
def zeE (ck : Int) (n : Nat) : Bool := ck == 0 && decide (n = 0)
def zeR (st : Bool) (ck t : Int) (n m : Nat) : Bool := !st && (ck == 0 && (t == 0 && (decide (n = 0) && decide (m = 0))))
theorem c_isZeroElement (ck : Int) (A : Option Addr) (n c : Nat) {r : Bool} (hr : zeE ck n = r) (w : World) : Calls Tryz.prog 92 #[.agg #[.int .i64 ck, .slice A n c]] w fun e w' => e = .returned (.bool r) ∧ Bw w w' := by
  subst hr
  cases h1 : (ck == 0)
  · have e1 : zeE ck n = false := by simp [zeE, h1]
    rw [e1]
    go_enter Tryz.func92, Tryz.ntmps92
    go_wp2
    go_ret
    exact ⟨rfl, by (repeat (first | with_reducible assumption | exact Bw.refl _ | (with_reducible refine Bw.setCell ?_ (by simp) _) | (with_reducible refine Bw.alloc ?_ _) | (with_reducible refine Bw.drew ?_) | (with_reducible refine Bw.drewN ?_ _)))⟩
  · cases h2 : decide ((n : Int) = 0)
    all_goals
      have e1 : zeE ck n = decide ((n : Int) = 0) := by rw [zeE, h1, Bool.true_and]; congr 1; simp
      rw [e1, h2]
      go_enter Tryz.func92, Tryz.ntmps92
      go_wp2
      go_ret
      first | exact ⟨rfl, by (repeat (first | with_reducible assumption | exact Bw.refl _ | (with_reducible refine Bw.setCell ?_ (by simp) _) | (with_reducible refine Bw.alloc ?_ _) | (with_reducible refine Bw.drew ?_) | (with_reducible refine Bw.drewN ?_ _)))⟩ | (refine ⟨?_, by (repeat (first | with_reducible assumption | exact Bw.refl _ | (with_reducible refine Bw.setCell ?_ (by simp) _) | (with_reducible refine Bw.alloc ?_ _) | (with_reducible refine Bw.drew ?_) | (with_reducible refine Bw.drewN ?_ _)))⟩; simp_all)
theorem c_isZeroReceiver (st : Bool) (ck t : Int) (A : Option Addr) (n c : Nat) (B : Option Addr) (m d : Nat) {r : Bool} (hr : zeR st ck t n m = r) (w : World) : Calls Tryz.prog 93 #[.agg #[.bool st, .int .i64 ck, .int .i64 t, .slice A n c, .slice B m d]] w fun e w' => e = .returned (.bool r) ∧ Bw w w' := by
  subst hr
  have en : decide (n = 0) = ((n : Int) == 0) := by rw [Bool.eq_iff_iff]; simp
  have em : decide (m = 0) = ((m : Int) == 0) := by rw [Bool.eq_iff_iff]; simp
  have HR := Lib.hid (show zeR st ck t n m = (!st && (ck == 0 && (t == 0 && (((n : Int) == 0) && ((m : Int) == 0))))) by rw [zeR, en, em])
  clear en em
  rw [HR.out]
  clear HR
  cases st
  · cases h1 : (ck == 0)
    · go_enter Tryz.func93, Tryz.ntmps93
      go_wp2
      go_ret
      exact ⟨rfl, by (repeat (first | with_reducible assumption | exact Bw.refl _ | (with_reducible refine Bw.setCell ?_ (by simp) _) | (with_reducible refine Bw.alloc ?_ _) | (with_reducible refine Bw.drew ?_) | (with_reducible refine Bw.drewN ?_ _)))⟩
    · cases h2 : (t == 0)
      · go_enter Tryz.func93, Tryz.ntmps93
        go_wp2
        go_ret
        exact ⟨rfl, by (repeat (first | with_reducible assumption | exact Bw.refl _ | (with_reducible refine Bw.setCell ?_ (by simp) _) | (with_reducible refine Bw.alloc ?_ _) | (with_reducible refine Bw.drew ?_) | (with_reducible refine Bw.drewN ?_ _)))⟩
      · cases h3 : ((n : Int) == 0)
        · go_enter Tryz.func93, Tryz.ntmps93
          go_wp2
          go_ret
          exact ⟨rfl, by (repeat (first | with_reducible assumption | exact Bw.refl _ | (with_reducible refine Bw.setCell ?_ (by simp) _) | (with_reducible refine Bw.alloc ?_ _) | (with_reducible refine Bw.drew ?_) | (with_reducible refine Bw.drewN ?_ _)))⟩
        · cases h4 : ((m : Int) == 0)
          all_goals
            go_enter Tryz.func93, Tryz.ntmps93
            go_wp2
            go_ret
            exact ⟨rfl, by (repeat (first | with_reducible assumption | exact Bw.refl _ | (with_reducible refine Bw.setCell ?_ (by simp) _) | (with_reducible refine Bw.alloc ?_ _) | (with_reducible refine Bw.drew ?_) | (with_reducible refine Bw.drewN ?_ _)))⟩
  · go_enter Tryz.func93, Tryz.ntmps93
    go_wp2
    go_ret
    exact ⟨rfl, by (repeat (first | with_reducible assumption | exact Bw.refl _ | (with_reducible refine Bw.setCell ?_ (by simp) _) | (with_reducible refine Bw.alloc ?_ _) | (with_reducible refine Bw.drew ?_) | (with_reducible refine Bw.drewN ?_ _)))⟩
theorem upto {f : Nat → Bool} {k : Nat} (h : ∀ j, j < k → f j = true) (hk : f k = true) : ∀ j, j < k + 1 → f j = true := fun j hj => by
  rcases Nat.lt_or_ge j k with h1 | h1
  · exact h j h1
  · obtain rfl : j = k := by omega
    exact hk
theorem quB_false {up : Bool} {ps : List Pk} {k : Nat} (hk : k < ps.length) (h : quO up ps k = false) : quB up ps = false := by simp [quB, allB_false hk h]
theorem quB_true {up : Bool} {ps : List Pk} (h : ∀ j, j < ps.length → quO up ps j = true) : quB up ps = decide (ps.length ≤ 6) := by simp [quB, allB_true h]
set_option maxRecDepth 100000 in
theorem c_l15Queue (up : Bool) (A : Option Addr) (n c : Nat) (ps : List Pk) (hf : fitP ps) {r : Bool} (hr : quB up ps = r) (w : World) (hm : n ≤ 9223372036854775807) (h : Rd w A n 5 (ps.map Pk.cells)) :
    Calls Tryz.prog 118 #[.slice A n c, .bool up] w fun e w' => e = .returned (.bool r) ∧ Bw w w' := by
  subst hr
  have hl := Lib.hid h.pklen
  have HF := Lib.hid hf
  clear hf
  go_enter Tryz.func118, Tryz.ntmps118
  go_wp2
  go_loopw [5] (fun i wr => ∃ k : Nat, k ≤ n ∧ i = .int .i64 k ∧ (∀ j, j < k → quO up ps j = true) ∧ Bw w wr) (fun i _ => n - (intOf i).toNat)
  case atStart => exact ⟨0, Nat.zero_le _, rfl, fun j hj => absurd hj (by omega), by (repeat (first | with_reducible assumption | exact Bw.refl _ | (with_reducible refine Bw.setCell ?_ (by simp) _) | (with_reducible refine Bw.alloc ?_ _) | (with_reducible refine Bw.drew ?_) | (with_reducible refine Bw.drewN ?_ _)))⟩
  case round =>
    obtain ⟨k, hk, rfl, hst, hbl⟩ := hrel
    have Hst := Lib.hid hst
    clear hst
    by_cases hlt : k < n
    · obtain ⟨b, off, rfl, hb, hc⟩ := (h.keep hbl).pks (by omega)
      have ⟨h0, h1, h2, h3, h4⟩ := hc k hlt
      clear hc
      have hd := Lib.hid (HF.out k (by rw [hl.out]; exact hlt))
      cases ho : pkO (pkAt ps k)
      · have HO := Lib.hid ho
        have HE := Lib.hid (quB_false (up := up) (ps := ps) (k := k) (by rw [hl.out]; exact hlt) (by simp [quO, ho]))
        clear ho
        go_wp2_with (go_at_call 150; refine (c_l4Good _ _ _ _ _ hd.out HO.out _).mono ?_; rintro e w1 ⟨rfl, hb1⟩)
        go_ret
        exact ⟨ret_bool HE.out.symm, hbl.trans hb1⟩
      · cases up
        · have HO := Lib.hid ho
          have HE := Lib.hid (show quO false ps k = true by simp [quO, ho])
          clear ho
          go_wp2_with (go_at_call 150; refine (c_l4Good _ _ _ _ _ hd.out HO.out _).mono ?_; rintro e w1 ⟨rfl, hb1⟩)
          go_roundw
          case rel => exact ⟨k + 1, by omega, by go_num, upto Hst.out HE.out, hbl.trans hb1⟩
          case measure => simp [intOf]; omega
        · cases h3' : ((pkAt ps k).k == 3)
          · have HO := Lib.hid ho
            have HE := Lib.hid (quB_false (up := true) (ps := ps) (k := k) (by rw [hl.out]; exact hlt) (by simp [quO, h3']))
            have h3n : ((pkAt ps k).k != 3) = true := by simp [bne, h3']
            clear ho h3'
            go_wp2_with (go_at_call 150; refine (c_l4Good _ _ _ _ _ hd.out HO.out _).mono ?_; rintro e w1 ⟨rfl, hb1⟩; have h0' := hb1.cellv h0)
            go_ret
            exact ⟨ret_bool HE.out.symm, hbl.trans hb1⟩
          · have HO := Lib.hid ho
            have HE := Lib.hid (show quO true ps k = true by simp [quO, ho, h3'])
            have h3n : ((pkAt ps k).k != 3) = false := by simp [bne, h3']
            clear ho h3'
            go_wp2_with (go_at_call 150; refine (c_l4Good _ _ _ _ _ hd.out HO.out _).mono ?_; rintro e w1 ⟨rfl, hb1⟩; have h0' := hb1.cellv h0)
            go_roundw
            case rel => exact ⟨k + 1, by omega, by go_num, upto Hst.out HE.out, hbl.trans hb1⟩
            case measure => simp [intOf]; omega
    · obtain rfl : k = n := by omega
      have HE := Lib.hid (quB_true (up := up) (ps := ps) (fun j hj => Hst.out j (by rw [hl.out] at hj; exact hj)))
      go_wp2
      go_ret
      refine ⟨ret_bool ?_, hbl⟩
      rw [HE.out, hl.out, Bool.eq_iff_iff]
      simp
      try omega
end Go.Proofs.YtpjljbhodnlhmaaGreatDoor

namespace Go.Proofs.YtpjljbhodnlhmaaGreatDoor
open Go.RowKit
def badQ (p : Pk) : Bool := !pkO p
def notRq (p : Pk) : Bool := p.k != 3
theorem idx_any (f : Pk → Bool) (ps : List Pk) : decide (0 ≤ idxPI f ps) = ps.any f := by
  rw [idxPI]
  split
  · rename_i h
    have h0 := List.findIdx_getElem (xs := ps) (p := f) (w := h)
    have h1 : ps.any f = true := List.any_eq_true.2 ⟨_, List.getElem_mem _, h0⟩
    simp [h1]
  · rename_i h
    have h1 : ps.any f = false := by
      rw [List.any_eq_false]
      intro x hx
      have h2 := mt List.findIdx_lt_length.2 h
      simp only [not_exists, not_and] at h2
      simpa using h2 x hx
    simp [h1]
theorem c_clBad (p : Pk) (hd : p.d.size ≤ maxLen) {r : Bool} (hr : badQ p = r) (w : World) : Calls Tryz.prog 128 #[.agg #[.int .i64 p.k, .int .i64 p.nu, .int .i64 p.tr, .int .i64 p.le, .string p.d]] w fun e w' => e = .returned (.bool r) ∧ Bw w w' := by
  subst hr
  cases ho : pkO p
  all_goals
    have HO := Lib.hid ho
    go_enter Tryz.func128, Tryz.ntmps128
    go_wp2_with (go_at_call 129; refine (c_IsValidPacket _ _ _ _ _ hd HO.out _).mono ?_; rintro e w1 ⟨rfl, hb1⟩)
    go_ret
    exact ⟨ret_bool (by simp [badQ, ho]), Bw.trans (by (repeat (first | with_reducible assumption | exact Bw.refl _ | (with_reducible refine Bw.setCell ?_ (by simp) _) | (with_reducible refine Bw.alloc ?_ _) | (with_reducible refine Bw.drew ?_) | (with_reducible refine Bw.drewN ?_ _)))) hb1⟩
theorem c_clReq (p : Pk) (hd : p.d.size ≤ maxLen) {r : Bool} (hr : notRq p = r) (w : World) : Calls Tryz.prog 91 #[.agg #[.int .i64 p.k, .int .i64 p.nu, .int .i64 p.tr, .int .i64 p.le, .string p.d]] w fun e w' => e = .returned (.bool r) ∧ Bw w w' := by
  subst hr
  have _ := hd
  go_enter Tryz.func91, Tryz.ntmps91
  go_wp2
  go_ret
  exact ⟨rfl, by (repeat (first | with_reducible assumption | exact Bw.refl _ | (with_reducible refine Bw.setCell ?_ (by simp) _) | (with_reducible refine Bw.alloc ?_ _) | (with_reducible refine Bw.drew ?_) | (with_reducible refine Bw.drewN ?_ _)))⟩
set_option maxRecDepth 100000 in
theorem c_IndexBad (A : Option Addr) (n c : Nat) (ps : List Pk) (hf : fitP ps) {mm : Int} (hmm : idxPI badQ ps = mm) (w : World) (hm : n ≤ 9223372036854775807) (h : Rd w A n 5 (ps.map Pk.cells)) :
    Calls Tryz.prog 130 #[.slice A n c, .func (.func 128) #[] #[]] w fun e w' => e = .returned (.int .i64 mm) ∧ Bw w w' := by
  subst hmm
  have hl := Lib.hid h.pklen
  have HF := Lib.hid hf
  clear hf
  go_enter Tryz.func130, Tryz.ntmps130
  go_wp2
  go_loopw [8] (fun i wr => ∃ k : Nat, k ≤ n ∧ i = .int .i64 k ∧ (∀ j (hj : j < k) (hj2 : j < ps.length), badQ ps[j] = false) ∧ Bw w wr) (fun i _ => n - (intOf i).toNat)
  case atStart => exact ⟨0, Nat.zero_le _, rfl, fun j hj => absurd hj (by omega), Bw.refl _⟩
  case round =>
    obtain ⟨k, hk, rfl, hst, hbl⟩ := hrel
    have Hst := Lib.hid hst
    clear hst
    by_cases hkn : k < n
    · obtain ⟨b, off, rfl, hb, hc⟩ := (h.keep hbl).pks (by omega)
      have ⟨h0, h1, h2, h3, h4⟩ := hc k hkn
      clear hc
      have hkt : k < ps.length := by rw [hl.out]; exact hkn
      have Ht := Lib.hid (pkAt_lt hkt)
      have Hs := Lib.hid (HF.out k hkt)
      cases hp : badQ (pkAt ps k)
      · have Hp := Lib.hid hp
        go_wp2_with (go_at_call 128; refine (c_clBad _ Hs.out Hp.out _).mono ?_; rintro e w1 ⟨rfl, hb1⟩)
        go_roundw
        case rel =>
          refine ⟨k + 1, by omega, by go_num, ?_, hbl.trans hb1⟩
          intro j hj hj2
          rcases Nat.lt_succ_iff_lt_or_eq.1 hj with h9 | h9
          · exact Hst.out j h9 hj2
          · subst h9; rw [← Ht.out]; exact hp
        case measure => simp [intOf]; omega
      · have Hp := Lib.hid hp
        go_wp2_with (go_at_call 128; refine (c_clBad _ Hs.out Hp.out _).mono ?_; rintro e w1 ⟨rfl, hb1⟩)
        go_ret
        have he := idxP_eq (p := badQ) (ts := ps) hkt (by rw [← Ht.out]; exact hp) (fun j hj => Hst.out j hj (by omega))
        exact ⟨ret_int (by simp [idxPI, he, hkt]), hbl.trans hb1⟩
    · go_wp2
      go_ret
      have he := idxP_none (p := badQ) (ts := ps) (fun j hj => Hst.out j (by rw [hl.out] at hj; omega) hj)
      exact ⟨ret_int (by simp [idxPI, he]), hbl⟩
theorem c_AnyBad (A : Option Addr) (n c : Nat) (ps : List Pk) (hf : fitP ps) {r : Bool} (hr : ps.any badQ = r) (w : World) (hm : n ≤ 9223372036854775807) (h : Rd w A n 5 (ps.map Pk.cells)) :
    Calls Tryz.prog 90 #[.slice A n c, .func (.func 128) #[] #[]] w fun e w' => e = .returned (.bool r) ∧ Bw w w' := by
  subst hr
  generalize hm : idxPI badQ ps = mm
  have HR := Lib.hid (show decide (0 ≤ mm) = ps.any badQ by rw [← hm, idx_any])
  have HM := Lib.hid hm
  clear hm
  go_enter Tryz.func90, Tryz.ntmps90
  go_wp2_with (go_at_call 130; refine (c_IndexBad _ _ _ ps hf HM.out _ hm h).mono ?_; rintro e w1 ⟨rfl, hb1⟩)
  go_ret
  exact ⟨ret_bool HR.out, hb1⟩
set_option maxRecDepth 100000 in
theorem c_IndexReq (A : Option Addr) (n c : Nat) (ps : List Pk) (hf : fitP ps) {mm : Int} (hmm : idxPI notRq ps = mm) (w : World) (hm : n ≤ 9223372036854775807) (h : Rd w A n 5 (ps.map Pk.cells)) :
    Calls Tryz.prog 130 #[.slice A n c, .func (.func 91) #[] #[]] w fun e w' => e = .returned (.int .i64 mm) ∧ Bw w w' := by
  subst hmm
  have hl := Lib.hid h.pklen
  have HF := Lib.hid hf
  clear hf
  go_enter Tryz.func130, Tryz.ntmps130
  go_wp2
  go_loopw [8] (fun i wr => ∃ k : Nat, k ≤ n ∧ i = .int .i64 k ∧ (∀ j (hj : j < k) (hj2 : j < ps.length), notRq ps[j] = false) ∧ Bw w wr) (fun i _ => n - (intOf i).toNat)
  case atStart => exact ⟨0, Nat.zero_le _, rfl, fun j hj => absurd hj (by omega), Bw.refl _⟩
  case round =>
    obtain ⟨k, hk, rfl, hst, hbl⟩ := hrel
    have Hst := Lib.hid hst
    clear hst
    by_cases hkn : k < n
    · obtain ⟨b, off, rfl, hb, hc⟩ := (h.keep hbl).pks (by omega)
      have ⟨h0, h1, h2, h3, h4⟩ := hc k hkn
      clear hc
      have hkt : k < ps.length := by rw [hl.out]; exact hkn
      have Ht := Lib.hid (pkAt_lt hkt)
      have Hs := Lib.hid (HF.out k hkt)
      cases hp : notRq (pkAt ps k)
      · have Hp := Lib.hid hp
        go_wp2_with (go_at_call 91; refine (c_clReq _ Hs.out Hp.out _).mono ?_; rintro e w1 ⟨rfl, hb1⟩)
        go_roundw
        case rel =>
          refine ⟨k + 1, by omega, by go_num, ?_, hbl.trans hb1⟩
          intro j hj hj2
          rcases Nat.lt_succ_iff_lt_or_eq.1 hj with h9 | h9
          · exact Hst.out j h9 hj2
          · subst h9; rw [← Ht.out]; exact hp
        case measure => simp [intOf]; omega
      · have Hp := Lib.hid hp
        go_wp2_with (go_at_call 91; refine (c_clReq _ Hs.out Hp.out _).mono ?_; rintro e w1 ⟨rfl, hb1⟩)
        go_ret
        have he := idxP_eq (p := notRq) (ts := ps) hkt (by rw [← Ht.out]; exact hp) (fun j hj => Hst.out j hj (by omega))
        exact ⟨ret_int (by simp [idxPI, he, hkt]), hbl.trans hb1⟩
    · go_wp2
      go_ret
      have he := idxP_none (p := notRq) (ts := ps) (fun j hj => Hst.out j (by rw [hl.out] at hj; omega) hj)
      exact ⟨ret_int (by simp [idxPI, he]), hbl⟩
theorem c_AnyReq (A : Option Addr) (n c : Nat) (ps : List Pk) (hf : fitP ps) {r : Bool} (hr : ps.any notRq = r) (w : World) (hm : n ≤ 9223372036854775807) (h : Rd w A n 5 (ps.map Pk.cells)) :
    Calls Tryz.prog 90 #[.slice A n c, .func (.func 91) #[] #[]] w fun e w' => e = .returned (.bool r) ∧ Bw w w' := by
  subst hr
  generalize hm : idxPI notRq ps = mm
  have HR := Lib.hid (show decide (0 ≤ mm) = ps.any notRq by rw [← hm, idx_any])
  have HM := Lib.hid hm
  clear hm
  go_enter Tryz.func90, Tryz.ntmps90
  go_wp2_with (go_at_call 130; refine (c_IndexReq _ _ _ ps hf HM.out _ hm h).mono ?_; rintro e w1 ⟨rfl, hb1⟩)
  go_ret
  exact ⟨ret_bool HR.out, hb1⟩
end Go.Proofs.YtpjljbhodnlhmaaGreatDoor

namespace Go.Proofs.YtpjljbhodnlhmaaGreatDoor
open Go.RowKit
theorem quB_any (ps : List Pk) : quB false ps = (decide (ps.length ≤ 6) && !ps.any badQ) := by
  have h1 : allB (quO false ps) ps.length = !ps.any badQ := by
    cases h : ps.any badQ
    · refine allB_true (fun j hj => ?_)
      rw [List.any_eq_false] at h
      have := h ps[j] (List.getElem_mem _)
      simp [badQ] at this
      simp [quO, pkAt_lt hj, this]
    · obtain ⟨x, hx, hb⟩ := List.any_eq_true.1 h
      obtain ⟨j, hj, rfl⟩ := List.getElem_of_mem hx
      refine allB_false hj ?_
      simp [badQ] at hb
      simp [quO, pkAt_lt hj, hb]
  rw [quB, h1, Bool.and_comm]
theorem quB_up (ps : List Pk) : quB true ps = (quB false ps && !ps.any notRq) := by
  have h1 : allB (quO true ps) ps.length = (allB (quO false ps) ps.length && !ps.any notRq) := by
    rw [Bool.eq_iff_iff, Bool.and_eq_true]
    constructor
    · intro h
      have he := allB_elim h
      refine ⟨allB_true (fun j hj => ?_), ?_⟩
      · have := he j hj
        simp [quO] at this ⊢
        exact this.1
      · rw [Bool.not_eq_true', List.any_eq_false]
        intro x hx
        obtain ⟨j, hj, rfl⟩ := List.getElem_of_mem hx
        have := he j hj
        simp [quO, pkAt_lt hj] at this
        simp [notRq, this.2]
    · rintro ⟨h, h2⟩
      have he := allB_elim h
      rw [Bool.not_eq_true', List.any_eq_false] at h2
      refine allB_true (fun j hj => ?_)
      have h3 := he j hj
      have h4 := h2 ps[j] (List.getElem_mem _)
      simp [quO] at h3
      simp [notRq] at h4
      simp [quO, pkAt_lt hj, h4]
      rw [← pkAt_lt hj]
      exact h3
  rw [quB, quB, h1]
  cases allB (quO false ps) ps.length <;> cases ps.any notRq <;> simp
theorem c_isQueue (A : Option Addr) (n c : Nat) (ps : List Pk) (hf : fitP ps) {r : Bool} (hr : quB false ps = r) (w : World) (hm : n ≤ 9223372036854775807) (h : Rd w A n 5 (ps.map Pk.cells)) :
    Calls Tryz.prog 89 #[.slice A n c] w fun e w' => e = .returned (.bool r) ∧ Bw w w' := by
  subst hr
  have hl := h.pklen
  have HQ := quB_any ps
  rw [hl] at HQ
  by_cases h6 : n ≤ 6
  · cases ha : ps.any badQ
    all_goals
      have HE := Lib.hid (show quB false ps = !ps.any badQ by rw [HQ]; simp [h6])
      have HA := Lib.hid ha
      clear HQ hl
      go_enter Tryz.func89, Tryz.ntmps89
      go_wp2_with (go_at_call 90; refine (c_AnyBad _ _ _ ps hf HA.out _ hm h).mono ?_; rintro e w1 ⟨rfl, hb1⟩)
      go_ret
      exact ⟨ret_bool (by rw [HE.out, HA.out]; rfl), hb1⟩
  · have HE := Lib.hid (show quB false ps = false by rw [HQ]; simp [h6])
    clear HQ hl
    go_enter Tryz.func89, Tryz.ntmps89
    go_wp2
    go_ret
    exact ⟨ret_bool HE.out.symm, Bw.refl _⟩
end Go.Proofs.YtpjljbhodnlhmaaGreatDoor

namespace Go.Proofs.YtpjljbhodnlhmaaGreatDoor
open Go.RowKit
def stepP (ps : List Int) (k : Nat) : Bool := if k = 0 then intAt ps 0 == -1 else inR (intAt ps k) 0 (k - 1)
def goodP (ps : List Int) : Bool := inR ps.length 2 8 && allB (stepP ps) ps.length
theorem goodP_len {ps : List Int} (h : inR ps.length 2 8 = false) : goodP ps = false := by simp [goodP, h]
theorem goodP_false {ps : List Int} {k : Nat} (hk : k < ps.length) (h : stepP ps k = false) : goodP ps = false := by simp [goodP, allB_false hk h]
theorem goodP_true {ps : List Int} (hl : inR ps.length 2 8 = true) (h : ∀ j, j < ps.length → stepP ps j = true) : goodP ps = true := by simp [goodP, hl, allB_true h]
theorem goodP_iff {ps : List Int} : goodP ps = true ↔ (2 ≤ ps.length ∧ ps.length ≤ 8) ∧ ∀ j, j < ps.length → stepP ps j = true := by
  constructor
  · intro h
    simp only [goodP, Bool.and_eq_true, inR_iff] at h
    exact ⟨by omega, allB_elim h.2⟩
  · rintro ⟨h1, h2⟩; exact goodP_true (inR_mk (by omega)) h2
theorem goodP_lt {ps : List Int} (h : goodP ps = true) {k : Nat} (hk : k < ps.length) : -1 ≤ intAt ps k ∧ intAt ps k < k := by
  have h1 := (goodP_iff.1 h).2 k hk
  unfold stepP at h1
  split at h1
  · rename_i h0; subst h0; simp only [beq_iff_eq] at h1; omega
  · have := inR_iff.1 h1; omega
theorem c_l6Good (A : Option Addr) (n c : Nat) (ps : List Int) {r : Bool} (hr : goodP ps = r) (w : World) (hn : n ≤ 9223372036854775807) (h : Rd w A n 1 (ps.map icell)) :
    Calls Tryz.prog 20 #[.agg #[.slice A n c]] w fun e w' => e = .returned (.bool r) ∧ Bw w w' := by
  subst hr
  have hl := Lib.hid h.ilen
  cases h28 : inR n 2 8
  · have HR := Lib.hid (goodP_len (ps := ps) (by rw [hl.out]; exact h28))
    go_enter Tryz.func20, Tryz.ntmps20
    go_wp2_with (go_at_call 53; refine (c_l1In _ _ _ h28 _).mono ?_; rintro e w1 ⟨rfl, rfl⟩)
    go_ret
    exact ⟨ret_bool HR.out.symm, by (repeat (first | with_reducible assumption | exact Bw.refl _ | (with_reducible refine Bw.setCell ?_ (by simp) _) | (with_reducible refine Bw.alloc ?_ _) | (with_reducible refine Bw.drew ?_) | (with_reducible refine Bw.drewN ?_ _)))⟩
  · have ⟨l2, l8⟩ := inR_iff.1 h28
    obtain ⟨b, off, rfl, hb, hc⟩ := h.ints (by omega)
    have Hc := Lib.hid hc
    have h0 : w.cell? ⟨b, off, none⟩ = some (.int .i64 (intAt ps 0)) := by simpa using hc 0 (by omega)
    clear hc
    by_cases hz : intAt ps 0 = -1
    · have hz' : (intAt ps 0 != -1) = false := by simpa using hz
      have HZ := Lib.hid hz
      clear hz
      go_enter Tryz.func20, Tryz.ntmps20
      go_wp2_with (go_at_call 53; refine (c_l1In _ _ _ h28 _).mono ?_; rintro e w1 ⟨rfl, rfl⟩)
      go_loopw [4] (fun i wr => ∃ k : Nat, 1 ≤ k ∧ k ≤ n ∧ i = .int .i64 k ∧ (∀ j, j < k → stepP ps j = true) ∧ Bw (w.alloc (.cells #[.slice (some ⟨b, off, none⟩) n c] 26)) wr) (fun i _ => n - (intOf i).toNat)
      case atStart => exact ⟨1, Nat.le_refl _, by omega, rfl, fun j hj => by (obtain rfl : j = 0 := by omega); simp [stepP, HZ.out], Bw.refl _⟩
      case round =>
        obtain ⟨k, hk1, hk, rfl, hn', hbl⟩ := hrel
        have Hn := Lib.hid hn'
        clear hn'
        have b0 := hbl.cellv (p := ⟨w.heap.size, 0, none⟩) (v := .slice (some ⟨b, off, none⟩) n c) (by go_simp)
        by_cases hlt : k < n
        · have q0 := hbl.cellv (p := ⟨b, off + k, none⟩) (v := .int .i64 (intAt ps k)) (by go_simp; exact Hc.out k hlt)
          cases hs : inR (intAt ps k) 0 ((k : Int) - 1)
          · go_wp2_with (go_at_call 53; refine (c_l1In _ _ _ hs _).mono ?_; rintro e w1 ⟨rfl, rfl⟩)
            go_ret
            exact ⟨ret_bool (goodP_false (k := k) (by rw [hl.out]; exact hlt) (by simp [stepP, show k ≠ 0 by omega, hs])).symm, Bw.trans (Bw.alloc (Bw.refl _) _) hbl⟩
          · go_wp2_with (go_at_call 53; refine (c_l1In _ _ _ hs _).mono ?_; rintro e w1 ⟨rfl, rfl⟩)
            go_roundw
            case rel => exact ⟨k + 1, by omega, by omega, by go_num, snoc_lt Hn.out (by simp [stepP, show k ≠ 0 by omega, hs]), hbl⟩
            case measure => simp [intOf]; omega
        · go_wp2
          go_ret
          exact ⟨ret_bool (goodP_true (by rw [hl.out]; exact h28) (by rw [hl.out]; intro j hj; exact Hn.out j (by omega))).symm, Bw.trans (Bw.alloc (Bw.refl _) _) hbl⟩
    · have hz' : (intAt ps 0 != -1) = true := by simpa using hz
      have HR := Lib.hid (goodP_false (ps := ps) (k := 0) (by rw [hl.out]; omega) (by simp [stepP, hz]))
      clear hz
      go_enter Tryz.func20, Tryz.ntmps20
      go_wp2_with (go_at_call 53; refine (c_l1In _ _ _ h28 _).mono ?_; rintro e w1 ⟨rfl, rfl⟩)
      go_ret
      exact ⟨ret_bool HR.out.symm, by (repeat (first | with_reducible assumption | exact Bw.refl _ | (with_reducible refine Bw.setCell ?_ (by simp) _) | (with_reducible refine Bw.alloc ?_ _) | (with_reducible refine Bw.drew ?_) | (with_reducible refine Bw.drewN ?_ _)))⟩
theorem c_IsValidTree (A : Option Addr) (n c : Nat) (ps : List Int) {r : Bool} (hr : goodP ps = r) (w : World) (hn : n ≤ 9223372036854775807) (h : Rd w A n 1 (ps.map icell)) :
    Calls Tryz.prog 24 #[.agg #[.slice A n c]] w fun e w' => e = .returned (.bool r) ∧ Bw w w' := by
  subst hr
  have hl := Lib.hid h.ilen
  go_enter Tryz.func24, Tryz.ntmps24
  go_wp2
  go_loopw [8] (fun i wr => ∃ k : Nat, k ≤ n ∧ i = .int .i64 k ∧ (∀ j, j < k → stepP ps j = true) ∧ Bw (w.alloc (.cells #[.slice A n c] 26)) wr) (fun i _ => n - (intOf i).toNat)
  case atStart => exact ⟨0, Nat.zero_le _, rfl, fun j hj => absurd hj (by omega), Bw.refl _⟩
  case round =>
    obtain ⟨k, hk, rfl, hn', hbl⟩ := hrel
    have Hn := Lib.hid hn'
    clear hn'
    by_cases hlt : k < n
    · obtain ⟨b, off, rfl, hb, hc⟩ := (h.keep (Bw.trans (Bw.alloc (Bw.refl _) _) hbl)).ints (by omega)
      have q0 := hc k hlt
      clear hc
      by_cases hk0 : k = 0
      · have d0 : ((k : Int) == 0) = true := by simpa using hk0
        have d1 : ¬ (0 : Int) < (k : Int) := by omega
        have HK := Lib.hid hk0
        clear hk0
        by_cases hz : intAt ps k = -1
        · have hz' : (intAt ps k != -1) = false := by simpa using hz
          have HS := Lib.hid (show stepP ps k = true by rw [HK.out] at hz ⊢; simp [stepP, hz])
          clear hz
          go_wp2
          go_roundw
          case rel => exact ⟨k + 1, by omega, by go_num, snoc_lt Hn.out HS.out, hbl⟩
          case measure => simp [intOf]; omega
        · have hz' : (intAt ps k != -1) = true := by simpa using hz
          have HS := Lib.hid (show stepP ps k = false by rw [HK.out] at hz ⊢; simp [stepP, hz])
          clear hz
          go_wp2
          go_ret
          exact ⟨ret_bool (goodP_false (by rw [hl.out]; exact hlt) HS.out).symm, Bw.trans (Bw.alloc (Bw.refl _) _) hbl⟩
      · have d0 : ((k : Int) == 0) = false := by simpa using hk0
        have d1 : decide ((0 : Int) < (k : Int)) = true := by simp; omega
        cases hs : inR (intAt ps k) 0 ((k : Int) - 1)
        · have HS := Lib.hid (show stepP ps k = false by simp [stepP, hk0, hs])
          go_wp2_with (go_at_call 54; refine (c_within _ _ _ hs _).mono ?_; rintro e w1 ⟨rfl, rfl⟩)
          go_ret
          exact ⟨ret_bool (goodP_false (by rw [hl.out]; exact hlt) HS.out).symm, Bw.trans (Bw.alloc (Bw.refl _) _) hbl⟩
        · have HS := Lib.hid (show stepP ps k = true by simp [stepP, hk0, hs])
          go_wp2_with (go_at_call 54; refine (c_within _ _ _ hs _).mono ?_; rintro e w1 ⟨rfl, rfl⟩)
          go_roundw
          case rel => exact ⟨k + 1, by omega, by go_num, snoc_lt Hn.out HS.out, hbl⟩
          case measure => simp [intOf]; omega
    · have b0 := hbl.cellv (p := ⟨w.heap.size, 0, none⟩) (v := .slice A n c) (by go_simp)
      cases h28 : inR n 2 8
      · go_wp2_with (go_at_call 54; refine (c_within _ _ _ h28 _).mono ?_; rintro e w1 ⟨rfl, rfl⟩)
        go_ret
        exact ⟨ret_bool (goodP_len (by rw [hl.out]; exact h28)).symm, Bw.trans (Bw.alloc (Bw.refl _) _) hbl⟩
      · go_wp2_with (go_at_call 54; refine (c_within _ _ _ h28 _).mono ?_; rintro e w1 ⟨rfl, rfl⟩)
        go_ret
        exact ⟨ret_bool (goodP_true (by rw [hl.out]; exact h28) (by rw [hl.out]; intro j hj; exact Hn.out j (by omega))).symm, Bw.trans (Bw.alloc (Bw.refl _) _) hbl⟩
end Go.Proofs.YtpjljbhodnlhmaaGreatDoor

namespace Go.Proofs.YtpjljbhodnlhmaaGreatDoor
open Go.RowKit
def childTo (ps : List Int) (x : Int) (k : Nat) : List Int := ((List.range k).filter (fun (i : Nat) => intAt ps i == x)).map (fun (i : Nat) => (i : Int))
theorem childTo_yes {ps : List Int} {x : Int} {k : Nat} (h : intAt ps k = x) : childTo ps x (k + 1) = childTo ps x k ++ [(k : Int)] := by
  simp [childTo, List.range_succ, h]
theorem childTo_no {ps : List Int} {x : Int} {k : Nat} (h : ¬ intAt ps k = x) : childTo ps x (k + 1) = childTo ps x k := by
  simp [childTo, List.range_succ, h]
theorem childTo_len (ps : List Int) (x : Int) (k : Nat) : (childTo ps x k).length ≤ k := by
  have := List.length_filter_le (fun (i : Nat) => intAt ps i == x) (List.range k)
  simpa [childTo] using this
theorem childTo_one {ps : List Int} {x : Int} (hg : goodP ps = true) (h0 : 0 ≤ x) : childTo ps x 1 = [] := by
  have h2 := (goodP_iff.1 hg).1.1
  have := goodP_lt hg (k := 0) (by omega)
  rw [childTo_no (by have := this.2; omega)]; rfl
set_option maxRecDepth 100000 in
theorem c_l6Children (A : Option Addr) (n c : Nat) (ps : List Int) (x : Int) (hg : goodP ps = true) (x0 : 0 ≤ x) (w : World) (h : Rd w A n 1 (ps.map icell)) :
    Calls Tryz.prog 151 #[.agg #[.slice A n c], .int .i64 x] w fun e w' => (∃ A' c', e = .returned (.slice A' (childTo ps x n).length c') ∧ Row w' w.heap.size 3 1 icell A' (childTo ps x n).length c' (childTo ps x n)) ∧ Bw w w' := by
  have hl := Lib.hid h.ilen
  have hn2 : 2 ≤ n := by rw [← hl.out]; exact (goodP_iff.1 hg).1.1
  have hn : n ≤ 8 := by rw [← hl.out]; exact (goodP_iff.1 hg).1.2
  have HO := Lib.hid (childTo_one hg x0)
  have hrw0 := Row.empty (T := Int) (w.alloc (.cells #[.slice A n c] 26)) (w.heap.size + 1) 3 1 icell (by simp)
  simp only [World.size_alloc] at hrw0
  clear hg
  go_enter Tryz.func151, Tryz.ntmps151
  go_wp2
  go_loopw [5, 6] (fun ov i wr => ∃ k : Nat, 1 ≤ k ∧ k ≤ n ∧ i = .int .i64 k ∧ (∃ A c, ov = .slice A (childTo ps x k).length c ∧ Row wr (w.heap.size + 1) 3 1 icell A (childTo ps x k).length c (childTo ps x k)) ∧ Bw (w.alloc (.cells #[.slice A n c] 26)) wr) (fun _ i _ => n - (intOf i).toNat)
  case atStart => exact ⟨1, Nat.le_refl _, by omega, rfl, by rw [HO.out]; exact ⟨_, _, rfl, hrw0⟩, (Bw.refl _).alloc _⟩
  case round =>
    obtain ⟨k, hk1, hk, rfl, ⟨A', c', rfl, hrow⟩, hbl⟩ := hrel
    have hbw : Bw w (wr) := Bw.trans (Bw.alloc (Bw.refl _) _) hbl
    have d0 := hbl.cellv (p := ⟨w.heap.size, 0, none⟩) (v := .slice A n c) (by go_simp)
    have hlk := childTo_len ps x k
    by_cases hlt : k < n
    · obtain ⟨b, off, rfl, hb, hc⟩ := (h.keep hbw).ints (by omega)
      have q0 := hc k hlt
      clear hc
      generalize hL : childTo ps x k = L at hrow hlk
      have HL := Lib.hid hL
      clear hL
      by_cases he : intAt ps k = x
      · have he' : (intAt ps k == x) = true := by simpa using he
        have HN := Lib.hid (show childTo ps x (k + 1) = L ++ [(k : Int)] by rw [childTo_yes he, HL.out])
        have hs0 : w.heap.size + 1 ≤ wr.heap.size := by have := hbl.size; simpa using this
        have lt' := hrow.lt
        clear he
        go_wp2_with ((at_builtin; refine append_int rfl _ _ rfl _ _ _ _ rfl hrow _ _ rfl rfl ?_ ?_ ?_; omega; exact hs0; intro A2 c2 w2 hrow2 hg2 hmv2))
        go_roundw
        case rel => exact ⟨k + 1, by omega, by omega, by go_num, by rw [HN.out]; exact ⟨A2, c2, by simp, by simpa using hrow2⟩, Bw.ofRow hbl hg2 (fun x hx => by have := (lt' x hx).1; simpa using this)⟩
        case measure => simp [intOf]; omega
      · have he' : (intAt ps k == x) = false := by simpa using he
        have HN := Lib.hid (show childTo ps x (k + 1) = L by rw [childTo_no he, HL.out])
        clear he
        go_wp2
        go_roundw
        case rel => exact ⟨k + 1, by omega, by omega, by go_num, by rw [HN.out]; exact ⟨_, _, rfl, hrow⟩, hbl⟩
        case measure => simp [intOf]; omega
    · go_wp2
      go_ret
      obtain rfl : k = n := by omega
      exact ⟨⟨_, _, rfl, hrow.mono (by omega)⟩, hbw⟩
set_option maxRecDepth 100000 in
theorem c_isLeaf (A : Option Addr) (n c : Nat) (ps : List Int) (x : Int) {r : Bool} (hr : hasI ps x = r) (w : World) (hn : n ≤ 9223372036854775807) (h : Rd w A n 1 (ps.map icell)) :
    Calls Tryz.prog 94 #[.agg #[.slice A n c], .int .i64 x] w fun e w' => e = .returned (.bool (!r)) ∧ Bw w w' := by
  have hbx := (Bw.refl w).alloc (.cells #[.slice A n c] 26)
  go_enter Tryz.func94, Tryz.ntmps94
  go_wp2_with (go_at_call 131; refine (c_Contains _ _ _ ps x hr _ hn (h.keep hbx)).mono ?_; rintro e _ ⟨rfl, rfl⟩)
  go_ret
  exact ⟨rfl, hbx⟩
theorem child_none {ps : List Int} {x : Int} : (childTo ps x ps.length).length = 0 ↔ hasI ps x = false := by
  constructor
  · intro h
    refine hasI_none fun j hj e => ?_
    have hm : (j : Int) ∈ childTo ps x ps.length := by
      simp only [childTo, List.mem_map, List.mem_filter, List.mem_range]
      exact ⟨j, ⟨hj, by simpa using e⟩, rfl⟩
    rw [List.eq_nil_of_length_eq_zero h] at hm
    cases hm
  · intro h
    rw [List.length_eq_zero_iff]
    simp only [childTo, List.map_eq_nil_iff, List.filter_eq_nil_iff, List.mem_range]
    intro j hj e
    rw [hasI_at hj (by simpa using e)] at h
    cases h
theorem c_l15Leaf (A : Option Addr) (n c : Nat) (ps : List Int) (k : Nat) (hg : goodP ps = true) (w : World) (h : Rd w A n 1 (ps.map icell)) :
    Calls Tryz.prog 119 #[.agg #[.slice A n c], .int .i64 (k : Int)] w fun e w' => e = .returned (.bool (decide (0 < k) && !hasI ps (k : Int))) ∧ Bw w w' := by
  have hbx := (Bw.refl w).alloc (.cells #[.slice A n c] 26)
  have hl := h.ilen
  have hq : (decide ((childTo ps (k : Int) n).length = 0)) = !hasI ps (k : Int) := by
    rw [← hl, Bool.eq_iff_iff]
    simp only [decide_eq_true_eq, Bool.not_eq_true']
    exact child_none
  have HQ := Lib.hid hq
  clear hl hq
  rcases Nat.eq_zero_or_pos k with rfl | hk
  · go_enter Tryz.func119, Tryz.ntmps119
    go_wp2
    go_ret
    exact ⟨ret_bool (by simp), hbx⟩
  · have HE := Lib.hid (show (decide (0 < k) && !hasI ps (k : Int)) = decide ((childTo ps (k : Int) n).length = 0) by rw [HQ.out]; simp [hk])
    generalize hL : childTo ps (k : Int) n = L at HE
    have HL := Lib.hid hL
    clear hL
    cases hz : (((L.length : Nat) : Int) == 0)
    all_goals
      have HZ := Lib.hid hz
      go_enter Tryz.func119, Tryz.ntmps119
      go_wp2_with (go_at_call 151; refine (c_l6Children _ _ _ ps (k : Int) hg (by omega) _ (h.keep hbx)).mono ?_; rw [HL.out]; rintro e w1 ⟨⟨A1, c1, rfl, row1⟩, hb1⟩)
      go_ret
      refine ⟨ret_bool ?_, hbx.trans hb1⟩
      rw [HE.out]
      have := HZ.out
      simp at this ⊢
      omega
end Go.Proofs.YtpjljbhodnlhmaaGreatDoor

namespace Go.Proofs.YtpjljbhodnlhmaaGreatDoor
open Go.RowKit
def reB (r : ReM) : Bool := rcB r.st r.ck r.t r.ts r.rs
/-- The reference's test. -/
def nodeS (k : Nat) (leaf : Bool) (sck : Int) (e : ElM) (r : ReM) (dq uq : List Pk) : Bool :=
  elB e.ck e.es && (reB r && (quB false dq && (quB true uq &&
    (if k = 0 then (zeE e.ck e.es.length && ((!r.st && r.ck == 0) && decide (dq.length + uq.length = 0)))
     else if leaf then (zeE e.ck e.es.length && r.ck == sck) else ((!r.st && r.ck == 0) && e.ck == sck)))))
/-- The program's test. -/
def nodeI (k : Nat) (leaf : Bool) (sck : Int) (e : ElM) (r : ReM) (dq uq : List Pk) : Bool :=
  quB false dq && (quB false uq && (!uq.any notRq &&
    (if k = 0 then (zeE e.ck e.es.length && (zeR r.st r.ck r.t r.ts.length r.rs.length && (decide (dq.length = 0) && decide (uq.length = 0))))
     else if leaf then (zeE e.ck e.es.length && (reB r && r.ck == sck)) else (elB e.ck e.es && (e.ck == sck && zeR r.st r.ck r.t r.ts.length r.rs.length)))))
theorem zeE_el {e : ElM} (h : zeE e.ck e.es.length = true) : elB e.ck e.es = true := by
  simp only [zeE, Bool.and_eq_true, beq_iff_eq, decide_eq_true_eq] at h
  obtain ⟨h1, h2⟩ := h
  rw [List.length_eq_zero_iff] at h2
  rw [h1, h2]
  decide
theorem zeR_re (r : ReM) : zeR r.st r.ck r.t r.ts.length r.rs.length = (reB r && (!r.st && r.ck == 0)) := by
  rw [Bool.eq_iff_iff]
  simp only [zeR, reB, rcB, Bool.and_eq_true, Bool.not_eq_true', beq_iff_eq, decide_eq_true_eq, inR]
  constructor
  · rintro ⟨h1, h2, h3, h4, h5⟩
    simp [h1, h2, h3, h4, h5]
  · rintro ⟨⟨h0, h1⟩, h2, h3⟩
    rw [h2] at h1
    simp at h1
    simp [h1, h2, h3]
theorem node_same (k : Nat) (leaf : Bool) (sck : Int) (e : ElM) (r : ReM) (dq uq : List Pk) : nodeI k leaf sck e r dq uq = nodeS k leaf sck e r dq uq := by
  unfold nodeI nodeS
  rw [quB_up, zeR_re]
  have hz : zeE e.ck e.es.length = (elB e.ck e.es && zeE e.ck e.es.length) := by
    cases h : zeE e.ck e.es.length
    · simp
    · simp [zeE_el h]
  have hd : decide (dq.length + uq.length = 0) = (decide (dq.length = 0) && decide (uq.length = 0)) := by
    rw [Bool.eq_iff_iff]; simp
  rw [hz, hd]
  generalize elB e.ck e.es = a
  generalize zeE e.ck e.es.length = b
  generalize reB r = c
  generalize (!r.st && r.ck == 0) = d
  generalize quB false dq = f
  generalize quB false uq = g
  generalize (uq.any notRq) = i
  generalize decide (dq.length = 0) = j
  generalize decide (uq.length = 0) = l
  split
  · cases a <;> cases b <;> cases c <;> cases d <;> cases f <;> cases g <;> cases i <;> simp
  · generalize (r.ck == sck) = m
    generalize (e.ck == sck) = o
    cases leaf <;> cases a <;> cases b <;> cases c <;> cases d <;> cases f <;> cases g <;> cases i <;> simp
end Go.Proofs.YtpjljbhodnlhmaaGreatDoor

namespace Go.Proofs.YtpjljbhodnlhmaaGreatDoor
open Go.RowKit
theorem Rd.els {w : World} {A : Option Addr} {n : Nat} {xs : List ElM} (h : Rd w A n 2 (xs.map ElM.cells)) (hn : 0 < n) :
    ∃ b off, A = some ⟨b, off, none⟩ ∧ b < w.heap.size ∧ ∀ k, k < n → w.cell? ⟨b, off + k * 2, none⟩ = some (.int .i64 (elAt xs k).ck) ∧ w.cell? ⟨b, off + k * 2 + 1, none⟩ = some (.slice (elAt xs k).A (elAt xs k).n (elAt xs k).c) := by
  obtain ⟨b, off, hA, hb, hc⟩ := h.at_ hn
  refine ⟨b, off, hA, hb, fun k hk => ?_⟩
  have hl : xs.length = n := by simpa using h.len
  have hk' : k < xs.length := by omega
  have hx : (xs.map ElM.cells)[k]? = some (elAt xs k).cells := by simp [elAt, hk']
  exact ⟨by simpa using hc k 0 _ _ hx rfl, by simpa using hc k 1 _ _ hx rfl⟩
theorem Rd.res {w : World} {A : Option Addr} {n : Nat} {xs : List ReM} (h : Rd w A n 5 (xs.map ReM.cells)) (hn : 0 < n) :
    ∃ b off, A = some ⟨b, off, none⟩ ∧ b < w.heap.size ∧ ∀ k, k < n → w.cell? ⟨b, off + k * 5, none⟩ = some (.bool (reAt xs k).st) ∧ w.cell? ⟨b, off + k * 5 + 1, none⟩ = some (.int .i64 (reAt xs k).ck) ∧ w.cell? ⟨b, off + k * 5 + 2, none⟩ = some (.int .i64 (reAt xs k).t) ∧ w.cell? ⟨b, off + k * 5 + 3, none⟩ = some (.slice (reAt xs k).A (reAt xs k).n (reAt xs k).c) ∧ w.cell? ⟨b, off + k * 5 + 4, none⟩ = some (.slice (reAt xs k).B (reAt xs k).m (reAt xs k).d) := by
  obtain ⟨b, off, hA, hb, hc⟩ := h.at_ hn
  refine ⟨b, off, hA, hb, fun k hk => ?_⟩
  have hl : xs.length = n := by simpa using h.len
  have hk' : k < xs.length := by omega
  have hx : (xs.map ReM.cells)[k]? = some (reAt xs k).cells := by simp [reAt, hk']
  exact ⟨by simpa using hc k 0 _ _ hx rfl, by simpa using hc k 1 _ _ hx rfl, by simpa using hc k 2 _ _ hx rfl, by simpa using hc k 3 _ _ hx rfl, by simpa using hc k 4 _ _ hx rfl⟩
theorem Rd.qus {w : World} {A : Option Addr} {n : Nat} {xs : List QuM} (h : Rd w A n 1 (xs.map QuM.cells)) (hn : 0 < n) :
    ∃ b off, A = some ⟨b, off, none⟩ ∧ b < w.heap.size ∧ ∀ k, k < n → w.cell? ⟨b, off + k, none⟩ = some (.slice (quAt xs k).A (quAt xs k).n (quAt xs k).c) := by
  obtain ⟨b, off, hA, hb, hc⟩ := h.at_ hn
  refine ⟨b, off, hA, hb, fun k hk => ?_⟩
  have hl : xs.length = n := by simpa using h.len
  have hk' : k < xs.length := by omega
  have hx : (xs.map QuM.cells)[k]? = some (quAt xs k).cells := by simp [quAt, hk']
  simpa using hc k 0 _ _ hx rfl
end Go.Proofs.YtpjljbhodnlhmaaGreatDoor
