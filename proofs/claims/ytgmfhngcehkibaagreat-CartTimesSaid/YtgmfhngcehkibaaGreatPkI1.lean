/- Rows of one's own, and rows of numbers. Carts that come in; what valid and open leave: an error as a panic, or whether the river has a truth, or the yard. The reference of the carts: check, timely, times. A cart that comes in: what its value is, and that it reads as a cart. What the law RiverBears asks, in plain Lean: the days on which a river bears a boat, until when, and the last one. When a wagon is in time, in plain Lean: day for day; a boat that draws less. The reference of the carts: plans: all right plans that go on from one, in order. CartTimes: a wagon is in time as its days are; a boat that draws less is in time no less. CartTimes: the step from the walk to the row, the row. Condition: what the statements say. -/
import Derived.Test.YtgmfhngcehkibaaGreatPkB22
import Derived.Orders
import Derived.Below
import Derived.Test.YtgmfhngcehkibaaGreatProg
import Derived.WalkKit
import Derived.WalkSpells
import Derived.WalkLawsBesides
import Derived.Lib.Hide
import Derived.OneCell
import Derived.Laws.AppendOwn
import Derived.Laws.OwnMore
import Derived.Laws.Bits64b
import Derived.Deep.LoopGhost
import Derived.Deep.QuietTactic
import Derived.BigQuiet
import Derived.RegionTactic
import Derived.BigRegion
import Derived.Deep.DeepCutAuto
import Derived.RangeFuncNested
import Derived.RangeFuncBound
import Derived.RangeFuncCalls
import Derived.RangeFuncLeaves
import Derived.RangeFuncWrites
import Derived.Shelf.Abstract
import Derived.OwnWalkIn
import Derived.TacticsInMore
import Derived.LoopNIn
import Derived.LoopIn
import Derived.OrdersIn
import Derived.TacticsIn
import Derived.ControlIn
import Derived.Scope
import Derived.Laws.BitsAllLaws
import Derived.WalkSmall
import Derived.Laws.EntriesVeiled
import Derived.Maps.Own
import Derived.Maps.OwnSet
import Derived.Maps.Range
import Derived.Maps.AppendAt
import Derived.OwnWalk
import Derived.DeepKeys4
import Derived.Outline
import Derived.Deep.CutBlock
import Derived.BigGuard
import Derived.Tactics
import Derived.Tactics2
import Derived.Defers
import Derived.Recover
import Derived.Laws.Pointers
import Derived.Laws.MakeOwn
import Derived.Laws.CopyOwn
import Derived.Deep.AppendLies
import Derived.Laws.CopyRow
import Derived.ProofKit
import Derived.LaidMore
import Derived.OpenShut
import Derived.Stop.Joined
import Derived.Deep.Slices
import Derived.Carry
import Derived.Test.YtgmfhngcehkibaaGreatRows
import Derived.ChangeOld
set_option maxRecDepth 100000
set_option maxHeartbeats 6400000
namespace Go.Proofs.YtgmfhngcehkibaaGreat
open Go.RowKit Go.Hav
theorem flat_one {α : Type} (e : α → Value) (L : List α) : L.flatMap (fun x => [e x]) = L.map e := by
 induction L with
 | nil => rfl
 | cons x L ih => rw [List.flatMap_cons, ih]; rfl
def Rows {α : Type} (e : α → Value) (t : TypeId) (w : World) (xs : List Value) (Ls : List (List α)) : Prop :=
 xs.length = Ls.length ∧ ∀ (j : Nat) (L : List α), Ls[j]? = some L → ∃ A c, L.length ≤ c ∧ xs[j]? = some (Value.slice A L.length c) ∧ RowN e t w A L
end Go.Proofs.YtgmfhngcehkibaaGreat
namespace Go.Proofs.YtgmfhngcehkibaaGreat
open Go.RowKit Go.Hav Go.Shelf Go.Sq
attribute [local go_sem] Oper.semAt_some
theorem RvIn.below {w w' : World} {B : Nat} {fa la : Option Addr} {fl ll : Nat} {r : IRiv} (h : RvIn w B fa fl la ll r) (hb : Below B w w') : RvIn w' B fa fl la ll r :=
 { h with hfr := h.hfr.below hb, hlk := h.hlk.below hb }
section
variable {fa la wa ta : Option Addr} {fl fc ll lc wn wc tn tc : Nat} {c : ICart}
variable {w w' : World} {B : Nat}
theorem CtIn.below (h : CtIn w B fa fl la ll wa wn ta tn c) (hb : Below B w w') : CtIn w' B fa fl la ll wa wn ta tn c := { h with riv := h.riv.below hb, hwg := h.hwg.below hb, hlt := h.hlt.below hb }
end
section
variable {fa la wa ta : Option Addr} {fl fc ll lc wn wc tn tc : Nat} {c : ICart}
variable {w : World}
theorem setN_bd (f : Nat → Bool) {n : Nat} (h : n ≤ 61) : setN f n < 4611686018427387904 := by
 have h1 := setN_lt f n; have h2 := Nat.pow_le_pow_right (n := 2) (by omega) h
 omega
end
end Go.Proofs.YtgmfhngcehkibaaGreat
namespace Go.Proofs.YtgmfhngcehkibaaGreat
open Go.RowKit Go.Hav Go.ChangeShapes Go.WideShapes Go.Deep
theorem list_of {α : Type} (P : Nat → α → Prop) : ∀ n : Nat, (∀ i, i < n → ∃ x, P i x) → ∃ l : List α, l.length = n ∧ ∀ i x, l[i]? = some x → P i x := by
 intro n
 induction n with
 | zero => intro _; exact ⟨[], rfl, fun i x h => by simp at h⟩
 | succ n ih =>
  intro h
  obtain ⟨l, hl, hp⟩ := ih (fun i hi => h i (by omega))
  obtain ⟨x, hx⟩ := h n (by omega)
  refine ⟨l ++ [x], by simp [hl], fun i y hy => ?_⟩
  rcases Nat.lt_or_ge i n with hi | hi
  ·rw [List.getElem?_append_left (by omega)] at hy
   exact hp i y hy
  ·rw [List.getElem?_append_right (by omega)] at hy
   by_cases e : i = n
   ·subst e; rw [hl, Nat.sub_self] at hy; obtain rfl : x = y := by simpa using hy
    exact hx
   ·rw [hl, List.getElem?_eq_none (by simp; omega)] at hy
    cases hy
section
variable {H : Type} {enc : TypeId × Value → H} {W : World} {base : Nat} {spare : Nat → Bool} {held : Bool}
theorem open_rows {t e : TypeId} {fuel sz : Nat} {c : Value} {x : DataW H × List MemPlace} (ht : Tryz.prog.underlying t = some (.slice e)) (hc : Tryz.prog.cellsOf e = sz) (h0 : 0 < sz) (h : DataW.trod enc Tryz.prog W base spare held fuel t [c] = some x) :
  ∃ (A : Option Addr) (len cap : Nat), c = .slice A len cap ∧ len ≤ maxLen ∧ ∀ i, i < len → ∃ (b off n : Nat) (cs : List Value) (y : DataW H × List MemPlace), A = some ⟨b, off, none⟩ ∧ cs.length = sz ∧ (∀ j v, cs[j]? = some v → W.cell? ⟨b, off + (i * sz + j), none⟩ = some v) ∧ DataW.trod enc Tryz.prog W base spare held n e cs = some y := by
 rcases open_slice ht h with ⟨e1, _⟩ | ⟨a, len, cap, m, n, D, Pl, e1, _, hl, hm, hmm, _, hi⟩
 ·obtain rfl : c = .slice none 0 0 := by simpa using e1
  exact ⟨none, 0, 0, rfl, Nat.zero_le _, fun i hi => by omega⟩
 ·obtain rfl : c = .slice (some a) len cap := by simpa using e1
  refine ⟨some a, len, cap, rfl, Nat.le_trans hl hm, fun i hlt => ?_⟩
  obtain ⟨cs, hcs, ht⟩ := hi i (by rw [hmm]; split <;> omega)
  rw [hc] at hcs; obtain ⟨_, hlen, hat⟩ := World.cells?_some hcs
  -- the address has no spot
  obtain ⟨cs0, hcs0, _⟩ := hi 0 (by rw [hmm]; split <;> omega)
  rw [hc, Nat.zero_mul] at hcs0; obtain ⟨_, hlen0, hat0⟩ := World.cells?_some hcs0; have h00 := hat0 0 h0; rw [List.getElem?_eq_getElem (by omega)] at h00
  have hs : a.spot = none := by
   have := World.cell?_spot h00
   simpa [Addr.add] using this
  obtain ⟨b, off, spot⟩ := a; simp only at hs; subst hs
  refine ⟨b, off, n, cs, _, rfl, hlen, fun j v hv => ?_, ht⟩
  have hj : j < sz := by rw [← hlen]; exact (List.getElem?_eq_some_iff.1 hv).1
  have h1 := hat j hj; rw [hv] at h1; rw [← h1]
  congr 1
  unfold Addr.add
  split <;> split <;> simp_all <;> omega
theorem one_int {n : Nat} {cs : List Value} {y : DataW H × List MemPlace} (h : DataW.trod enc Tryz.prog W base spare held n 3 cs = some y) : ∃ a, cs = [.int .i64 a] := by
 obtain ⟨a, e, _⟩ := DataW.trod_int Tryz.underlying3 h; exact ⟨a, e⟩
theorem two_ints {n : Nat} {cs : List Value} {y : DataW H × List MemPlace} (h : DataW.trod enc Tryz.prog W base spare held n 23 cs = some y) : ∃ a b, cs = [.int .i64 a, .int .i64 b] := by
 have c3 : Tryz.prog.cellsOf 3 = 1 := by kernel_rfl
 have c23 : Tryz.prog.cellsOf 23 = 2 := by kernel_rfl
 obtain ⟨xs, m, _, _, hlen, hx, hf⟩ := DataW.trod_struct Tryz.underlying23 h; rw [c23] at hlen
 match cs, hlen with
 | [u, v], _ =>
  match xs, hx with
  | [x0, x1], _ =>
   obtain ⟨a, ha⟩ := one_int (hf 0 _ rfl); obtain ⟨b, hb⟩ := one_int (hf 1 _ rfl)
   simp [c3] at ha hb
   exact ⟨a, b, by rw [ha, hb]⟩
theorem fr_cells {n : Nat} {cs : List Value} {y : DataW H × List MemPlace} (h : DataW.trod enc Tryz.prog W base spare held n 59 cs = some y) : ∃ c : IFr, cs = frI c := by
 have c23 : Tryz.prog.cellsOf 23 = 2 := by kernel_rfl
 have c59 : Tryz.prog.cellsOf 59 = 4 := by kernel_rfl
 obtain ⟨xs, m, _, _, hlen, hx, hf⟩ := DataW.trod_struct Tryz.underlying59 h; rw [c59] at hlen
 match cs, hlen with
 | [u0, u1, u2, u3], _ =>
  match xs, hx with
  | [x0, x1], _ =>
   obtain ⟨c, d, hcd⟩ := two_ints (hf 0 _ rfl); obtain ⟨a, b, hab⟩ := two_ints (hf 1 _ rfl)
   simp [c23] at hab hcd
   exact ⟨⟨⟨c, d⟩, ⟨a, b⟩⟩, by simp [frI, hab, hcd]⟩
theorem lk_cells {n : Nat} {cs : List Value} {y : DataW H × List MemPlace} (h : DataW.trod enc Tryz.prog W base spare held n 61 cs = some y) : ∃ c : ILk, cs = lkI c := by
 have c3 : Tryz.prog.cellsOf 3 = 1 := by kernel_rfl
 have c23 : Tryz.prog.cellsOf 23 = 2 := by kernel_rfl
 have c61 : Tryz.prog.cellsOf 61 = 3 := by kernel_rfl
 obtain ⟨xs, m, _, _, hlen, hx, hf⟩ := DataW.trod_struct Tryz.underlying61 h; rw [c61] at hlen
 match cs, hlen with
 | [u0, u1, u2], _ =>
  match xs, hx with
  | [x0, x1], _ =>
   obtain ⟨a, ha⟩ := one_int (hf 0 _ rfl); obtain ⟨c, d, hcd⟩ := two_ints (hf 1 _ rfl)
   simp [c3, c23] at ha hcd
   exact ⟨⟨a, ⟨c, d⟩⟩, by simp [lkI, ha, hcd]⟩
theorem rows_list {α : Type} {f : α → List Value} {A : Option Addr} {len sz : Nat} {e : TypeId} (he : ∀ (n : Nat) (cs : List Value) (y : DataW H × List MemPlace), DataW.trod enc Tryz.prog W base spare held n e cs = some y → ∃ x, cs = f x) (hf0 : ∀ x, 0 < (f x).length)
  (h : ∀ i, i < len → ∃ (b off n : Nat) (cs : List Value) (y : DataW H × List MemPlace), A = some ⟨b, off, none⟩ ∧ cs.length = sz ∧ (∀ j v, cs[j]? = some v → W.cell? ⟨b, off + (i * sz + j), none⟩ = some v) ∧ DataW.trod enc Tryz.prog W base spare held n e cs = some y) :
  ∃ l : List α, l.length = len ∧ RdG f sz W W.heap.size A l := by
 obtain ⟨l, hl, hp⟩ := list_of (fun i x => ∃ b off, A = some ⟨b, off, none⟩ ∧ b < W.heap.size ∧ ∀ j u, (f x)[j]? = some u → W.cell? ⟨b, off + (i * sz + j), none⟩ = some u) len (fun i hi => by
  obtain ⟨b, off, n, cs, y, e1, _, hc, ht⟩ := h i hi; obtain ⟨x, rfl⟩ := he n cs y ht; refine ⟨x, b, off, e1, ?_, hc⟩; have h0 := hc 0 _ (List.getElem?_eq_getElem (hf0 x)); rcases Nat.lt_or_ge b W.heap.size with hlt | hge
  ·exact hlt
  ·unfold World.cell? at h0
   simp [Array.getElem?_eq_none hge] at h0)
 exact ⟨l, hl, fun k x hx => hp k x hx⟩
theorem wg_cells {n : Nat} {cs : List Value} {y : DataW H × List MemPlace} (h : DataW.trod enc Tryz.prog W base spare held n 65 cs = some y) : ∃ c : IWag, cs = wgI c := by
 have c3 : Tryz.prog.cellsOf 3 = 1 := by kernel_rfl
 have c23 : Tryz.prog.cellsOf 23 = 2 := by kernel_rfl
 have c65 : Tryz.prog.cellsOf 65 = 4 := by kernel_rfl
 obtain ⟨xs, m, _, _, hlen, hx, hf⟩ := DataW.trod_struct Tryz.underlying65 h; rw [c65] at hlen
 match cs, hlen with
 | [u0, u1, u2, u3], _ =>
  match xs, hx with
  | [x0, x1, x2], _ =>
   obtain ⟨a, ha⟩ := one_int (hf 0 _ rfl); obtain ⟨b, d, hb⟩ := two_ints (hf 1 _ rfl); obtain ⟨e, he⟩ := one_int (hf 2 _ rfl)
   simp [c3, c23] at ha hb he
   exact ⟨⟨a, ⟨b, d⟩, e⟩, by simp [wgI, ha, hb, he]⟩
theorem lt_cells {n : Nat} {cs : List Value} {y : DataW H × List MemPlace} (h : DataW.trod enc Tryz.prog W base spare held n 68 cs = some y) : ∃ c : ILot, cs = ltI c := by
 have c3 : Tryz.prog.cellsOf 3 = 1 := by kernel_rfl
 have c68 : Tryz.prog.cellsOf 68 = 5 := by kernel_rfl
 obtain ⟨xs, m, _, _, hlen, hx, hf⟩ := DataW.trod_struct Tryz.underlying68 h; rw [c68] at hlen
 match cs, hlen with
 | [u0, u1, u2, u3, u4], _ =>
  match xs, hx with
  | [x0, x1, x2, x3, x4], _ =>
   obtain ⟨a0, h0⟩ := one_int (hf 0 _ rfl); obtain ⟨a1, h1⟩ := one_int (hf 1 _ rfl); obtain ⟨a2, h2⟩ := one_int (hf 2 _ rfl); obtain ⟨a3, h3⟩ := one_int (hf 3 _ rfl); obtain ⟨a4, h4⟩ := one_int (hf 4 _ rfl)
   simp [c3] at h0 h1 h2 h3 h4
   exact ⟨⟨a0, a1, a2, a3, a4⟩, by simp [ltI, h0, h1, h2, h3, h4]⟩
theorem riv_cells {n : Nat} {u0 u1 u2 u3 u4 u5 u6 : Value} {y : DataW H × List MemPlace} (h : DataW.trod enc Tryz.prog W base spare held n 27 [u0, u1, u2, u3, u4, u5, u6] = some y) :
  ∃ (fa la : Option Addr) (fl fc ll lc : Nat) (q : IRiv), [u0, u1, u2, u3, u4, u5, u6] = [.int .i64 q.depth.lo, .int .i64 q.depth.hi, .int .i64 q.fall.lo, .int .i64 q.fall.hi, .int .i64 q.days, .slice fa fl fc, .slice la ll lc] ∧ RvIn W W.heap.size fa fl la ll q := by
 have c3 : Tryz.prog.cellsOf 3 = 1 := by kernel_rfl
 have c23 : Tryz.prog.cellsOf 23 = 2 := by kernel_rfl
 have c24 : Tryz.prog.cellsOf 24 = 1 := by kernel_rfl
 have c25 : Tryz.prog.cellsOf 25 = 1 := by kernel_rfl
 obtain ⟨xs, m, _, _, _, hx, hg⟩ := DataW.trod_struct Tryz.underlying27 h
 match xs, hx with
 | [x0, x1, x2, x3, x4], _ =>
  have g0 := hg 0 _ rfl; have g1 := hg 1 _ rfl; have g2 := hg 2 _ rfl; have g3 := hg 3 _ rfl; have g4 := hg 4 _ rfl
  simp [c3, c23, c24, c25] at g0 g1 g2 g3 g4
  obtain ⟨d0, d1, e0⟩ := two_ints g0; obtain ⟨f0, f1, e1⟩ := two_ints g1; obtain ⟨days, e2⟩ := one_int g2; obtain ⟨rfl, rfl⟩ : u0 = .int .i64 d0 ∧ u1 = .int .i64 d1 := by simpa using e0
  obtain ⟨rfl, rfl⟩ : u2 = .int .i64 f0 ∧ u3 = .int .i64 f1 := by simpa using e1
  obtain rfl : u4 = .int .i64 days := by simpa using e2
  obtain ⟨fa, fl, fc, rfl, m0, h0⟩ := open_rows (sz := 4) Tryz.underlying24 (by kernel_rfl) (by decide) g3
  obtain ⟨la, ll, lc, rfl, m4, h4⟩ := open_rows (sz := 3) Tryz.underlying25 (by kernel_rfl) (by decide) g4
  obtain ⟨frs, k0, r0⟩ := rows_list (f := frI) (fun n cs y h => fr_cells h) (fun x => by simp [frI]) h0
  obtain ⟨lks, k4, r4⟩ := rows_list (f := lkI) (fun n cs y h => lk_cells h) (fun x => by simp [lkI]) h4
  unfold maxLen at m0 m4; exact ⟨fa, la, fl, fc, ll, lc, ⟨⟨d0, d1⟩, ⟨f0, f1⟩, days, frs, lks⟩, rfl, k0, k4, r0, r4, by omega, by omega⟩
theorem open_cart {r : Reach} {b0 : Nat} {v : Value} {d : DataW H} {p : List MemPlace} (hv : Value.okWide Tryz.prog W r b0 31 v) (h : DataW.Trod enc Tryz.prog W base spare held 31 v d p) :
  ∃ (fa la wa ta : Option Addr) (fl fc ll lc wn wc tn tc : Nat) (c : ICart), v = (.agg #[.int .i64 c.riv.depth.lo, .int .i64 c.riv.depth.hi, .int .i64 c.riv.fall.lo, .int .i64 c.riv.fall.hi, .int .i64 c.riv.days, .slice fa fl fc, .slice la ll lc, .int .i64 c.draws, .slice wa wn wc, .slice ta tn tc]) ∧ CtIn W W.heap.size fa fl la ll wa wn ta tn c := by
 have c3 : Tryz.prog.cellsOf 3 = 1 := by kernel_rfl
 have c27 : Tryz.prog.cellsOf 27 = 7 := by kernel_rfl
 have c28 : Tryz.prog.cellsOf 28 = 1 := by kernel_rfl
 have c29 : Tryz.prog.cellsOf 29 = 1 := by kernel_rfl
 have c31 : Tryz.prog.cellsOf 31 = 10 := by kernel_rfl
 obtain ⟨cs, rfl, hsz⟩ := okWide_struct Tryz.underlying31 hv; rw [c31] at hsz; obtain ⟨l⟩ := cs
 match l, hsz with
 | [u0, u1, u2, u3, u4, u5, u6, u7, u8, u9], _ =>
  obtain ⟨fuel, hf⟩ := h; obtain ⟨xs, m, _, _, _, hx, hg⟩ := DataW.trod_struct Tryz.underlying31 hf
  match xs, hx with
  | [x0, x1, x2, x3], _ =>
   have g0 := hg 0 _ rfl; have g1 := hg 1 _ rfl; have g2 := hg 2 _ rfl; have g3 := hg 3 _ rfl
   simp [Value.cells, c3, c27, c28, c29] at g0 g1 g2 g3
   obtain ⟨fa, la, fl, fc, ll, lc, q, e0, hR⟩ := riv_cells g0; obtain ⟨dr, e1⟩ := one_int g1; obtain rfl : u7 = .int .i64 dr := by simpa using e1
   obtain ⟨wa, wn, wc, rfl, m2, h2⟩ := open_rows (sz := 4) Tryz.underlying28 (by kernel_rfl) (by decide) g2
   obtain ⟨ta, tn, tc, rfl, m3, h3⟩ := open_rows (sz := 5) Tryz.underlying29 (by kernel_rfl) (by decide) g3
   obtain ⟨wgs, k2, r2⟩ := rows_list (f := wgI) (fun n cs y h => wg_cells h) (fun x => by simp [wgI]) h2
   obtain ⟨lts, k3, r3⟩ := rows_list (f := ltI) (fun n cs y h => lt_cells h) (fun x => by simp [ltI]) h3
   obtain ⟨rfl, rfl, rfl, rfl, rfl, rfl, rfl⟩ : u0 = .int .i64 q.depth.lo ∧ u1 = .int .i64 q.depth.hi ∧ u2 = .int .i64 q.fall.lo ∧ u3 = .int .i64 q.fall.hi ∧ u4 = .int .i64 q.days ∧ u5 = .slice fa fl fc ∧ u6 = .slice la ll lc := by simpa using e0
   unfold maxLen at m2 m3; exact ⟨fa, la, wa, ta, fl, fc, ll, lc, wn, wc, tn, tc, ⟨q, dr, wgs, lts⟩, rfl, hR, k2, k3, r2, r3, by omega, by omega⟩
end
theorem u8_wf {a : Int} (h : (Lit.int .u8 a).wf = true) : 0 ≤ a ∧ a ≤ 255 := by
 simp [Lit.wf, IntKind.min, IntKind.max, IntKind.signed, IntKind.bits] at h
 omega
theorem rowOwn : ownKnob Tryz.prog.godebug = none := by kernel_rfl
theorem rowLaidOut : laidOutB Tryz.prog = true := by kernel_rfl
end Go.Proofs.YtgmfhngcehkibaaGreat
namespace Go.Proofs.YtgmfhngcehkibaaGreat
theorem depthP_le {r : Riv} (ht : truthsA r ≠ []) (d : Nat) : (depthP r d).1 ≤ (depthP r d).2 := by
 have h := hullP_is (l := (truthsA r).map (·.at_ d)) (by simpa using ht)
 exact h.le _ h.hi
theorem bears_two (r : Riv) (n d : Nat) : (bearsP r n d == 2) = decide (n ≤ (depthP r d).1) := by
 unfold bearsP
 by_cases h : n ≤ (depthP r d).1
 ·simp [h]
 ·by_cases h2 : n ≤ (depthP r d).2
  ·simp [h, h2]
  ·simp [h, h2]
theorem bears_zero {r : Riv} (ht : truthsA r ≠ []) (n d : Nat) : (bearsP r n d != 0) = decide (n ≤ (depthP r d).2) := by
 have hle := depthP_le ht d; unfold bearsP
 by_cases h : n ≤ (depthP r d).1
 ·have h2 : n ≤ (depthP r d).2 := by omega
  simp [h, h2]
 ·by_cases h2 : n ≤ (depthP r d).2
  ·simp [h, h2]
  ·simp [h, h2]
theorem setN_congr {f g : Nat → Bool} : ∀ n, (∀ i, i < n → f i = g i) → setN f n = setN g n
 | 0, _ => rfl
 | n + 1, h => by rw [setN, setN, setN_congr n (fun i hi => h i (by omega)), h n (by omega)]
theorem setN_all {f : Nat → Bool} (h : ∀ i, f i = true) : ∀ n, setN f n = 2 ^ n - 1
 | 0 => rfl
 | n + 1 => by
  have := Nat.two_pow_pos n; rw [setN, setN_all h n, if_pos (h n), Nat.pow_succ]; omega
def loB (r : Riv) (m d : Nat) : Bool := decide (m ≤ (depthP r d).1)
def hiB (r : Riv) (m d : Nat) : Bool := decide (m ≤ (depthP r d).2)
theorem surely_lo (r : Riv) (m : Nat) : surelyP r m = setN (loB r m) (r.days + 1) := setN_congr _ fun d _ => bears_two r m d
theorem perhaps_hi {r : Riv} (ht : truthsA r ≠ []) (m : Nat) : perhapsP r m = setN (hiB r m) (r.days + 1) := setN_congr _ fun d _ => bears_zero ht m d
theorem lo_less (r : Riv) {m k : Nat} (h : k ≤ m) (d : Nat) (hd : loB r m d = true) : loB r k d = true := by
 unfold loB at hd ⊢; have := of_decide_eq_true hd; exact decide_eq_true (by omega)
theorem hi_less (r : Riv) {m k : Nat} (h : k ≤ m) (d : Nat) (hd : hiB r m d = true) : hiB r k d = true := by
 unfold hiB at hd ⊢; have := of_decide_eq_true hd; exact decide_eq_true (by omega)
theorem setN_sub {f g : Nat → Bool} (h : ∀ i, f i = true → g i = true) (n j : Nat) (hj : (setN f n).testBit j = true) : (setN g n).testBit j = true := by
 rw [tb_setN, Bool.and_eq_true] at hj ⊢; exact ⟨hj.1, h j hj.2⟩
theorem surely_bit {r : Riv} {n d : Nat} : (surelyP r n).testBit d = (decide (d < r.days + 1) && (bearsP r n d == 2)) := by unfold surelyP; rw [tb_setN]
theorem perhaps_bit {r : Riv} {n d : Nat} : (perhapsP r n).testBit d = (decide (d < r.days + 1) && (bearsP r n d != 0)) := by unfold perhapsP; rw [tb_setN]
def allS (S first : Nat) : Nat → Bool
 | 0 => true
 | n + 1 => allS S first n && S.testBit (first + n)
def someS (S first : Nat) : Nat → Bool
 | 0 => false
 | n + 1 => someS S first n || S.testBit (first + n)
theorem allS_is {days S first : Nat} (h : ∀ d, S.testBit d = true → d ≤ days) : ∀ n, allT days S first n = allS S first n
 | 0 => rfl
 | n + 1 => by
  rw [allT, allS, allS_is h n]
  cases e : S.testBit (first + n)
  ·simp
  ·rw [decide_eq_true (h _ e)]; rfl
theorem someS_is {days S first : Nat} (h : ∀ d, S.testBit d = true → d ≤ days) : ∀ n, someT days S first n = someS S first n
 | 0 => rfl
 | n + 1 => by
  rw [someT, someS, someS_is h n]
  cases e : S.testBit (first + n)
  ·simp
  ·rw [decide_eq_true (h _ e)]; rfl
theorem allS_mono {S Q first : Nat} (h : ∀ d, S.testBit d = true → Q.testBit d = true) : ∀ n, allS S first n = true → allS Q first n = true
 | 0, _ => rfl
 | n + 1, hn => by
  rw [allS, Bool.and_eq_true] at hn ⊢; exact ⟨allS_mono h n hn.1, h _ hn.2⟩
theorem someS_mono {S Q first : Nat} (h : ∀ d, S.testBit d = true → Q.testBit d = true) : ∀ n, someS S first n = true → someS Q first n = true
 | 0, hn => hn
 | n + 1, hn => by
  rw [someS, Bool.or_eq_true] at hn ⊢; exact hn.imp (someS_mono h n) (h _)
theorem all_some {S Q first : Nat} (h : ∀ d, S.testBit d = true → Q.testBit d = true) {n : Nat} (hn : 0 < n) (ha : allS S first n = true) : someS Q first n = true := by
 obtain ⟨m, rfl⟩ : ∃ m, n = m + 1 := ⟨n - 1, by omega⟩
 rw [allS, Bool.and_eq_true] at ha; rw [someS, h _ ha.2, Bool.or_true]
theorem sure_perhaps {r : Riv} {n d : Nat} (h : (surelyP r n).testBit d = true) : (perhapsP r n).testBit d = true := by
 rw [surely_bit, Bool.and_eq_true] at h; rw [perhaps_bit, Bool.and_eq_true]; refine ⟨h.1, ?_⟩; have := h.2; simp at this ⊢
 omega
theorem surely_less {r : Riv} {n m d : Nat} (hm : m ≤ n) (h : (surelyP r n).testBit d = true) : (surelyP r m).testBit d = true := by
 rw [surely_lo] at h ⊢
 exact setN_sub (fun i hi => lo_less r hm i hi) _ _ h
theorem perhaps_less {r : Riv} (ht : truthsA r ≠ []) {n m d : Nat} (hm : m ≤ n) (h : (perhapsP r n).testBit d = true) : (perhapsP r m).testBit d = true := by
 rw [perhaps_hi ht] at h ⊢
 exact setN_sub (fun i hi => hi_less r hm i hi) _ _ h
theorem timelyW_is (r : Riv) (n : Nat) (w : IWag) : timelyW r n w = if allS (surelyP r n) (w.leaves + w.takes.lo).toNat (w.takes.hi - w.takes.lo + 1).toNat = true then 2 else if someS (perhapsP r n) (w.leaves + w.takes.lo).toNat (w.takes.hi - w.takes.lo + 1).toNat = true then 1 else 0 := by
 unfold timelyW; simp only
 rw [allS_is (fun d h => by rw [surely_bit, Bool.and_eq_true] at h; have := h.1; simp at this; omega), someS_is (fun d h => by rw [perhaps_bit, Bool.and_eq_true] at h; have := h.1; simp at this; omega)]
theorem timely_bits {r : Riv} {n : Nat} {w : IWag} (hw : wagB w = true) :
  (timelyW r n w = 2 ↔ allS (surelyP r n) (w.leaves + w.takes.lo).toNat (w.takes.hi - w.takes.lo + 1).toNat = true) ∧
  (timelyW r n w = 0 ↔ someS (perhapsP r n) (w.leaves + w.takes.lo).toNat (w.takes.hi - w.takes.lo + 1).toNat = false) ∧ timelyW r n w ≤ 2 := by
 have hb := wagB_iff.1 hw; rw [timelyW_is]
 cases ha : allS (surelyP r n) (w.leaves + w.takes.lo).toNat (w.takes.hi - w.takes.lo + 1).toNat
 ·cases hs : someS (perhapsP r n) (w.leaves + w.takes.lo).toNat (w.takes.hi - w.takes.lo + 1).toNat <;> simp
 ·have := all_some (Q := perhapsP r n) (fun d h => sure_perhaps h) (by omega) ha
  rw [this]
  simp
theorem timely_less {r : Riv} (ht : truthsA r ≠ []) {n m : Nat} (hm : m ≤ n) (w : IWag) : timelyW r n w ≤ timelyW r m w := by
 rw [timelyW_is, timelyW_is]
 cases ha : allS (surelyP r n) (w.leaves + w.takes.lo).toNat (w.takes.hi - w.takes.lo + 1).toNat
 ·cases hs : someS (perhapsP r n) (w.leaves + w.takes.lo).toNat (w.takes.hi - w.takes.lo + 1).toNat
  ·simp
  ·have h2 := someS_mono (fun d h => perhaps_less ht hm h) _ hs
   rw [h2]
   simp
   split <;> omega
 ·have h2 := allS_mono (fun d h => surely_less hm h) _ ha
  rw [h2]
  simp
theorem setN_true : ∀ n, setN (fun _ => true) n = 2 ^ n - 1
 | n => setN_all (fun _ => rfl) n
end Go.Proofs.YtgmfhngcehkibaaGreat
namespace Go.Proofs.YtgmfhngcehkibaaGreat
open Go.RowKit Go.Hav Go.Shelf Go.Sq
attribute [local go_sem] Oper.semAt_some
theorem CtIn.more {w : World} {B B' : Nat} {fa la wa ta : Option Addr} {fl ll wn tn : Nat} {c : ICart} (h : CtIn w B fa fl la ll wa wn ta tn c) (hB : B ≤ B') : CtIn w B' fa fl la ll wa wn ta tn c :=
 { h with riv := { h.riv with hfr := h.riv.hfr.more hB, hlk := h.riv.hlk.more hB }, hwg := h.hwg.more hB, hlt := h.hlt.more hB }
theorem isWagB_out {c : ICart} {wn : Nat} (hw : c.wg.length = wn) : isWagB c wn = false ∧ isWagB c (-1) = false := by
 unfold isWagB inB; rw [hw]; exact ⟨by simp; omega, by simp⟩
theorem openE_out {c : ICart} (h : okC c = true) : openE c false = 2 := by unfold openE; rw [h]; rfl
theorem openE_bad {c : ICart} (h : okC c = false) (b : Bool) : openE c b = 1 := by unfold openE; rw [h]; rfl
theorem bit_val (S d : Nat) (hS : S < 4611686018427387904) {x : Bool} (hx : S.testBit d = x) : ∃ v, bits BinOp.and IntKind.i64 ((S : Int) / 2 ^ d) 1 = v ∧ (v == 1) = x := by
 refine ⟨_, and_one _ (.inr rfl) S d (by omega), ?_⟩
 rw [hx]
 cases x <;> rfl
theorem ints_rd {w : World} {q : Nat} {l : List Int} (h : Blk w q 3 (intsA l)) : RdG inI 1 w w.heap.size (some ⟨q, 0, none⟩) l := by
 refine RdG.of_blk (f := inI) (sz := 1) (t := 3) (fun _ => rfl) ?_ h.lt
 have e : (l.flatMap inI).toArray = intsA l := by
  unfold intsA
  congr 1
  exact flat_one (fun x => Value.int .i64 x) l
 rw [e]; exact h
section
variable {fa la wa ta : Option Addr} {fl fc ll lc wn wc tn tc : Nat} {c : ICart}
theorem cartTimes_any (which : Nat) (h255 : which ≤ 255) (w : World) (hP : CtIn w w.heap.size fa fl la ll wa wn ta tn c) : Calls Tryz.prog 7 #[(.agg #[.int .i64 c.riv.depth.lo, .int .i64 c.riv.depth.hi, .int .i64 c.riv.fall.lo, .int .i64 c.riv.fall.hi, .int .i64 c.riv.days, .slice fa fl fc, .slice la ll lc, .int .i64 c.draws, .slice wa wn wc, .slice ta tn tc]), .int .u8 which] w fun e w' => e = .returned (.bool true) ∧ Below w.heap.size w w' := by
 have HP := Lib.hid hP; have HEW := Lib.hid hP.ewn; have HET := Lib.hid hP.etn; clear hP; obtain ⟨W, hW⟩ : ∃ W, W = w.alloc (.cells #[.int .i64 c.riv.depth.lo, .int .i64 c.riv.depth.hi, .int .i64 c.riv.fall.lo, .int .i64 c.riv.fall.hi, .int .i64 c.riv.days, .slice fa fl fc, .slice la ll lc, .int .i64 c.draws, .slice wa wn wc, .slice ta tn tc] 31) := ⟨_, rfl⟩; obtain ⟨b1, hb1⟩ : ∃ b, b = w.heap.size := ⟨_, rfl⟩; have HK0 : Hid (Blk W b1 31 #[.int .i64 c.riv.depth.lo, .int .i64 c.riv.depth.hi, .int .i64 c.riv.fall.lo, .int .i64 c.riv.fall.hi, .int .i64 c.riv.days, .slice fa fl fc, .slice la ll lc, .int .i64 c.draws, .slice wa wn wc, .slice ta tn tc]) := by rw [hW, hb1]; exact Blk.new w 31 _
 have HB0 : Hid (Below w.heap.size w W) := by rw [hW]; exact (Below.refl _ _).alloc (Nat.le_refl _) _
 go_enter Tryz.func7, Tryz.ntmps7
 go_upto_region 1 with (fail); rw [← hW, ← hb1]; clear hW hb1; have hx := HK0.out; obtain ⟨q0, q1, q2, q3, q4, q5, q6, q7, q8, q9, ql⟩ := cx31 hx; clear hx; go_wp2_with fail; refine (long_any (fa := fa) (fl := fl) (fc := fc) (la := la) (ll := ll) (lc := lc) (wa := wa) (wn := wn) (wc := wc) (ta := ta) (tn := tn) (tc := tc) (A := none) (n := 0) (cp := 0) (by omega) W (HP.out.grow HB0.out)).mono ?_
 rintro e v1 ⟨⟨b, rfl, hl⟩, hb⟩; have HB1 : Hid (Below w.heap.size w v1) := HB0.out.trans (hb.mono HB0.out.size); have HK1 := Lib.hid (HK0.out.below hb HK0.out.lt); clear hb; clear q0 q1 q2 q3 q4 q5 q6 q7 q8 q9 ql; have HLN := Lib.hid hl; clear hl; cases b
 case true =>
  go_wp2_with fail; refine (alive_any _).mono ?_
  rintro e v2 ⟨rfl, hb⟩; have HB2 : Hid (Below w.heap.size w v2) := HB1.out.trans (hb.mono HB1.out.size); have HK2 := Lib.hid (HK1.out.below hb HK1.out.lt); clear hb; go_wp2; go_ret
  exact ⟨rfl, HB2.out⟩
 have HL40 := Lib.hid (HLN.out rfl); have hx := HK1.out; obtain ⟨q0, q1, q2, q3, q4, q5, q6, q7, q8, q9, ql⟩ := cx31 hx; clear hx; go_wp2_with fail; refine (rcart_any (fa := fa) (fl := fl) (fc := fc) (la := la) (ll := ll) (lc := lc) (wa := wa) (wn := wn) (wc := wc) (ta := ta) (tn := tn) (tc := tc) v1 (HP.out.grow HB1.out)).mono ?_; obtain ⟨ok, hok⟩ : ∃ ok, okC c = ok := ⟨_, rfl⟩; have HOK := Lib.hid hok; rw [hok]; clear hok; rintro e v3 ⟨rfl, hb⟩; have HB3 : Hid (Below w.heap.size w v3) := HB1.out.trans (hb.mono HB1.out.size); have HK3 := Lib.hid (HK1.out.below hb HK1.out.lt); clear hb; clear q0 q1 q2 q3 q4 q5 q6 q7 q8 q9 ql; cases ok
 case false =>
  have HA : Hid (arrivesE c 0 = 1 ∧ arrivesV c 0 = (0, 0)) := by
   have h1 : arrivesE c 0 = 1 := by unfold arrivesE; rw [HOK.out]; rfl
   exact ⟨h1, by unfold arrivesV; rw [h1]; rfl⟩
  have HS : Hid (stayE c = 1) := openE_bad HOK.out true; have hx := HK3.out; obtain ⟨q0, q1, q2, q3, q4, q5, q6, q7, q8, q9, ql⟩ := cx31 hx; clear hx; go_wp2_with fail; refine (PArrives_any (fa := fa) (fl := fl) (fc := fc) (la := la) (ll := ll) (lc := lc) (wa := wa) (wn := wn) (wc := wc) (ta := ta) (tn := tn) (tc := tc) (w := v3) (c := c) 0 (HP.out.grow HB3.out)).mono ?_; rw [HA.out.1, HA.out.2]; rintro e v4 ⟨rfl, hb⟩; have HB4 : Hid (Below w.heap.size w v4) := HB3.out.trans (hb.mono HB3.out.size); have HK4 := Lib.hid (HK3.out.below hb HK3.out.lt); clear hb; clear q0 q1 q2 q3 q4 q5 q6 q7 q8 q9 ql; unfold spanV; obtain ⟨V5, hV5⟩ : ∃ V, V = v4.alloc (.cells #[.int .i64 0, .int .i64 0] 23) := ⟨_, rfl⟩; obtain ⟨pXA, hpXA⟩ : ∃ q, q = v4.heap.size := ⟨_, rfl⟩; have hw : Below v4.heap.size v4 V5 := by rw [hV5]; exact (Below.refl _ _).alloc (Nat.le_refl _) _
  have XA : Hid (Blk V5 pXA 23 #[.int .i64 0, .int .i64 0]) := by rw [hV5, hpXA]; exact Blk.new v4 23 _
  have HB5 : Hid (Below w.heap.size w V5) := HB4.out.trans (hw.mono HB4.out.size); have HK5 := Lib.hid (HK4.out.below hw HK4.out.lt); go_upto_region 5 with (fail); rw [← hpXA, ← hV5]; clear hV5 hpXA hw; have hx := HK5.out; obtain ⟨q0, q1, q2, q3, q4, q5, q6, q7, q8, q9, ql⟩ := cx31 hx; clear hx; go_wp2_with fail; refine (PMost_any (fa := fa) (fl := fl) (fc := fc) (la := la) (ll := ll) (lc := lc) (wa := wa) (wn := wn) (wc := wc) (ta := ta) (tn := tn) (tc := tc) (w := V5) (c := c) (HP.out.grow HB5.out)).mono ?_; rintro e v6 ⟨hb, (⟨-, rfl⟩ | ⟨h1, -⟩)⟩
  rotate_left
  ·exact absurd (h1.symm.trans HS.out) (by omega)
  rw [HS.out]; have HB6 : Hid (Below w.heap.size w v6) := HB5.out.trans (hb.mono HB5.out.size); have HK6 := Lib.hid (HK5.out.below hb HK5.out.lt); have XA6 := Lib.hid (XA.out.below hb XA.out.lt); clear hb; clear q0 q1 q2 q3 q4 q5 q6 q7 q8 q9 ql; have x0 := XA6.out.cell 0; have x1 := XA6.out.cell 1; have xl := XA6.out.lt; simp at x0 x1; go_wp2_with fail; refine (alive_any _).mono ?_; rintro e v7 ⟨rfl, hb⟩; have HB7 : Hid (Below w.heap.size w v7) := HB6.out.trans (hb.mono HB6.out.size); have HK7 := Lib.hid (HK6.out.below hb HK6.out.lt); have XA7 := Lib.hid (XA6.out.below hb XA6.out.lt); clear hb; clear x0 x1 xl; go_wp2; go_ret
  exact ⟨rfl, HB7.out⟩
 have HOW := Lib.hid (isWagB_out HEW.out); have HW3 : Hid (wn ≤ 3 ∧ tn ≤ 5) := ⟨by have := (okC_parts HOK.out).2.2.1; have := HEW.out; omega, by have := (okC_parts HOK.out).2.2.2.1; have := HET.out; omega⟩
 have HA : Hid (arrivesE c wn = 2 ∧ arrivesV c wn = (0, 0)) := by
  have h1 : arrivesE c wn = 2 := by unfold arrivesE; rw [HOK.out, HOW.out.1]; rfl
  exact ⟨h1, by unfold arrivesV; rw [h1]; rfl⟩
 have HI : Hid (inTimeE c (-1) = 2 ∧ inTimeV c (-1) = 0) := by
  have h1 : inTimeE c (-1) = 2 := by unfold inTimeE; rw [HOW.out.2]; exact openE_out HOK.out
  exact ⟨h1, by unfold inTimeV; rw [h1]; rfl⟩
 obtain ⟨ZL, hZL⟩ : ∃ ZL : List Int, ZL = List.replicate (tn + 1) 0 := ⟨_, rfl⟩
 have HC : Hid (checkE c ZL = 2 ∧ checkW c ZL = (0, 0)) := by
  have h0 : planB c ZL = false := by unfold planB; rw [hZL, List.length_replicate, decide_eq_false (by have := HET.out; omega)]; rfl
  have h1 : checkE c ZL = 2 := by unfold checkE; rw [h0, openE_out HOK.out]; rfl
  exact ⟨h1, by unfold checkW; rw [h1]; rfl⟩
 have hx := HK3.out; obtain ⟨q0, q1, q2, q3, q4, q5, q6, q7, q8, q9, ql⟩ := cx31 hx; clear hx; go_wp2_with fail; refine (PArrives_any (fa := fa) (fl := fl) (fc := fc) (la := la) (ll := ll) (lc := lc) (wa := wa) (wn := wn) (wc := wc) (ta := ta) (tn := tn) (tc := tc) (w := v3) (c := c) wn (HP.out.grow HB3.out)).mono ?_; rw [HA.out.1, HA.out.2]; rintro e v8 ⟨rfl, hb⟩; have HB8 : Hid (Below w.heap.size w v8) := HB3.out.trans (hb.mono HB3.out.size); have HK8 := Lib.hid (HK3.out.below hb HK3.out.lt); clear hb; clear q0 q1 q2 q3 q4 q5 q6 q7 q8 q9 ql; unfold spanV; obtain ⟨V9, hV9⟩ : ∃ V, V = v8.alloc (.cells #[.int .i64 0, .int .i64 0] 23) := ⟨_, rfl⟩; obtain ⟨pXA, hpXA⟩ : ∃ q, q = v8.heap.size := ⟨_, rfl⟩; have hw : Below v8.heap.size v8 V9 := by rw [hV9]; exact (Below.refl _ _).alloc (Nat.le_refl _) _
 have XA : Hid (Blk V9 pXA 23 #[.int .i64 0, .int .i64 0]) := by rw [hV9, hpXA]; exact Blk.new v8 23 _
 have HB9 : Hid (Below w.heap.size w V9) := HB8.out.trans (hw.mono HB8.out.size); have HK9 := Lib.hid (HK8.out.below hw HK8.out.lt); go_upto_region 8 with (fail); rw [← hpXA, ← hV9]; clear hV9 hpXA hw; have hx := HK9.out; obtain ⟨q0, q1, q2, q3, q4, q5, q6, q7, q8, q9, ql⟩ := cx31 hx; clear hx; go_wp2_with fail; refine (PInTime_any (fa := fa) (fl := fl) (fc := fc) (la := la) (ll := ll) (lc := lc) (wa := wa) (wn := wn) (wc := wc) (ta := ta) (tn := tn) (tc := tc) (w := V9) (c := c) (-1) (HP.out.grow HB9.out)).mono ?_; rw [HI.out.1, HI.out.2]; rintro e v10 ⟨rfl, hb⟩; have HB10 : Hid (Below w.heap.size w v10) := HB9.out.trans (hb.mono HB9.out.size); have HK10 := Lib.hid (HK9.out.below hb HK9.out.lt); have XA10 := Lib.hid (XA.out.below hb XA.out.lt); clear hb; clear q0 q1 q2 q3 q4 q5 q6 q7 q8 q9 ql; have hx := HK10.out; obtain ⟨q0, q1, q2, q3, q4, q5, q6, q7, q8, q9, ql⟩ := cx31 hx; clear hx; have ht5 := HW3.out.2
 have hmk : ∀ X : World, (Instr.makeSlice 32 (.int .i64 ((tn : Int) + 1)) (.int .i64 ((tn : Int) + 1))).run Tryz.prog X = .ok (.slice (some ⟨X.heap.size, 0, none⟩) (tn + 1) (tn + 1)) (X.alloc (.cells (intsA (List.replicate (tn + 1) 0)) 3)) := fun X => make_ints (tn + 1) (by omega) X
 have hw1 : IntKind.i64.wrap ((tn : Int) + 1) = (tn : Int) + 1 := IntWalk.i64_in _ (by omega)
 go_upto_region 9 with (fail)
 refine wp_region_havoc [(0,false),(1,false),(2,false),(3,false),(4,false),(5,true),(6,false),(7,false),(8,false),(9,false),(10,false),(11,false),(12,false),(13,false)] [] (fun _ _ => False) (by kernel_rfl) (by kernel_rfl) (fun _ _ _ _ h => h.elim) ?_
 (apply hav_same (by exact ho rfl) (by kernel_rfl); (focus (intro wv hgv _; have hcv := cvB hgv; (try go_simp); try rfl; done)); simp only [Act.put, List.setIfInBounds_toArray, List.set_cons_succ, List.set_cons_zero])
 iterate 4 (apply hav_same (by exact ho rfl) (by kernel_rfl); (focus (intro wv hgv _; have hcv := cvB hgv; (try go_simp); try rfl; done)); simp only [Act.put, List.setIfInBounds_toArray, List.set_cons_succ, List.set_cons_zero])
 refine hav_new (fun g => .slice (some ⟨g, 0, none⟩) (tn + 1) (tn + 1)) (.cells (intsA (List.replicate (tn + 1) 0)) 3) (by exact ho rfl) (by kernel_rfl) (fun wv hg hF => by have hq := hmk wv; (try go_simp); try rfl) ?_
 intro v5; simp only [Act.put, List.setIfInBounds_toArray, List.set_cons_succ, List.set_cons_zero]; (apply hav_call (by exact ho rfl) (by kernel_rfl); (focus (intro wv; go_simp; try exact ⟨rfl, rfl⟩; done)); (focus (intro wv hgv hF; obtain ⟨_, q, e, _, hq⟩ := hF; subst e; have hq' : Blk wv q 3 (intsA (List.replicate (tn + 1) 0)) := hq; refine (PCheck_any (fa := fa) (fl := fl) (fc := fc) (la := la) (ll := ll) (lc := lc) (wa := wa) (wn := wn) (wc := wc) (ta := ta) (tn := tn) (tc := tc) (w := wv) (pc := tn + 1) (ps := ZL) (HP.out.grow (HB10.out.trans (hgv.mono HB10.out.size))) ⟨by rw [hZL, List.length_replicate], by rw [hZL]; exact ints_rd hq', by omega⟩).mono ?_; rw [HC.out.1, HC.out.2]; rintro e w' ⟨rfl, hb⟩; exact ⟨rfl, hb⟩; done)); simp only [Act.put, List.setIfInBounds_toArray, List.set_cons_succ, List.set_cons_zero])
 iterate 7 (apply hav_same (by exact ho rfl) (by kernel_rfl); (focus (intro wv hgv _; have hcv := cvB hgv; (try go_simp); try rfl; done)); simp only [Act.put, List.setIfInBounds_toArray, List.set_cons_succ, List.set_cons_zero])
 refine hav_end (fun v11 hgz _ => ?_)
 simp only [List.filterMap]; have hb : Below v10.heap.size v10 v11 := hgz; have HB11 : Hid (Below w.heap.size w v11) := HB10.out.trans (hb.mono HB10.out.size); have HK11 := Lib.hid (HK10.out.below hb HK10.out.lt); have XA11 := Lib.hid (XA10.out.below hb XA10.out.lt); clear hgz hb hmk hw1 ht5 hZL; clear q0 q1 q2 q3 q4 q5 q6 q7 q8 q9 ql; obtain ⟨ht, hht⟩ : ∃ ht, hasT c = ht := ⟨_, rfl⟩; have HHT := Lib.hid hht; clear hht; have HSE : Hid (stayE c = if ht then 0 else 10) := by show _ = _; unfold stayE openE; rw [HOK.out, HHT.out]; cases ht <;> rfl
 have HDE : Hid (daysE c.riv c.draws = if ht then 0 else 10) := by
  show _ = _; have h := HHT.out; unfold hasT at h; unfold daysE toldE; rw [(okC_parts HOK.out).1, (okC_parts HOK.out).2.1, if_neg (by simp), if_neg (by simp)]
  by_cases e : truthsA c.riv.nat = []
  ·rw [e] at h; subst h; rw [if_pos e]; simp
  ·have : ht = true := by rw [← h]; simpa using e
   rw [if_neg e, this]; rfl
 obtain ⟨sv, hsv⟩ : ∃ sv, surelyV c.riv c.draws = sv := ⟨_, rfl⟩; obtain ⟨pv, hpv⟩ : ∃ pv, perhapsV c.riv c.draws = pv := ⟨_, rfl⟩; obtain ⟨lv, hlv⟩ : ∃ lv, stayV c = lv := ⟨_, rfl⟩; have HSV : Hid (surelyV c.riv c.draws = sv ∧ perhapsV c.riv c.draws = pv ∧ stayV c = lv) := ⟨hsv, hpv, hlv⟩; clear hsv hpv hlv; cases ht
 case false =>
  simp only [Bool.false_eq_true, if_false] at HSE HDE; have HL0 : Hid (lv = 0) := by show _ = _; rw [← HSV.out.2.2]; unfold stayV; rw [HSE.out]; rfl
  have hx := HK11.out; obtain ⟨q0, q1, q2, q3, q4, q5, q6, q7, q8, q9, ql⟩ := cx31 hx; clear hx; go_wp2_with fail; refine (PDays_any (fa := fa) (fl := fl) (fc := fc) (la := la) (ll := ll) (lc := lc) (r := c.riv) (w := v11) c.draws ((HP.out.grow HB11.out)).riv).mono ?_; rw [HSV.out.1, HSV.out.2.1, HDE.out]; rintro e v12 ⟨rfl, hb⟩; have HB12 : Hid (Below w.heap.size w v12) := HB11.out.trans (hb.mono HB11.out.size); have HK12 := Lib.hid (HK11.out.below hb HK11.out.lt); have XA12 := Lib.hid (XA11.out.below hb XA11.out.lt); clear hb; clear q0 q1 q2 q3 q4 q5 q6 q7 q8 q9 ql; have hx := HK12.out; obtain ⟨q0, q1, q2, q3, q4, q5, q6, q7, q8, q9, ql⟩ := cx31 hx; clear hx; go_wp2_with fail; refine (PStay_any (fa := fa) (fl := fl) (fc := fc) (la := la) (ll := ll) (lc := lc) (wa := wa) (wn := wn) (wc := wc) (ta := ta) (tn := tn) (tc := tc) (w := v12) (c := c) (HP.out.grow HB12.out)).mono ?_; rw [HSV.out.2.2, HSE.out]; rintro e v13 ⟨rfl, hb⟩; have HB13 : Hid (Below w.heap.size w v13) := HB12.out.trans (hb.mono HB12.out.size); have HK13 := Lib.hid (HK12.out.below hb HK12.out.lt); have XA13 := Lib.hid (XA12.out.below hb XA12.out.lt); clear hb; clear q0 q1 q2 q3 q4 q5 q6 q7 q8 q9 ql; rw [HL0.out]; go_wp2_with fail; refine (alive_any _).mono ?_; rintro e v14 ⟨rfl, hb⟩; have HB14 : Hid (Below w.heap.size w v14) := HB13.out.trans (hb.mono HB13.out.size); have HK14 := Lib.hid (HK13.out.below hb HK13.out.lt); have XA14 := Lib.hid (XA13.out.below hb XA13.out.lt); clear hb; go_wp2; go_ret
  exact ⟨rfl, HB14.out⟩
 simp only [if_true] at HSE HDE; have hx := HK11.out; obtain ⟨q0, q1, q2, q3, q4, q5, q6, q7, q8, q9, ql⟩ := cx31 hx; clear hx; go_wp2_with fail; refine (PDays_any (fa := fa) (fl := fl) (fc := fc) (la := la) (ll := ll) (lc := lc) (r := c.riv) (w := v11) c.draws ((HP.out.grow HB11.out)).riv).mono ?_; rw [HSV.out.1, HSV.out.2.1, HDE.out]; rintro e v15 ⟨rfl, hb⟩; have HB15 : Hid (Below w.heap.size w v15) := HB11.out.trans (hb.mono HB11.out.size); have HK15 := Lib.hid (HK11.out.below hb HK11.out.lt); have XA15 := Lib.hid (XA11.out.below hb XA11.out.lt); clear hb; clear q0 q1 q2 q3 q4 q5 q6 q7 q8 q9 ql; have hx := HK15.out; obtain ⟨q0, q1, q2, q3, q4, q5, q6, q7, q8, q9, ql⟩ := cx31 hx; clear hx; go_wp2_with fail; refine (PStay_any (fa := fa) (fl := fl) (fc := fc) (la := la) (ll := ll) (lc := lc) (wa := wa) (wn := wn) (wc := wc) (ta := ta) (tn := tn) (tc := tc) (w := v15) (c := c) (HP.out.grow HB15.out)).mono ?_; rw [HSV.out.2.2, HSE.out]; rintro e v16 ⟨rfl, hb⟩; have HB16 : Hid (Below w.heap.size w v16) := HB15.out.trans (hb.mono HB15.out.size); have HK16 := Lib.hid (HK15.out.below hb HK15.out.lt); have XA16 := Lib.hid (XA15.out.below hb XA15.out.lt); clear hb; clear q0 q1 q2 q3 q4 q5 q6 q7 q8 q9 ql; have HLV : Hid (lv = stayP c) := by show _ = _; rw [← HSV.out.2.2]; unfold stayV; rw [HSE.out]; rfl
 have HSU : Hid (sv = surelyP c.riv.nat c.draws.toNat ∧ pv = perhapsP c.riv.nat c.draws.toNat) := ⟨by rw [← HSV.out.1]; unfold surelyV; rw [HDE.out]; rfl, by rw [← HSV.out.2.1]; unfold perhapsV; rw [HDE.out]; rfl⟩
 have HTT : Hid (truthsA c.riv.nat ≠ []) := by have h := HHT.out; unfold hasT at h; show _ ≠ _; simpa using h
 by_cases hw0 : wn = 0
 case pos =>
  subst hw0
  have HL2 : Hid ((lv : Int) = 2 ^ tn - 1) := by
   show _ = _
   have h1 : stayP c = 2 ^ tn - 1 := by
    unfold stayP; rw [HET.out, ← setN_true tn]
    refine setN_congr _ fun i hi => ?_
    obtain ⟨l, hl⟩ : ∃ l, c.lt[i]? = some l := ⟨c.lt[i]'(by have := HET.out; omega), by simp⟩
    unfold staysB; rw [hl, HEW.out]
    rfl
   rw [HLV.out, h1]; have := Nat.two_pow_pos tn; have h2 : ((2 ^ tn : Nat) : Int) = 2 ^ tn := by push_cast; rfl
   omega
  have h2k : 2 ^ tn ≤ 32 := Nat.pow_le_pow_right (n := 2) (by omega) HW3.out.2
  have h2p : 1 ≤ 2 ^ tn := Nat.two_pow_pos tn; have hw2 : IntKind.i64.wrap (2 ^ tn) = 2 ^ tn := IntWalk.i64_in _ (by have := pow_cast tn; omega)
  have hw3 : IntKind.i64.wrap ((2 : Int) ^ tn - 1) = lv := by rw [HL2.out, IntWalk.i64_in _ (by have := pow_cast tn; omega)]
  have ht64 : (tn : Int) < 64 := by have := HW3.out.2; omega
  have hx := HK16.out; obtain ⟨q0, q1, q2, q3, q4, q5, q6, q7, q8, q9, ql⟩ := cx31 hx; clear hx; go_wp2_with fail; refine (alive_any _).mono ?_; rintro e v17 ⟨rfl, hb⟩; have HB17 : Hid (Below w.heap.size w v17) := HB16.out.trans (hb.mono HB16.out.size); have HK17 := Lib.hid (HK16.out.below hb HK16.out.lt); have XA17 := Lib.hid (XA16.out.below hb XA16.out.lt); clear hb; clear q0 q1 q2 q3 q4 q5 q6 q7 q8 q9 ql; go_wp2; go_ret
  exact ⟨rfl, HB17.out⟩
 have hwz : ((wn : Int) == 0) = false := by simp; exact hw0
 obtain ⟨kk, hkk⟩ : ∃ kk, which % wn = kk := ⟨_, rfl⟩; have hkw : kk < wn := by rw [← hkk]; exact Nat.mod_lt _ (by omega)
 have hrm : ((which : Int) % (wn : Int)) = (kk : Int) := by rw [← hkk]; rfl
 have hkw' : (kk : Int) < wn := by omega
 obtain ⟨gg, hgg⟩ : ∃ x, c.wg[kk]? = some x := ⟨c.wg[kk]'(by have := HEW.out; omega), by simp⟩
 have HG := Lib.hid hgg; have HGB := Lib.hid ((okC_parts HOK.out).2.2.2.2.1 gg (List.mem_of_getElem? hgg)); obtain ⟨bg, og, hwa, hbg, G0, G1, G2, G3⟩ := rd_wg ((HP.out.grow HB16.out)).hwg kk gg hgg; have HTB := Lib.hid (timely_bits (r := c.riv.nat) (n := c.draws.toNat) HGB.out); obtain ⟨T, hT⟩ : ∃ T, c.tm gg = T := ⟨_, rfl⟩; have HT := Lib.hid hT
 have HA2 : Hid (arrivesE c kk = 0 ∧ arrivesV c kk = (gg.leaves + gg.takes.lo, gg.leaves + gg.takes.hi)) := by
  have h0 : isWagB c kk = true := inB_iff.2 ⟨by omega, by have := HEW.out; omega⟩
  have h1 : arrivesE c kk = 0 := by unfold arrivesE; rw [HOK.out, h0]; rfl
  exact ⟨h1, by unfold arrivesV; rw [h1, if_pos rfl, Int.toNat_natCast, HG.out]; rfl⟩
 have HI2 : Hid (inTimeE c kk = 0 ∧ inTimeV c kk = T) := by
  have h0 : isWagB c kk = true := inB_iff.2 ⟨by omega, by have := HEW.out; omega⟩
  have h1 : inTimeE c kk = 0 := by unfold inTimeE; rw [h0]; unfold openE; rw [HOK.out, HHT.out]; rfl
  exact ⟨h1, by unfold inTimeV; rw [h1, if_pos rfl, Int.toNat_natCast, HG.out]; exact HT.out⟩
 obtain ⟨g0, ⟨g1, g2⟩, g3⟩ := gg; simp only at G0 G1 G2 G3 HA2; have hgB := wagB_iff.1 HGB.out; simp only at hgB; clear hgg hT hkk; have hx := HK16.out; obtain ⟨q0, q1, q2, q3, q4, q5, q6, q7, q8, q9, ql⟩ := cx31 hx; clear hx; rw [hwa] at q8; obtain ⟨V18, hV18⟩ : ∃ V, V = v16.alloc (.cells #[.int .i64 g0, .int .i64 g1, .int .i64 g2, .int .i64 g3] 65) := ⟨_, rfl⟩; obtain ⟨pXW, hpXW⟩ : ∃ q, q = v16.heap.size := ⟨_, rfl⟩; have hw : Below v16.heap.size v16 V18 := by rw [hV18]; exact (Below.refl _ _).alloc (Nat.le_refl _) _
 have XW : Hid (Blk V18 pXW 65 #[.int .i64 g0, .int .i64 g1, .int .i64 g2, .int .i64 g3]) := by rw [hV18, hpXW]; exact Blk.new v16 65 _
 go_upto_region 20 with (fail); clear q0 q1 q2 q3 q4 q5 q6 q7 q8 q9 ql; have HB18 : Hid (Below w.heap.size w V18) := HB16.out.trans (hw.mono HB16.out.size); have HK18 := Lib.hid (HK16.out.below hw HK16.out.lt); have XA18 := Lib.hid (XA16.out.below hw XA16.out.lt); rw [← hpXW, ← hV18, hrm]; clear hV18 hpXW hw G0 G1 G2 G3 hbg hwz hrm hwa; have hx := HK18.out; obtain ⟨q0, q1, q2, q3, q4, q5, q6, q7, q8, q9, ql⟩ := cx31 hx; clear hx; go_wp2_with fail; refine (PArrives_any (fa := fa) (fl := fl) (fc := fc) (la := la) (ll := ll) (lc := lc) (wa := wa) (wn := wn) (wc := wc) (ta := ta) (tn := tn) (tc := tc) (w := V18) (c := c) kk (HP.out.grow HB18.out)).mono ?_; rw [HA2.out.1, HA2.out.2]; rintro e v19 ⟨rfl, hb⟩; have HB19 : Hid (Below w.heap.size w v19) := HB18.out.trans (hb.mono HB18.out.size); have HK19 := Lib.hid (HK18.out.below hb HK18.out.lt); have XA19 := Lib.hid (XA18.out.below hb XA18.out.lt); have XW19 := Lib.hid (XW.out.below hb XW.out.lt); clear hb; clear q0 q1 q2 q3 q4 q5 q6 q7 q8 q9 ql; unfold spanV; obtain ⟨V20, hV20⟩ : ∃ V, V = v19.alloc (.cells #[.int .i64 (g0 + g1), .int .i64 (g0 + g2)] 23) := ⟨_, rfl⟩; obtain ⟨pXS, hpXS⟩ : ∃ q, q = v19.heap.size := ⟨_, rfl⟩; have hw : Below v19.heap.size v19 V20 := by rw [hV20]; exact (Below.refl _ _).alloc (Nat.le_refl _) _
 have XS : Hid (Blk V20 pXS 23 #[.int .i64 (g0 + g1), .int .i64 (g0 + g2)]) := by rw [hV20, hpXS]; exact Blk.new v19 23 _
 have HB20 : Hid (Below w.heap.size w V20) := HB19.out.trans (hw.mono HB19.out.size); have HK20 := Lib.hid (HK19.out.below hw HK19.out.lt); have XA20 := Lib.hid (XA19.out.below hw XA19.out.lt); have XW20 := Lib.hid (XW19.out.below hw XW19.out.lt); go_upto_region 21 with (fail); rw [← hpXS, ← hV20]; clear hV20 hpXS hw; have hx := HK20.out; obtain ⟨q0, q1, q2, q3, q4, q5, q6, q7, q8, q9, ql⟩ := cx31 hx; clear hx; go_wp2_with fail; refine (PInTime_any (fa := fa) (fl := fl) (fc := fc) (la := la) (ll := ll) (lc := lc) (wa := wa) (wn := wn) (wc := wc) (ta := ta) (tn := tn) (tc := tc) (w := V20) (c := c) kk (HP.out.grow HB20.out)).mono ?_; rw [HI2.out.1, HI2.out.2]; rintro e v21 ⟨rfl, hb⟩; have HB21 : Hid (Below w.heap.size w v21) := HB20.out.trans (hb.mono HB20.out.size); have HK21 := Lib.hid (HK20.out.below hb HK20.out.lt); have XA21 := Lib.hid (XA20.out.below hb XA20.out.lt); have XW21 := Lib.hid (XW20.out.below hb XW20.out.lt); have XS21 := Lib.hid (XS.out.below hb XS.out.lt); clear hb; clear q0 q1 q2 q3 q4 q5 q6 q7 q8 q9 ql; obtain ⟨S, hS⟩ : ∃ S, surelyP c.riv.nat c.draws.toNat = S := ⟨_, rfl⟩; obtain ⟨Q, hQ⟩ : ∃ Q, perhapsP c.riv.nat c.draws.toNat = Q := ⟨_, rfl⟩; obtain ⟨F, hF⟩ : ∃ F : Nat, g0 + g1 = F := ⟨(g0 + g1).toNat, by omega⟩
 obtain ⟨n, hn⟩ : ∃ n : Nat, g2 - g1 + 1 = n := ⟨(g2 - g1 + 1).toNat, by omega⟩
 have hF16 : F ≤ 16 ∧ n ≤ 6 ∧ 1 ≤ n := by omega
 have hFn : g0 + g2 = (F : Int) + n - 1 := by omega
 have hD10 : c.riv.nat.days ≤ 10 := by have := inB_iff.1 (okR_parts (okC_parts HOK.out).1).1.2.2.1; show c.riv.days.toNat ≤ 10; omega
 have HSB : Hid (S < 4611686018427387904) := by show _ < _; rw [← hS]; exact setN_bd _ (by omega)
 have HQB : Hid (Q < 4611686018427387904) := by show _ < _; rw [← hQ]; exact setN_bd _ (by omega)
 have HTB2 : Hid ((T = 2 ↔ allS S F n = true) ∧ (T = 0 ↔ someS Q F n = false) ∧ T ≤ 2) := by
  have h := HTB.out; rw [hF, hn, Int.toNat_natCast, Int.toNat_natCast, hS, hQ] at h; rw [← HT.out]; exact h
 have HSU2 : Hid (sv = S ∧ pv = Q) := by rw [← hS, ← hQ]; exact HSU.out
 have HFF : Hid (g0 + g1 = F ∧ g0 + g2 = (F : Int) + n - 1) := ⟨hF, hFn⟩; rw [hF, hFn] at XS21; rw [HSU2.out.1, HSU2.out.2]; have hwf1 : IntKind.i64.wrap (g0 + g1) = F := by rw [hF, IntWalk.i64_in _ (by omega)]
 have hwf2 : IntKind.i64.wrap (g0 + g2) = (F : Int) + n - 1 := by rw [hFn, IntWalk.i64_in _ (by omega)]
 clear hS hQ hF hn hFn hD10 hgB HTB HSU; have x0 := XW21.out.cell 0; have x1 := XW21.out.cell 1; have x2 := XW21.out.cell 2; have x3 := XW21.out.cell 3; have xl := XW21.out.lt; simp at x0 x1 x2 x3; go_wp2; clear x0 x1 x2 x3 xl
 go_loopw [28, 29, 30] (fun a s i wr => ∃ j : Nat, j ≤ n ∧ i = .int .i64 ((F : Int) + j) ∧ a = .bool (allS S F j) ∧ s = .bool (someS Q F j) ∧ Hid (Below w.heap.size w wr) ∧ Hid (Below v21.heap.size v21 wr)) (fun _ _ i _ => F + n - (intOf i).toNat)
 case atStart => exact ⟨0, Nat.zero_le _, by simp, rfl, rfl, HB21, Below.refl _ _⟩
 case round =>
  obtain ⟨j, hj, rfl, rfl, rfl, HBR, HBX⟩ := hrel; have HXW := Lib.hid (XW21.out.below HBX.out XW21.out.lt); have x0 := HXW.out.cell 0; have x1 := HXW.out.cell 1; have x2 := HXW.out.cell 2; have xl := HXW.out.lt; simp at x0 x1 x2
  by_cases hlt : j < n
  ·have HA : Hid (allS S F (j + 1) = (allS S F j && S.testBit (F + j))) := rfl; have HS2 : Hid (someS Q F (j + 1) = (someS Q F j || Q.testBit (F + j))) := rfl; obtain ⟨a, ha⟩ : ∃ a, allS S F j = a := ⟨_, rfl⟩; obtain ⟨s, hs⟩ : ∃ s, someS Q F j = s := ⟨_, rfl⟩; obtain ⟨x, hx⟩ : ∃ x, S.testBit (F + j) = x := ⟨_, rfl⟩; obtain ⟨y, hy⟩ : ∃ y, Q.testBit (F + j) = y := ⟨_, rfl⟩; obtain ⟨dd, hdd⟩ : ∃ dd, F + j = dd := ⟨_, rfl⟩; obtain ⟨v1, hv1, hq1⟩ := bit_val S dd HSB.out (x := x) (by rw [← hdd, hx])
   obtain ⟨v2, hv2, hq2⟩ := bit_val Q dd HQB.out (x := y) (by rw [← hdd, hy])
   have hd64 : (dd : Int) < 64 := by omega
   have hdi : (F : Int) + j = (dd : Int) := by omega
   have hle : (dd : Int) ≤ (F : Int) + n - 1 := by omega
   have HDI := Lib.hid hdi; rw [ha, hx] at HA; rw [hs, hy] at HS2; rw [ha, hs, hdi]; clear ha hs hx hy hdd hdi; go_upto_region 26 with (fail); clear x0 x1 x2 xl hle; cases a
   ·cases s
    ·refine wp_region_havoc [(0,false),(1,false),(2,false),(3,false),(4,false),(5,false),(6,false),(7,false),(8,false),(9,false),(10,false),(11,false),(12,false),(13,false),(14,false),(15,false),(16,false),(17,false)] [] (fun _ _ => False) (by kernel_rfl) (by kernel_rfl) (fun _ _ _ _ h => h.elim) ?_
     iterate 2 (apply hav_same (by exact ho rfl) (by kernel_rfl); (focus (intro wv hgv _; have hcv := cvB hgv; (try go_simp); try rfl; done)); simp only [Act.put, List.setIfInBounds_toArray, List.set_cons_succ, List.set_cons_zero])
     iterate 5 (refine hav_skip (by exact ho rfl) (by kernel_rfl) ?_; simp only [Act.put, List.setIfInBounds_toArray, List.set_cons_succ, List.set_cons_zero])
     (apply hav_same (by exact ho rfl) (by kernel_rfl); (focus (intro wv hgv _; have hcv := cvB hgv; (try go_simp); try rfl; done)); simp only [Act.put, List.setIfInBounds_toArray, List.set_cons_succ, List.set_cons_zero])
     iterate 2 (apply hav_same (by exact ho rfl) (by kernel_rfl); (focus (intro wv hgv _; have hcv := cvB hgv; (try go_simp); try rfl; done)); simp only [Act.put, List.setIfInBounds_toArray, List.set_cons_succ, List.set_cons_zero])
     iterate 5 (apply hav_same (by exact ho rfl) (by kernel_rfl); (focus (intro wv hgv _; have hcv := cvB hgv; (try go_simp); try rfl; done)); simp only [Act.put, List.setIfInBounds_toArray, List.set_cons_succ, List.set_cons_zero])
     (apply hav_same (by exact ho rfl) (by kernel_rfl); (focus (intro wv hgv _; have hcv := cvB hgv; (try go_simp); try rfl; done)); simp only [Act.put, List.setIfInBounds_toArray, List.set_cons_succ, List.set_cons_zero])
     iterate 2 (apply hav_same (by exact ho rfl) (by kernel_rfl); (focus (intro wv hgv _; have hcv := cvB hgv; (try go_simp); try rfl; done)); simp only [Act.put, List.setIfInBounds_toArray, List.set_cons_succ, List.set_cons_zero])
     refine hav_end (fun w5 hgz _ => ?_)
     simp only [List.filterMap]; have hb5 : Below wr.heap.size wr w5 := hgz; have HB5 : Hid (Below w.heap.size w w5) := HBR.out.trans (hb5.mono HBR.out.size); have HX5 : Hid (Below v21.heap.size v21 w5) := HBX.out.trans (hb5.mono HBX.out.size); have hws : IntKind.i64.wrap ((dd : Int) + 1) = (dd : Int) + 1 := IntWalk.i64_in _ (by omega)
     clear hgz hb5 hv1 hv2 hq1 hq2; go_wp2; go_roundw
     case rel => exact ⟨j + 1, by omega, by have := HDI.out; go_num, by rw [HA.out]; simp, by rw [HS2.out]; simp, HB5, HX5⟩
     case measure => have := HDI.out; simp [intOf]; omega
    ·refine wp_region_havoc [(0,false),(1,false),(2,false),(3,false),(4,false),(5,false),(6,false),(7,false),(8,false),(9,false),(10,false),(11,false),(12,false),(13,false),(14,false),(15,false),(16,false),(17,false)] [] (fun _ _ => False) (by kernel_rfl) (by kernel_rfl) (fun _ _ _ _ h => h.elim) ?_
     iterate 2 (apply hav_same (by exact ho rfl) (by kernel_rfl); (focus (intro wv hgv _; have hcv := cvB hgv; (try go_simp); try rfl; done)); simp only [Act.put, List.setIfInBounds_toArray, List.set_cons_succ, List.set_cons_zero])
     iterate 5 (refine hav_skip (by exact ho rfl) (by kernel_rfl) ?_; simp only [Act.put, List.setIfInBounds_toArray, List.set_cons_succ, List.set_cons_zero])
     (apply hav_same (by exact ho rfl) (by kernel_rfl); (focus (intro wv hgv _; have hcv := cvB hgv; (try go_simp); try rfl; done)); simp only [Act.put, List.setIfInBounds_toArray, List.set_cons_succ, List.set_cons_zero])
     iterate 2 (apply hav_same (by exact ho rfl) (by kernel_rfl); (focus (intro wv hgv _; have hcv := cvB hgv; (try go_simp); try rfl; done)); simp only [Act.put, List.setIfInBounds_toArray, List.set_cons_succ, List.set_cons_zero])
     iterate 5 (refine hav_skip (by exact ho rfl) (by kernel_rfl) ?_; simp only [Act.put, List.setIfInBounds_toArray, List.set_cons_succ, List.set_cons_zero])
     (apply hav_same (by exact ho rfl) (by kernel_rfl); (focus (intro wv hgv _; have hcv := cvB hgv; (try go_simp); try rfl; done)); simp only [Act.put, List.setIfInBounds_toArray, List.set_cons_succ, List.set_cons_zero])
     iterate 2 (apply hav_same (by exact ho rfl) (by kernel_rfl); (focus (intro wv hgv _; have hcv := cvB hgv; (try go_simp); try rfl; done)); simp only [Act.put, List.setIfInBounds_toArray, List.set_cons_succ, List.set_cons_zero])
     refine hav_end (fun w5 hgz _ => ?_)
     simp only [List.filterMap]; have hb5 : Below wr.heap.size wr w5 := hgz; have HB5 : Hid (Below w.heap.size w w5) := HBR.out.trans (hb5.mono HBR.out.size); have HX5 : Hid (Below v21.heap.size v21 w5) := HBX.out.trans (hb5.mono HBX.out.size); have hws : IntKind.i64.wrap ((dd : Int) + 1) = (dd : Int) + 1 := IntWalk.i64_in _ (by omega)
     clear hgz hb5 hv1 hv2 hq1 hq2; go_wp2; go_roundw
     case rel => exact ⟨j + 1, by omega, by have := HDI.out; go_num, by rw [HA.out]; simp, by rw [HS2.out]; simp, HB5, HX5⟩
     case measure => have := HDI.out; simp [intOf]; omega
   ·cases s
    ·refine wp_region_havoc [(0,false),(1,false),(2,false),(3,false),(4,false),(5,false),(6,false),(7,false),(8,false),(9,false),(10,false),(11,false),(12,false),(13,false),(14,false),(15,false),(16,false),(17,false)] [] (fun _ _ => False) (by kernel_rfl) (by kernel_rfl) (fun _ _ _ _ h => h.elim) ?_
     iterate 2 (apply hav_same (by exact ho rfl) (by kernel_rfl); (focus (intro wv hgv _; have hcv := cvB hgv; (try go_simp); try rfl; done)); simp only [Act.put, List.setIfInBounds_toArray, List.set_cons_succ, List.set_cons_zero])
     iterate 5 (apply hav_same (by exact ho rfl) (by kernel_rfl); (focus (intro wv hgv _; have hcv := cvB hgv; (try go_simp); try rfl; done)); simp only [Act.put, List.setIfInBounds_toArray, List.set_cons_succ, List.set_cons_zero])
     (apply hav_same (by exact ho rfl) (by kernel_rfl); (focus (intro wv hgv _; have hcv := cvB hgv; (try go_simp); try rfl; done)); simp only [Act.put, List.setIfInBounds_toArray, List.set_cons_succ, List.set_cons_zero])
     iterate 2 (apply hav_same (by exact ho rfl) (by kernel_rfl); (focus (intro wv hgv _; have hcv := cvB hgv; (try go_simp); try rfl; done)); simp only [Act.put, List.setIfInBounds_toArray, List.set_cons_succ, List.set_cons_zero])
     iterate 5 (apply hav_same (by exact ho rfl) (by kernel_rfl); (focus (intro wv hgv _; have hcv := cvB hgv; (try go_simp); try rfl; done)); simp only [Act.put, List.setIfInBounds_toArray, List.set_cons_succ, List.set_cons_zero])
     (apply hav_same (by exact ho rfl) (by kernel_rfl); (focus (intro wv hgv _; have hcv := cvB hgv; (try go_simp); try rfl; done)); simp only [Act.put, List.setIfInBounds_toArray, List.set_cons_succ, List.set_cons_zero])
     iterate 2 (apply hav_same (by exact ho rfl) (by kernel_rfl); (focus (intro wv hgv _; have hcv := cvB hgv; (try go_simp); try rfl; done)); simp only [Act.put, List.setIfInBounds_toArray, List.set_cons_succ, List.set_cons_zero])
     refine hav_end (fun w5 hgz _ => ?_)
     simp only [List.filterMap]; have hb5 : Below wr.heap.size wr w5 := hgz; have HB5 : Hid (Below w.heap.size w w5) := HBR.out.trans (hb5.mono HBR.out.size); have HX5 : Hid (Below v21.heap.size v21 w5) := HBX.out.trans (hb5.mono HBX.out.size); have hws : IntKind.i64.wrap ((dd : Int) + 1) = (dd : Int) + 1 := IntWalk.i64_in _ (by omega)
     clear hgz hb5 hv1 hv2 hq1 hq2; go_wp2; go_roundw
     case rel => exact ⟨j + 1, by omega, by have := HDI.out; go_num, by rw [HA.out]; simp, by rw [HS2.out]; simp, HB5, HX5⟩
     case measure => have := HDI.out; simp [intOf]; omega
    ·refine wp_region_havoc [(0,false),(1,false),(2,false),(3,false),(4,false),(5,false),(6,false),(7,false),(8,false),(9,false),(10,false),(11,false),(12,false),(13,false),(14,false),(15,false),(16,false),(17,false)] [] (fun _ _ => False) (by kernel_rfl) (by kernel_rfl) (fun _ _ _ _ h => h.elim) ?_
     iterate 2 (apply hav_same (by exact ho rfl) (by kernel_rfl); (focus (intro wv hgv _; have hcv := cvB hgv; (try go_simp); try rfl; done)); simp only [Act.put, List.setIfInBounds_toArray, List.set_cons_succ, List.set_cons_zero])
     iterate 5 (apply hav_same (by exact ho rfl) (by kernel_rfl); (focus (intro wv hgv _; have hcv := cvB hgv; (try go_simp); try rfl; done)); simp only [Act.put, List.setIfInBounds_toArray, List.set_cons_succ, List.set_cons_zero])
     (apply hav_same (by exact ho rfl) (by kernel_rfl); (focus (intro wv hgv _; have hcv := cvB hgv; (try go_simp); try rfl; done)); simp only [Act.put, List.setIfInBounds_toArray, List.set_cons_succ, List.set_cons_zero])
     iterate 2 (apply hav_same (by exact ho rfl) (by kernel_rfl); (focus (intro wv hgv _; have hcv := cvB hgv; (try go_simp); try rfl; done)); simp only [Act.put, List.setIfInBounds_toArray, List.set_cons_succ, List.set_cons_zero])
     iterate 5 (refine hav_skip (by exact ho rfl) (by kernel_rfl) ?_; simp only [Act.put, List.setIfInBounds_toArray, List.set_cons_succ, List.set_cons_zero])
     (apply hav_same (by exact ho rfl) (by kernel_rfl); (focus (intro wv hgv _; have hcv := cvB hgv; (try go_simp); try rfl; done)); simp only [Act.put, List.setIfInBounds_toArray, List.set_cons_succ, List.set_cons_zero])
     iterate 2 (apply hav_same (by exact ho rfl) (by kernel_rfl); (focus (intro wv hgv _; have hcv := cvB hgv; (try go_simp); try rfl; done)); simp only [Act.put, List.setIfInBounds_toArray, List.set_cons_succ, List.set_cons_zero])
     refine hav_end (fun w5 hgz _ => ?_)
     simp only [List.filterMap]; have hb5 : Below wr.heap.size wr w5 := hgz; have HB5 : Hid (Below w.heap.size w w5) := HBR.out.trans (hb5.mono HBR.out.size); have HX5 : Hid (Below v21.heap.size v21 w5) := HBX.out.trans (hb5.mono HBX.out.size); have hws : IntKind.i64.wrap ((dd : Int) + 1) = (dd : Int) + 1 := IntWalk.i64_in _ (by omega)
     clear hgz hb5 hv1 hv2 hq1 hq2; go_wp2; go_roundw
     case rel => exact ⟨j + 1, by omega, by have := HDI.out; go_num, by rw [HA.out]; simp, by rw [HS2.out]; simp, HB5, HX5⟩
     case measure => have := HDI.out; simp [intOf]; omega
  ·obtain rfl : j = n := by omega
   have hle : ¬ ((F : Int) + j ≤ (F : Int) + j - 1) := by omega
   have HKR := Lib.hid (HK21.out.below HBX.out HK21.out.lt); have HXS := Lib.hid (XS21.out.below HBX.out XS21.out.lt); obtain ⟨a, ha⟩ : ∃ a, allS S F j = a := ⟨_, rfl⟩; obtain ⟨s, hs⟩ : ∃ s, someS Q F j = s := ⟨_, rfl⟩; rw [ha, hs] at HTB2; rw [ha, hs]
   have h3 : (T = 2 ∧ a = true ∧ s = true) ∨ (T = 1 ∧ a = false ∧ s = true) ∨ (T = 0 ∧ a = false ∧ s = false) := by
    obtain ⟨h1, h2, h4⟩ := HTB2.out
    cases a <;> cases s <;> simp at h1 h2 ⊢ <;> omega
   have y0 := HXS.out.cell 0; have y1 := HXS.out.cell 1; have yl := HXS.out.lt; simp at y0 y1; clear ha hs; go_upto_region 27 with (fail); clear hle; rcases h3 with ⟨rfl, rfl, rfl⟩ | ⟨rfl, rfl, rfl⟩ | ⟨rfl, rfl, rfl⟩
   ·refine wp_region_havoc [(0,false),(1,false),(2,false),(3,false),(4,false),(5,false),(6,false),(7,false),(8,false),(9,false),(10,false),(11,false),(12,false),(13,false),(14,false),(15,false),(16,false),(17,false),(18,false),(19,false),(20,false),(21,false),(22,false),(23,false),(24,false),(25,false),(26,false),(27,false),(28,false),(29,false),(30,false),(31,false),(32,false),(33,false),(34,false),(35,false),(36,false),(37,false),(38,false),(39,false),(40,false),(41,false),(42,false)] [] (fun _ _ => False) (by kernel_rfl) (by kernel_rfl) (fun _ _ _ _ h => h.elim) ?_
    (apply hav_same (by exact ho rfl) (by kernel_rfl); (focus (intro wv hgv _; have hcv := cvB hgv; (try go_simp); try rfl; done)); simp only [Act.put, List.setIfInBounds_toArray, List.set_cons_succ, List.set_cons_zero])
    iterate 19 (apply hav_same (by exact ho rfl) (by kernel_rfl); (focus (intro wv hgv _; have hcv := cvB hgv; (try go_simp); try rfl; done)); simp only [Act.put, List.setIfInBounds_toArray, List.set_cons_succ, List.set_cons_zero])
    (apply hav_call (by exact ho rfl) (by kernel_rfl); (focus (intro wv; go_simp; try exact ⟨rfl, rfl⟩; done)); (focus (intro wv hgv _; exact lspan_any _ _ wv; done)); simp only [Act.put, List.setIfInBounds_toArray, List.set_cons_succ, List.set_cons_zero])
    iterate 22 (apply hav_same (by exact ho rfl) (by kernel_rfl); (focus (intro wv hgv _; have hcv := cvB hgv; (try go_simp); try rfl; done)); simp only [Act.put, List.setIfInBounds_toArray, List.set_cons_succ, List.set_cons_zero])
    refine hav_end (fun v61 hgz _ => ?_)
    simp only [List.filterMap]; have hb : Below wr.heap.size wr v61 := hgz; have HB61 : Hid (Below w.heap.size w v61) := HBR.out.trans (hb.mono HBR.out.size); have HK61 := Lib.hid (HKR.out.below hb HKR.out.lt); clear hgz hb x0 x1 x2 xl y0 y1 yl; have hx := HK61.out; obtain ⟨q0, q1, q2, q3, q4, q5, q6, q7, q8, q9, ql⟩ := cx31 hx; clear hx
    by_cases hd0 : c.draws = 0
    case pos =>
     rw [hd0] at q7; go_wp2_with fail; refine (alive_any _).mono ?_; rintro e v62 ⟨rfl, hb⟩; have HB62 : Hid (Below w.heap.size w v62) := HB61.out.trans (hb.mono HB61.out.size); have HK62 := Lib.hid (HK61.out.below hb HK61.out.lt); clear hb; clear q0 q1 q2 q3 q4 q5 q6 q7 q8 q9 ql; go_wp2; go_ret
     exact ⟨rfl, HB62.out⟩
    have hdz : (c.draws == 0) = false := by simp; exact hd0
    have hdr := inB_iff.1 (okC_parts HOK.out).2.1; have hws : IntKind.i64.wrap (c.draws - 1) = c.draws - 1 := IntWalk.i64_in _ (by omega)
    obtain ⟨c', hc'⟩ : ∃ c' : ICart, c' = { c with draws := c.draws - 1 } := ⟨_, rfl⟩
    have hok' : okC c' = true := by
     have h := HOK.out; rw [hc']; unfold okC headC at h ⊢; simp only [Bool.and_eq_true] at h ⊢; exact ⟨⟨⟨h.1.1.1, inB_iff.2 ⟨by omega, by omega⟩, h.1.1.2.2⟩, h.1.2⟩, h.2⟩
    have HIE : Hid (inTimeE c' kk = 0) := by
     have h0 : isWagB c' kk = true := by rw [hc']; exact inB_iff.2 ⟨by omega, by have := HEW.out; simp only; omega⟩
     show _ = _; unfold inTimeE; rw [h0]; unfold openE; rw [hok', show hasT c' = true by rw [hc']; exact HHT.out]
     rfl
    obtain ⟨T2, hT2⟩ : ∃ T2, inTimeV c' kk = T2 := ⟨_, rfl⟩
    have HLE : Hid (2 ≤ T2) := by
     show _ ≤ _; rw [← hT2]; unfold inTimeV; rw [HIE.out, if_pos rfl, Int.toNat_natCast, hc']; simp only; rw [HG.out]; simp only; have h := timely_less (r := c.riv.nat) HTT.out (n := c.draws.toNat) (m := (c.draws - 1).toNat) (by omega) ⟨g0, ⟨g1, g2⟩, g3⟩
     rw [show timelyW c.riv.nat c.draws.toNat ⟨g0, ⟨g1, g2⟩, g3⟩ = 2 from HT.out] at h
     exact h
    have HT2 := Lib.hid hT2
    have HP' : Hid (CtIn v61 v61.heap.size fa fl la ll wa wn ta tn c') := by
     have h := (HP.out.grow HB61.out); show CtIn _ _ _ _ _ _ _ _ _ _ _; rw [hc']; exact ⟨h.riv, h.ewn, h.etn, h.hwg, h.hlt, h.mwn, h.mtn⟩
    have HCE : Hid (c'.riv = c.riv ∧ c'.draws = c.draws - 1) := by rw [hc']; exact ⟨rfl, rfl⟩
    obtain ⟨V63, hV63⟩ : ∃ V, V = v61.alloc (.cells #[.int .i64 c.riv.depth.lo, .int .i64 c.riv.depth.hi, .int .i64 c.riv.fall.lo, .int .i64 c.riv.fall.hi, .int .i64 c.riv.days, .slice fa fl fc, .slice la ll lc, .int .i64 c.draws, .slice wa wn wc, .slice ta tn tc] 31) := ⟨_, rfl⟩; obtain ⟨pX, hpX⟩ : ∃ q, q = v61.heap.size := ⟨_, rfl⟩; have hw : Below v61.heap.size v61 V63 := by rw [hV63]; exact (Below.refl _ _).alloc (Nat.le_refl _) _
    have XC : Hid (Blk V63 pX 31 #[.int .i64 c.riv.depth.lo, .int .i64 c.riv.depth.hi, .int .i64 c.riv.fall.lo, .int .i64 c.riv.fall.hi, .int .i64 c.riv.days, .slice fa fl fc, .slice la ll lc, .int .i64 c.draws, .slice wa wn wc, .slice ta tn tc]) := by rw [hV63, hpX]; exact Blk.new v61 31 _
    clear hT2 hc' hok' hd0; go_upto_region 32 with (fail); clear q0 q1 q2 q3 q4 q5 q6 q7 q8 q9 ql; have HB63 : Hid (Below w.heap.size w V63) := HB61.out.trans (hw.mono HB61.out.size); have HK63 := Lib.hid (HK61.out.below hw HK61.out.lt); rw [← hpX, ← hV63]; have HPX : Hid (w.heap.size ≤ pX ∧ v61.heap.size ≤ pX) := by rw [hpX]; exact ⟨HB61.out.size, Nat.le_refl _⟩
    have HP2 : Hid (CtIn V63 v61.heap.size fa fl la ll wa wn ta tn c') := HP'.out.below hw; clear hV63 hpX hw hdz; obtain ⟨z0, z1, z2, z3, z4, z5, z6, z7, z8, z9, zl⟩ := cx31 XC.out; have f7 := XC.out.frozen 7; go_upto_region 33 with (fail); obtain ⟨Y, hY⟩ : ∃ Y, Y = V63.setCell ⟨pX, 7, none⟩ (.int .i64 (c.draws - 1)) := ⟨_, rfl⟩; rw [← hY]; have XD : Hid (Blk Y pX 31 #[.int .i64 c.riv.depth.lo, .int .i64 c.riv.depth.hi, .int .i64 c.riv.fall.lo, .int .i64 c.riv.fall.hi, .int .i64 c.riv.days, .slice fa fl fc, .slice la ll lc, .int .i64 (c.draws - 1), .slice wa wn wc, .slice ta tn tc]) := by rw [hY]; exact XC.out.set_ 7 _
    have HBY : Hid (Below w.heap.size w Y) := by rw [hY]; exact HB63.out.setCell (p := ⟨pX, 7, none⟩) HPX.out.1 _
    have hbY : Below v61.heap.size V63 Y := by rw [hY]; exact (Below.refl _ _).setCell (p := ⟨pX, 7, none⟩) HPX.out.2 _
    have HPY : Hid (CtIn Y Y.heap.size fa fl la ll wa wn ta tn c') := (HP2.out.below hbY).more (by have h1 := XD.out.lt; have h2 := HPX.out.2; omega)
    clear hY hbY z0 z1 z2 z3 z4 z5 z6 z7 z8 z9 zl f7 hws; obtain ⟨z0, z1, z2, z3, z4, z5, z6, z7, z8, z9, zl⟩ := cx31 XD.out; have h9 := (PInTime_any (fa := fa) (fl := fl) (fc := fc) (la := la) (ll := ll) (lc := lc) (wa := wa) (wn := wn) (wc := wc) (ta := ta) (tn := tn) (tc := tc) (w := Y) (c := c') kk HPY.out); rw [HCE.out.1, HCE.out.2, HIE.out, HT2.out] at h9; have H9 := Lib.hid h9; clear h9; go_wp2_with fail; refine H9.out.mono ?_; rintro e v99 ⟨rfl, hb⟩; have HB99 : Hid (Below w.heap.size w v99) := HBY.out.trans (hb.mono HBY.out.size); clear hb z0 z1 z2 z3 z4 z5 z6 z7 z8 z9 zl; have hle : (2 : Int) ≤ T2 := by have := HLE.out; omega
    go_wp2_with fail; refine (alive_any _).mono ?_
    rintro e v98 ⟨rfl, hb⟩; have HB98 : Hid (Below w.heap.size w v98) := HB99.out.trans (hb.mono HB99.out.size); clear hb; go_wp2; go_ret
    exact ⟨rfl, HB98.out⟩
   ·refine wp_region_havoc [(0,false),(1,false),(2,false),(3,false),(4,false),(5,false),(6,false),(7,false),(8,false),(9,false),(10,false),(11,false),(12,false),(13,false),(14,false),(15,false),(16,false),(17,false),(18,false),(19,false),(20,false),(21,false),(22,false),(23,false),(24,false),(25,false),(26,false),(27,false),(28,false),(29,false),(30,false),(31,false),(32,false),(33,false),(34,false),(35,false),(36,false),(37,false),(38,false),(39,false),(40,false),(41,false),(42,false)] [] (fun _ _ => False) (by kernel_rfl) (by kernel_rfl) (fun _ _ _ _ h => h.elim) ?_
    (apply hav_same (by exact ho rfl) (by kernel_rfl); (focus (intro wv hgv _; have hcv := cvB hgv; (try go_simp); try rfl; done)); simp only [Act.put, List.setIfInBounds_toArray, List.set_cons_succ, List.set_cons_zero])
    iterate 19 (apply hav_same (by exact ho rfl) (by kernel_rfl); (focus (intro wv hgv _; have hcv := cvB hgv; (try go_simp); try rfl; done)); simp only [Act.put, List.setIfInBounds_toArray, List.set_cons_succ, List.set_cons_zero])
    (apply hav_call (by exact ho rfl) (by kernel_rfl); (focus (intro wv; go_simp; try exact ⟨rfl, rfl⟩; done)); (focus (intro wv hgv _; exact lspan_any _ _ wv; done)); simp only [Act.put, List.setIfInBounds_toArray, List.set_cons_succ, List.set_cons_zero])
    iterate 22 (apply hav_same (by exact ho rfl) (by kernel_rfl); (focus (intro wv hgv _; have hcv := cvB hgv; (try go_simp); try rfl; done)); simp only [Act.put, List.setIfInBounds_toArray, List.set_cons_succ, List.set_cons_zero])
    refine hav_end (fun v64 hgz _ => ?_)
    simp only [List.filterMap]; have hb : Below wr.heap.size wr v64 := hgz; have HB64 : Hid (Below w.heap.size w v64) := HBR.out.trans (hb.mono HBR.out.size); have HK64 := Lib.hid (HKR.out.below hb HKR.out.lt); clear hgz hb x0 x1 x2 xl y0 y1 yl; have hx := HK64.out; obtain ⟨q0, q1, q2, q3, q4, q5, q6, q7, q8, q9, ql⟩ := cx31 hx; clear hx
    by_cases hd0 : c.draws = 0
    case pos =>
     rw [hd0] at q7; go_wp2_with fail; refine (alive_any _).mono ?_; rintro e v65 ⟨rfl, hb⟩; have HB65 : Hid (Below w.heap.size w v65) := HB64.out.trans (hb.mono HB64.out.size); have HK65 := Lib.hid (HK64.out.below hb HK64.out.lt); clear hb; clear q0 q1 q2 q3 q4 q5 q6 q7 q8 q9 ql; go_wp2; go_ret
     exact ⟨rfl, HB65.out⟩
    have hdz : (c.draws == 0) = false := by simp; exact hd0
    have hdr := inB_iff.1 (okC_parts HOK.out).2.1; have hws : IntKind.i64.wrap (c.draws - 1) = c.draws - 1 := IntWalk.i64_in _ (by omega)
    obtain ⟨c', hc'⟩ : ∃ c' : ICart, c' = { c with draws := c.draws - 1 } := ⟨_, rfl⟩
    have hok' : okC c' = true := by
     have h := HOK.out; rw [hc']; unfold okC headC at h ⊢; simp only [Bool.and_eq_true] at h ⊢; exact ⟨⟨⟨h.1.1.1, inB_iff.2 ⟨by omega, by omega⟩, h.1.1.2.2⟩, h.1.2⟩, h.2⟩
    have HIE : Hid (inTimeE c' kk = 0) := by
     have h0 : isWagB c' kk = true := by rw [hc']; exact inB_iff.2 ⟨by omega, by have := HEW.out; simp only; omega⟩
     show _ = _; unfold inTimeE; rw [h0]; unfold openE; rw [hok', show hasT c' = true by rw [hc']; exact HHT.out]
     rfl
    obtain ⟨T2, hT2⟩ : ∃ T2, inTimeV c' kk = T2 := ⟨_, rfl⟩
    have HLE : Hid (1 ≤ T2) := by
     show _ ≤ _; rw [← hT2]; unfold inTimeV; rw [HIE.out, if_pos rfl, Int.toNat_natCast, hc']; simp only; rw [HG.out]; simp only; have h := timely_less (r := c.riv.nat) HTT.out (n := c.draws.toNat) (m := (c.draws - 1).toNat) (by omega) ⟨g0, ⟨g1, g2⟩, g3⟩
     rw [show timelyW c.riv.nat c.draws.toNat ⟨g0, ⟨g1, g2⟩, g3⟩ = 1 from HT.out] at h
     exact h
    have HT2 := Lib.hid hT2
    have HP' : Hid (CtIn v64 v64.heap.size fa fl la ll wa wn ta tn c') := by
     have h := (HP.out.grow HB64.out); show CtIn _ _ _ _ _ _ _ _ _ _ _; rw [hc']; exact ⟨h.riv, h.ewn, h.etn, h.hwg, h.hlt, h.mwn, h.mtn⟩
    have HCE : Hid (c'.riv = c.riv ∧ c'.draws = c.draws - 1) := by rw [hc']; exact ⟨rfl, rfl⟩
    obtain ⟨V66, hV66⟩ : ∃ V, V = v64.alloc (.cells #[.int .i64 c.riv.depth.lo, .int .i64 c.riv.depth.hi, .int .i64 c.riv.fall.lo, .int .i64 c.riv.fall.hi, .int .i64 c.riv.days, .slice fa fl fc, .slice la ll lc, .int .i64 c.draws, .slice wa wn wc, .slice ta tn tc] 31) := ⟨_, rfl⟩; obtain ⟨pX, hpX⟩ : ∃ q, q = v64.heap.size := ⟨_, rfl⟩; have hw : Below v64.heap.size v64 V66 := by rw [hV66]; exact (Below.refl _ _).alloc (Nat.le_refl _) _
    have XC : Hid (Blk V66 pX 31 #[.int .i64 c.riv.depth.lo, .int .i64 c.riv.depth.hi, .int .i64 c.riv.fall.lo, .int .i64 c.riv.fall.hi, .int .i64 c.riv.days, .slice fa fl fc, .slice la ll lc, .int .i64 c.draws, .slice wa wn wc, .slice ta tn tc]) := by rw [hV66, hpX]; exact Blk.new v64 31 _
    clear hT2 hc' hok' hd0; go_upto_region 32 with (fail); clear q0 q1 q2 q3 q4 q5 q6 q7 q8 q9 ql; have HB66 : Hid (Below w.heap.size w V66) := HB64.out.trans (hw.mono HB64.out.size); have HK66 := Lib.hid (HK64.out.below hw HK64.out.lt); rw [← hpX, ← hV66]; have HPX : Hid (w.heap.size ≤ pX ∧ v64.heap.size ≤ pX) := by rw [hpX]; exact ⟨HB64.out.size, Nat.le_refl _⟩
    have HP2 : Hid (CtIn V66 v64.heap.size fa fl la ll wa wn ta tn c') := HP'.out.below hw; clear hV66 hpX hw hdz; obtain ⟨z0, z1, z2, z3, z4, z5, z6, z7, z8, z9, zl⟩ := cx31 XC.out; have f7 := XC.out.frozen 7; go_upto_region 33 with (fail); obtain ⟨Y, hY⟩ : ∃ Y, Y = V66.setCell ⟨pX, 7, none⟩ (.int .i64 (c.draws - 1)) := ⟨_, rfl⟩; rw [← hY]; have XD : Hid (Blk Y pX 31 #[.int .i64 c.riv.depth.lo, .int .i64 c.riv.depth.hi, .int .i64 c.riv.fall.lo, .int .i64 c.riv.fall.hi, .int .i64 c.riv.days, .slice fa fl fc, .slice la ll lc, .int .i64 (c.draws - 1), .slice wa wn wc, .slice ta tn tc]) := by rw [hY]; exact XC.out.set_ 7 _
    have HBY : Hid (Below w.heap.size w Y) := by rw [hY]; exact HB66.out.setCell (p := ⟨pX, 7, none⟩) HPX.out.1 _
    have hbY : Below v64.heap.size V66 Y := by rw [hY]; exact (Below.refl _ _).setCell (p := ⟨pX, 7, none⟩) HPX.out.2 _
    have HPY : Hid (CtIn Y Y.heap.size fa fl la ll wa wn ta tn c') := (HP2.out.below hbY).more (by have h1 := XD.out.lt; have h2 := HPX.out.2; omega)
    clear hY hbY z0 z1 z2 z3 z4 z5 z6 z7 z8 z9 zl f7 hws; obtain ⟨z0, z1, z2, z3, z4, z5, z6, z7, z8, z9, zl⟩ := cx31 XD.out; have h9 := (PInTime_any (fa := fa) (fl := fl) (fc := fc) (la := la) (ll := ll) (lc := lc) (wa := wa) (wn := wn) (wc := wc) (ta := ta) (tn := tn) (tc := tc) (w := Y) (c := c') kk HPY.out); rw [HCE.out.1, HCE.out.2, HIE.out, HT2.out] at h9; have H9 := Lib.hid h9; clear h9; go_wp2_with fail; refine H9.out.mono ?_; rintro e v99 ⟨rfl, hb⟩; have HB99 : Hid (Below w.heap.size w v99) := HBY.out.trans (hb.mono HBY.out.size); clear hb z0 z1 z2 z3 z4 z5 z6 z7 z8 z9 zl; have hle : (1 : Int) ≤ T2 := by have := HLE.out; omega
    go_wp2_with fail; refine (alive_any _).mono ?_
    rintro e v98 ⟨rfl, hb⟩; have HB98 : Hid (Below w.heap.size w v98) := HB99.out.trans (hb.mono HB99.out.size); clear hb; go_wp2; go_ret
    exact ⟨rfl, HB98.out⟩
   ·refine wp_region_havoc [(0,false),(1,false),(2,false),(3,false),(4,false),(5,false),(6,false),(7,false),(8,false),(9,false),(10,false),(11,false),(12,false),(13,false),(14,false),(15,false),(16,false),(17,false),(18,false),(19,false),(20,false),(21,false),(22,false),(23,false),(24,false),(25,false),(26,false),(27,false),(28,false),(29,false),(30,false),(31,false),(32,false),(33,false),(34,false),(35,false),(36,false),(37,false),(38,false),(39,false),(40,false),(41,false),(42,false)] [] (fun _ _ => False) (by kernel_rfl) (by kernel_rfl) (fun _ _ _ _ h => h.elim) ?_
    (apply hav_same (by exact ho rfl) (by kernel_rfl); (focus (intro wv hgv _; have hcv := cvB hgv; (try go_simp); try rfl; done)); simp only [Act.put, List.setIfInBounds_toArray, List.set_cons_succ, List.set_cons_zero])
    iterate 19 (apply hav_same (by exact ho rfl) (by kernel_rfl); (focus (intro wv hgv _; have hcv := cvB hgv; (try go_simp); try rfl; done)); simp only [Act.put, List.setIfInBounds_toArray, List.set_cons_succ, List.set_cons_zero])
    (apply hav_call (by exact ho rfl) (by kernel_rfl); (focus (intro wv; go_simp; try exact ⟨rfl, rfl⟩; done)); (focus (intro wv hgv _; exact lspan_any _ _ wv; done)); simp only [Act.put, List.setIfInBounds_toArray, List.set_cons_succ, List.set_cons_zero])
    iterate 22 (apply hav_same (by exact ho rfl) (by kernel_rfl); (focus (intro wv hgv _; have hcv := cvB hgv; (try go_simp); try rfl; done)); simp only [Act.put, List.setIfInBounds_toArray, List.set_cons_succ, List.set_cons_zero])
    refine hav_end (fun v67 hgz _ => ?_)
    simp only [List.filterMap]; have hb : Below wr.heap.size wr v67 := hgz; have HB67 : Hid (Below w.heap.size w v67) := HBR.out.trans (hb.mono HBR.out.size); have HK67 := Lib.hid (HKR.out.below hb HKR.out.lt); clear hgz hb x0 x1 x2 xl y0 y1 yl; have hx := HK67.out; obtain ⟨q0, q1, q2, q3, q4, q5, q6, q7, q8, q9, ql⟩ := cx31 hx; clear hx
    by_cases hd0 : c.draws = 0
    case pos =>
     rw [hd0] at q7; go_wp2_with fail; refine (alive_any _).mono ?_; rintro e v68 ⟨rfl, hb⟩; have HB68 : Hid (Below w.heap.size w v68) := HB67.out.trans (hb.mono HB67.out.size); have HK68 := Lib.hid (HK67.out.below hb HK67.out.lt); clear hb; clear q0 q1 q2 q3 q4 q5 q6 q7 q8 q9 ql; go_wp2; go_ret
     exact ⟨rfl, HB68.out⟩
    have hdz : (c.draws == 0) = false := by simp; exact hd0
    have hdr := inB_iff.1 (okC_parts HOK.out).2.1; have hws : IntKind.i64.wrap (c.draws - 1) = c.draws - 1 := IntWalk.i64_in _ (by omega)
    obtain ⟨c', hc'⟩ : ∃ c' : ICart, c' = { c with draws := c.draws - 1 } := ⟨_, rfl⟩
    have hok' : okC c' = true := by
     have h := HOK.out; rw [hc']; unfold okC headC at h ⊢; simp only [Bool.and_eq_true] at h ⊢; exact ⟨⟨⟨h.1.1.1, inB_iff.2 ⟨by omega, by omega⟩, h.1.1.2.2⟩, h.1.2⟩, h.2⟩
    have HIE : Hid (inTimeE c' kk = 0) := by
     have h0 : isWagB c' kk = true := by rw [hc']; exact inB_iff.2 ⟨by omega, by have := HEW.out; simp only; omega⟩
     show _ = _; unfold inTimeE; rw [h0]; unfold openE; rw [hok', show hasT c' = true by rw [hc']; exact HHT.out]
     rfl
    obtain ⟨T2, hT2⟩ : ∃ T2, inTimeV c' kk = T2 := ⟨_, rfl⟩
    have HLE : Hid (0 ≤ T2) := by
     show _ ≤ _; rw [← hT2]; unfold inTimeV; rw [HIE.out, if_pos rfl, Int.toNat_natCast, hc']; simp only; rw [HG.out]; simp only; have h := timely_less (r := c.riv.nat) HTT.out (n := c.draws.toNat) (m := (c.draws - 1).toNat) (by omega) ⟨g0, ⟨g1, g2⟩, g3⟩
     rw [show timelyW c.riv.nat c.draws.toNat ⟨g0, ⟨g1, g2⟩, g3⟩ = 0 from HT.out] at h
     exact h
    have HT2 := Lib.hid hT2
    have HP' : Hid (CtIn v67 v67.heap.size fa fl la ll wa wn ta tn c') := by
     have h := (HP.out.grow HB67.out); show CtIn _ _ _ _ _ _ _ _ _ _ _; rw [hc']; exact ⟨h.riv, h.ewn, h.etn, h.hwg, h.hlt, h.mwn, h.mtn⟩
    have HCE : Hid (c'.riv = c.riv ∧ c'.draws = c.draws - 1) := by rw [hc']; exact ⟨rfl, rfl⟩
    obtain ⟨V69, hV69⟩ : ∃ V, V = v67.alloc (.cells #[.int .i64 c.riv.depth.lo, .int .i64 c.riv.depth.hi, .int .i64 c.riv.fall.lo, .int .i64 c.riv.fall.hi, .int .i64 c.riv.days, .slice fa fl fc, .slice la ll lc, .int .i64 c.draws, .slice wa wn wc, .slice ta tn tc] 31) := ⟨_, rfl⟩; obtain ⟨pX, hpX⟩ : ∃ q, q = v67.heap.size := ⟨_, rfl⟩; have hw : Below v67.heap.size v67 V69 := by rw [hV69]; exact (Below.refl _ _).alloc (Nat.le_refl _) _
    have XC : Hid (Blk V69 pX 31 #[.int .i64 c.riv.depth.lo, .int .i64 c.riv.depth.hi, .int .i64 c.riv.fall.lo, .int .i64 c.riv.fall.hi, .int .i64 c.riv.days, .slice fa fl fc, .slice la ll lc, .int .i64 c.draws, .slice wa wn wc, .slice ta tn tc]) := by rw [hV69, hpX]; exact Blk.new v67 31 _
    clear hT2 hc' hok' hd0; go_upto_region 32 with (fail); clear q0 q1 q2 q3 q4 q5 q6 q7 q8 q9 ql; have HB69 : Hid (Below w.heap.size w V69) := HB67.out.trans (hw.mono HB67.out.size); have HK69 := Lib.hid (HK67.out.below hw HK67.out.lt); rw [← hpX, ← hV69]; have HPX : Hid (w.heap.size ≤ pX ∧ v67.heap.size ≤ pX) := by rw [hpX]; exact ⟨HB67.out.size, Nat.le_refl _⟩
    have HP2 : Hid (CtIn V69 v67.heap.size fa fl la ll wa wn ta tn c') := HP'.out.below hw; clear hV69 hpX hw hdz; obtain ⟨z0, z1, z2, z3, z4, z5, z6, z7, z8, z9, zl⟩ := cx31 XC.out; have f7 := XC.out.frozen 7; go_upto_region 33 with (fail); obtain ⟨Y, hY⟩ : ∃ Y, Y = V69.setCell ⟨pX, 7, none⟩ (.int .i64 (c.draws - 1)) := ⟨_, rfl⟩; rw [← hY]; have XD : Hid (Blk Y pX 31 #[.int .i64 c.riv.depth.lo, .int .i64 c.riv.depth.hi, .int .i64 c.riv.fall.lo, .int .i64 c.riv.fall.hi, .int .i64 c.riv.days, .slice fa fl fc, .slice la ll lc, .int .i64 (c.draws - 1), .slice wa wn wc, .slice ta tn tc]) := by rw [hY]; exact XC.out.set_ 7 _
    have HBY : Hid (Below w.heap.size w Y) := by rw [hY]; exact HB69.out.setCell (p := ⟨pX, 7, none⟩) HPX.out.1 _
    have hbY : Below v67.heap.size V69 Y := by rw [hY]; exact (Below.refl _ _).setCell (p := ⟨pX, 7, none⟩) HPX.out.2 _
    have HPY : Hid (CtIn Y Y.heap.size fa fl la ll wa wn ta tn c') := (HP2.out.below hbY).more (by have h1 := XD.out.lt; have h2 := HPX.out.2; omega)
    clear hY hbY z0 z1 z2 z3 z4 z5 z6 z7 z8 z9 zl f7 hws; obtain ⟨z0, z1, z2, z3, z4, z5, z6, z7, z8, z9, zl⟩ := cx31 XD.out; have h9 := (PInTime_any (fa := fa) (fl := fl) (fc := fc) (la := la) (ll := ll) (lc := lc) (wa := wa) (wn := wn) (wc := wc) (ta := ta) (tn := tn) (tc := tc) (w := Y) (c := c') kk HPY.out); rw [HCE.out.1, HCE.out.2, HIE.out, HT2.out] at h9; have H9 := Lib.hid h9; clear h9; go_wp2_with fail; refine H9.out.mono ?_; rintro e v99 ⟨rfl, hb⟩; have HB99 : Hid (Below w.heap.size w v99) := HBY.out.trans (hb.mono HBY.out.size); clear hb z0 z1 z2 z3 z4 z5 z6 z7 z8 z9 zl; have hle : (0 : Int) ≤ T2 := by have := HLE.out; omega
    go_wp2_with fail; refine (alive_any _).mono ?_
    rintro e v98 ⟨rfl, hb⟩; have HB98 : Hid (Below w.heap.size w v98) := HB99.out.trans (hb.mono HB99.out.size); clear hb; go_wp2; go_ret
    exact ⟨rfl, HB98.out⟩
end
end Go.Proofs.YtgmfhngcehkibaaGreat
namespace Go.Proofs.YtgmfhngcehkibaaGreat
open Go.ChangeShapes Go.WideShapes Go.ChangeAt Go.RowKit
theorem cartTimes_lifted (os : Os) (started : os.Started) (H : Type) (enc : TypeId × Value → H) :
  ReturnsInHanded {} Tryz.checked os 7 .any (Rows.cartTimesSpec.pre6 enc Tryz.prog Tryz.f7 Rows.cartTimesRow.domain false) (Rows.cartTimesSpec.post enc Tryz.prog Tryz.f7 false true false false) := by
 refine returnsInHanded_of_change (C := Tryz.checked) rowOwn started (by kernel_rfl) Tryz.func7
  (ChangeSpec.witness6 (enc := enc) (C := Tryz.checked) false ⟨#[], #[(.agg #[.int .i64 0, .int .i64 0, .int .i64 0, .int .i64 0, .int .i64 0, .slice none 0 0, .slice none 0 0, .int .i64 0, .slice none 0 0, .slice none 0 0]), .int .u8 0], []⟩ 8 (by kernel_rfl) (by kernel_rfl) (by kernel_rfl) (by kernel_rfl)) ?_
 intro W base args ds gs before hval0 hW _ _; have hval : ∀ (j : Nat) t v, Tryz.f7.params[j]? = some t → args[j]? = some v → Value.okWide Tryz.prog W .any base t v := hval0; have hW' := hW; obtain ⟨p, q, hA0, hV, rfl, hfz, hnd⟩ := hW
 have hA : DataW.TrodAll enc Tryz.prog W 0 (fun _ => true) true Tryz.f7.params.toList args.toList ds p := hA0
 rw [Tryz.params7] at hA hval; obtain ⟨v0, vs0, d0, ds0, p0, q0, hargs, rfl, rfl, h0, r0⟩ := trodAll_cons hA; obtain ⟨v1, vs1, d1, ds1, p1, q1, rfl, rfl, rfl, h1, r1⟩ := trodAll_cons r0; obtain ⟨rfl, rfl, rfl⟩ := trodAll_nil r1; obtain rfl : args = #[v0, v1] := by cases args; simp_all
 obtain ⟨rfl, rfl⟩ := trodVars_none hV; have k0 := h0; have lt0 : ∀ x ∈ p0, x.block < W.heap.size := by obtain ⟨m, hm⟩ := k0; exact DataW.trod_lt m _ _ _ hm
 obtain ⟨fa, la, wa, ta, fl, fc, ll, lc, wn, wc, tn, tc, P, rfl, hP⟩ := open_cart (hval 0 31 v0 rfl rfl) h0; obtain ⟨a1, rfl, rfl, rfl, w1⟩ := open_int Tryz.underlying5 (hval 1 5 v1 rfl rfl) h1; have b1 := u8_wf w1; obtain ⟨n1, hn1⟩ : ∃ m : Nat, a1 = m := ⟨a1.toNat, by omega⟩
 subst hn1; clear hA0 hval0; simp only [List.append_nil] at hW'
 refine (cartTimes_any n1 (by omega) W hP).mono fun e W' ⟨he, bel⟩ => ?_
 subst he
 exact ⟨_, rfl, _, _, _, [], _, [], hW', trodAll_mk1 (shut_bool Tryz.underlying4 _), (trodAll_cons_mk (Below.trod rowLaidOut (by kernel_rfl) (of_decide_eq_true (by kernel_rfl)) k0 bel lt0) (trodAll_cons_mk (shut_int Tryz.underlying5 w1) trodAll_mk0)), rfl, bel.frame _, fun h => by cases h⟩
theorem cartTimes_holds : Rows.CartTimesSaid :=
 OpenClaim.holds_of_wide 7 Tryz.f7 rfl rfl rfl rfl rfl rfl rfl ⟨rfl, rfl, rfl, rfl, rfl⟩ rfl rfl rfl rfl rfl (by kernel_rfl) Tryz.func7 (by kernel_rfl)
  (of_decide_eq_true (by kernel_rfl)) (by unfold Func.isWrapper; first | (rw [if_pos (by decide +kernel)]; kernel_rfl) | (rw [if_neg (by decide +kernel)]; exact ⟨rfl, rfl⟩))
  (fun os started H enc _ => cartTimes_lifted os started H enc)
#print axioms cartTimes_holds
end Go.Proofs.YtgmfhngcehkibaaGreat
