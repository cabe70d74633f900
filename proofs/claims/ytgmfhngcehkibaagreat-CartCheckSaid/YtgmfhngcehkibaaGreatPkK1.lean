/- Rows of one's own, and rows of numbers. The reference of the carts: check, timely, times. The reference's rule and plans, and how they agree with what the program reckons. The laws' long, heavy, fine, made, brings. A cart that comes in: what its value is, and that it reads as a cart. CartCheck, in plain Lean: what each round adds; which lot is found. CartCheck: the lot and the rule that are returned, what a plan is worth. CartCheck: the step from the walk to the row, the row. Condition: what the statements say. -/
import Derived.Test.YtgmfhngcehkibaaGreatPkB22
import Derived.Orders
import Derived.Below
import Derived.Test.YtgmfhngcehkibaaGreatProg
import Derived.WalkKit
import Derived.WalkSpells
import Derived.WalkLawsBesides
import Derived.Lib.Hide
import Derived.OneCell
import Derived.Laws.AppendOwn
import Derived.Laws.OwnMore
import Derived.Laws.Bits64b
import Derived.Deep.LoopGhost
import Derived.Deep.QuietTactic
import Derived.BigQuiet
import Derived.RegionTactic
import Derived.BigRegion
import Derived.Deep.DeepCutAuto
import Derived.RangeFuncNested
import Derived.RangeFuncBound
import Derived.RangeFuncCalls
import Derived.RangeFuncLeaves
import Derived.RangeFuncWrites
import Derived.Shelf.Abstract
import Derived.OwnWalkIn
import Derived.TacticsInMore
import Derived.LoopNIn
import Derived.LoopIn
import Derived.OrdersIn
import Derived.TacticsIn
import Derived.ControlIn
import Derived.Scope
import Derived.Laws.BitsAllLaws
import Derived.WalkSmall
import Derived.Laws.EntriesVeiled
import Derived.Maps.Own
import Derived.Maps.OwnSet
import Derived.Maps.Range
import Derived.Maps.AppendAt
import Derived.OwnWalk
import Derived.DeepKeys4
import Derived.Outline
import Derived.Deep.CutBlock
import Derived.BigGuard
import Derived.Tactics
import Derived.Tactics2
import Derived.Defers
import Derived.Recover
import Derived.Laws.Pointers
import Derived.Laws.MakeOwn
import Derived.Laws.CopyOwn
import Derived.Deep.AppendLies
import Derived.Laws.CopyRow
import Derived.ProofKit
import Derived.LaidMore
import Derived.OpenShut
import Derived.Stop.Joined
import Derived.Deep.Slices
import Derived.Carry
import Derived.Test.YtgmfhngcehkibaaGreatRows
import Derived.ChangeOld
set_option maxRecDepth 100000
set_option maxHeartbeats 6400000
namespace Go.Proofs.YtgmfhngcehkibaaGreat
open Go.RowKit Go.Hav
def Rows {α : Type} (e : α → Value) (t : TypeId) (w : World) (xs : List Value) (Ls : List (List α)) : Prop :=
 xs.length = Ls.length ∧ ∀ (j : Nat) (L : List α), Ls[j]? = some L → ∃ A c, L.length ≤ c ∧ xs[j]? = some (Value.slice A L.length c) ∧ RowN e t w A L
end Go.Proofs.YtgmfhngcehkibaaGreat
namespace Go.Proofs.YtgmfhngcehkibaaGreat
open Go.RowKit Go.Hav Go.Shelf Go.Sq
theorem blk_ne {K : World} {g g' : Nat} {t t' : TypeId} {cs cs' : Array Value} (h : Blk K g t cs) (h' : Blk K g' t' cs') (ht : t ≠ t') : g ≠ g' := fun e => by
 subst e; have h1 : K.heap[g]? = some (.cells cs t (0, 0)) := h; have h2 : K.heap[g]? = some (.cells cs' t' (0, 0)) := h'; rw [h1] at h2
 injection h2 with h2
 injection h2 with _ h2 _
 exact ht h2
end Go.Proofs.YtgmfhngcehkibaaGreat
namespace Go.Proofs.YtgmfhngcehkibaaGreat
open Go.RowKit Go.Hav Go.Shelf Go.Sq
attribute [local go_sem] Oper.semAt_some
section
variable {fa la wa ta : Option Addr} {fl fc ll lc wn wc tn tc : Nat} {c : ICart}
variable {w : World}
theorem openE_true (h : openE c true = 0) : okC c = true ∧ truthsA c.riv.nat ≠ [] := by
 obtain ⟨h1, -, h3⟩ := openE_zero h; exact ⟨h1, by unfold hasT at h3; simpa using h3⟩
end
end Go.Proofs.YtgmfhngcehkibaaGreat
namespace Go.Proofs.YtgmfhngcehkibaaGreat
def usedN (lt : List ILot) (ps : List Int) (w : Int) : Nat → Int
 | 0 => 0
 | n + 1 => usedN lt ps w n + (if ps[n]? = some w then (match lt[n]? with | some l => l.bales | none => 0) else 0)
section
variable (tm : IWag → Nat) (ws : List IWag) (lt : List ILot)
def ruleR (ps : List Int) (i : Nat) : Nat := match lt[i]?, ps[i]? with
 | some l, some p => if p < 0 then 0 else match ws[p.toNat]? with
  | some g => if l.from_ > g.leaves then 1 else if usedN lt ps p (i + 1) > g.room then 2 else if tm g ≠ 2 then 3 else 0
  | none => 0
 | _, _ => 0
def findR (ps : List Int) : Nat → Nat → Option (Nat × Nat)
 | _, 0 => none
 | k, n + 1 => if ruleR tm ws lt ps k = 0 then findR ps (k + 1) n else some (k, ruleR tm ws lt ps k)
def roomB (ps : List Int) (n : Nat) : Rm := fun i => roomP ws i - usedN lt ps i n
theorem roomB_zero (ps : List Int) : roomB ws lt ps 0 = roomP ws := by
 funext i
 show roomP ws i - 0 = _
 omega
variable {tm ws lt}
theorem roomB_neg {ps : List Int} {n : Nat} {p : Int} (hp : ps[n]? = some p) (h : p < 0) : roomB ws lt ps (n + 1) = roomB ws lt ps n := by
 funext i
 show roomP ws i - (usedN lt ps i n + _) = roomP ws i - usedN lt ps i n; rw [hp, if_neg (by intro e; have := Option.some.inj e; omega)]
 omega
theorem roomB_on {ps : List Int} {n w : Nat} {l : ILot} (hl : lt[n]? = some l) (hp : ps[n]? = some (w : Int)) : roomB ws lt ps (n + 1) = takeR (roomB ws lt ps n) w l.bales := by
 funext i
 unfold takeR; show roomP ws i - (usedN lt ps i n + _) = _; rw [hp, hl]
 by_cases h : i = w
 ·subst h; rw [if_pos rfl, if_pos rfl]; show roomP ws i - (usedN lt ps i n + l.bales) = roomP ws i - usedN lt ps i n - l.bales
  omega
 ·rw [if_neg (by intro e; have := Option.some.inj e; omega), if_neg h]
  show roomP ws i - (usedN lt ps i n + 0) = roomP ws i - usedN lt ps i n
  omega
theorem ruleR_neg {ps : List Int} {n : Nat} {p : Int} (hp : ps[n]? = some p) (h : p < 0) : ruleR tm ws lt ps n = 0 := by
 unfold ruleR; rw [hp]
 split
 ·rename_i l q _ e; cases e; rw [if_pos h]
 ·rfl
theorem ruleR_on {ps : List Int} {n w : Nat} {l : ILot} {g : IWag} (hl : lt[n]? = some l) (hp : ps[n]? = some (w : Int)) (hw : ws[w]? = some g) : ruleR tm ws lt ps n = brokenW (tm g) l g (roomB ws lt ps n w) := by
 unfold ruleR brokenW; rw [hl, hp]; simp only; rw [if_neg (by omega), Int.toNat_natCast, hw]
 simp only
 have hr : roomB ws lt ps n w = g.room - usedN lt ps w n := by
  show roomP ws w - _ = _; unfold roomP; rw [hw]
 have hu : usedN lt ps w (n + 1) = usedN lt ps w n + l.bales := by
  show usedN lt ps w n + _ = _; rw [hp, if_pos rfl, hl]
 rw [hr, hu]
 by_cases a : l.from_ > g.leaves
 ·rw [if_pos a, if_pos a]
 ·rw [if_neg a, if_neg a]
  by_cases b : usedN lt ps w n + l.bales > g.room
  ·rw [if_pos b, if_pos (show l.bales > g.room - usedN lt ps w n by omega)]
  ·rw [if_neg b, if_neg (show ¬ l.bales > g.room - usedN lt ps w n by omega)]
theorem checkL_is {ps : List Int} (hlen : ps.length = lt.length) (hp : ∀ p ∈ ps, p = -1 ∨ (0 ≤ p ∧ p < ws.length)) : ∀ (n k : Nat), k + n = lt.length → checkL tm ws k (lt.drop k) (ps.drop k) (roomB ws lt ps k) = findR tm ws lt ps k n
 | 0, k, h => by rw [List.drop_of_length_le (by omega)]; rfl
 | n + 1, k, h => by
  have h1 : k < lt.length := by omega
  have h2 : k < ps.length := by omega
  rw [List.drop_eq_getElem_cons h1, List.drop_eq_getElem_cons h2, checkL, findR]; have e1 : lt[k]? = some lt[k] := List.getElem?_eq_getElem h1; have e2 : ps[k]? = some ps[k] := List.getElem?_eq_getElem h2; have ih := checkL_is hlen hp n (k + 1) (by omega)
  by_cases a : ps[k] < 0
  ·rw [if_pos a, ruleR_neg e2 a, if_pos rfl, ← ih, roomB_neg e2 a]
  ·rw [if_neg a]; have hq := hp ps[k] (List.getElem_mem h2); obtain ⟨w, hw⟩ : ∃ w : Nat, ps[k] = w := ⟨ps[k].toNat, by omega⟩
   obtain ⟨g, hg⟩ : ∃ g, ws[w]? = some g := ⟨_, List.getElem?_eq_getElem (by omega)⟩
   rw [hw] at e2 ⊢; rw [Int.toNat_natCast, hg, ruleR_on e1 e2 hg]; simp only
   by_cases b : brokenW (tm g) lt[k] g (roomB ws lt ps k w) = 0
   ·rw [if_pos b, if_pos b, ← ih, roomB_on e1 e2]
   ·rw [if_neg b, if_neg b]
theorem findR_none {ps : List Int} : ∀ (n k : Nat), findR tm ws lt ps k n = none ↔ ∀ j, k ≤ j → j < k + n → ruleR tm ws lt ps j = 0
 | 0, k => ⟨fun _ j h1 h2 => by omega, fun _ => rfl⟩
 | n + 1, k => by
  rw [findR]
  by_cases a : ruleR tm ws lt ps k = 0
  ·rw [if_pos a, findR_none n (k + 1)]
   refine ⟨fun h j h1 h2 => ?_, fun h j h1 h2 => h j (by omega) (by omega)⟩
   by_cases e : j = k
   ·rw [e, a]
   ·exact h j (by omega) (by omega)
  ·rw [if_neg a]
   exact ⟨fun h => (by cases h), fun h => absurd (h k (Nat.le_refl _) (by omega)) a⟩
theorem findR_some {ps : List Int} {i : Nat} (hi : ruleR tm ws lt ps i ≠ 0) : ∀ (n k : Nat), k ≤ i → i < k + n → (∀ j, k ≤ j → j < i → ruleR tm ws lt ps j = 0) → findR tm ws lt ps k n = some (i, ruleR tm ws lt ps i)
 | 0, k, h1, h2, _ => by omega
 | n + 1, k, h1, h2, h => by
  rw [findR]
  by_cases e : k = i
  ·subst e; rw [if_neg hi]
  ·rw [if_pos (h k (Nat.le_refl _) (by omega))]
   exact findR_some hi n (k + 1) (by omega) (by omega) (fun j h3 h4 => h j (by omega) h4)
theorem check_find {ps : List Int} (hlen : ps.length = lt.length) (hp : ∀ p ∈ ps, p = -1 ∨ (0 ≤ p ∧ p < ws.length)) : checkL tm ws 0 lt ps (roomP ws) = findR tm ws lt ps 0 lt.length := by
 have h := checkL_is (tm := tm) hlen hp lt.length 0 (by omega)
 rw [roomB_zero, List.drop_zero, List.drop_zero] at h; exact h
variable (tm ws lt)
variable {tm ws lt}
end
end Go.Proofs.YtgmfhngcehkibaaGreat
namespace Go.Proofs.YtgmfhngcehkibaaGreat
open Go.RowKit Go.Hav Go.Shelf Go.Sq
attribute [local go_sem] Oper.semAt_some
section
variable {fa la wa ta : Option Addr} {fl fc ll lc wn wc tn tc : Nat} {c : ICart}
variable {w : World}
theorem madeL_ok (c : ICart) (by_ : List Nat) : ∀ p ∈ madeL c by_, p = -1 ∨ (0 ≤ p ∧ p < c.wg.length) := fun p hp => by
 obtain ⟨i, -, rfl⟩ := List.mem_map.1 hp; have := Nat.mod_lt (if by_.length = 0 then 0 else by_[i % by_.length]?.getD 0) (show 0 < c.wg.length + 1 by omega)
 omega
theorem madeL_plan (c : ICart) (by_ : List Nat) : planB c (madeL c by_) = true := by
 unfold planB; rw [madeL_len, decide_eq_true rfl, Bool.true_and, List.all_eq_true]; intro p hp; rcases madeL_ok c by_ p hp with rfl | ⟨h1, h2⟩
 ·rfl
 ·rw [Bool.or_eq_true]; exact .inr (inB_iff.2 ⟨h1, by omega⟩)
end
end Go.Proofs.YtgmfhngcehkibaaGreat
namespace Go.Proofs.YtgmfhngcehkibaaGreat
open Go.RowKit Go.Hav Go.ChangeShapes Go.WideShapes Go.Deep
theorem list_of {α : Type} (P : Nat → α → Prop) : ∀ n : Nat, (∀ i, i < n → ∃ x, P i x) → ∃ l : List α, l.length = n ∧ ∀ i x, l[i]? = some x → P i x := by
 intro n
 induction n with
 | zero => intro _; exact ⟨[], rfl, fun i x h => by simp at h⟩
 | succ n ih =>
  intro h
  obtain ⟨l, hl, hp⟩ := ih (fun i hi => h i (by omega))
  obtain ⟨x, hx⟩ := h n (by omega)
  refine ⟨l ++ [x], by simp [hl], fun i y hy => ?_⟩
  rcases Nat.lt_or_ge i n with hi | hi
  ·rw [List.getElem?_append_left (by omega)] at hy
   exact hp i y hy
  ·rw [List.getElem?_append_right (by omega)] at hy
   by_cases e : i = n
   ·subst e; rw [hl, Nat.sub_self] at hy; obtain rfl : x = y := by simpa using hy
    exact hx
   ·rw [hl, List.getElem?_eq_none (by simp; omega)] at hy
    cases hy
section
variable {H : Type} {enc : TypeId × Value → H} {W : World} {base : Nat} {spare : Nat → Bool} {held : Bool}
theorem open_rows {t e : TypeId} {fuel sz : Nat} {c : Value} {x : DataW H × List MemPlace} (ht : Tryz.prog.underlying t = some (.slice e)) (hc : Tryz.prog.cellsOf e = sz) (h0 : 0 < sz) (h : DataW.trod enc Tryz.prog W base spare held fuel t [c] = some x) :
  ∃ (A : Option Addr) (len cap : Nat), c = .slice A len cap ∧ len ≤ maxLen ∧ ∀ i, i < len → ∃ (b off n : Nat) (cs : List Value) (y : DataW H × List MemPlace), A = some ⟨b, off, none⟩ ∧ cs.length = sz ∧ (∀ j v, cs[j]? = some v → W.cell? ⟨b, off + (i * sz + j), none⟩ = some v) ∧ DataW.trod enc Tryz.prog W base spare held n e cs = some y := by
 rcases open_slice ht h with ⟨e1, _⟩ | ⟨a, len, cap, m, n, D, Pl, e1, _, hl, hm, hmm, _, hi⟩
 ·obtain rfl : c = .slice none 0 0 := by simpa using e1
  exact ⟨none, 0, 0, rfl, Nat.zero_le _, fun i hi => by omega⟩
 ·obtain rfl : c = .slice (some a) len cap := by simpa using e1
  refine ⟨some a, len, cap, rfl, Nat.le_trans hl hm, fun i hlt => ?_⟩
  obtain ⟨cs, hcs, ht⟩ := hi i (by rw [hmm]; split <;> omega)
  rw [hc] at hcs; obtain ⟨_, hlen, hat⟩ := World.cells?_some hcs
  -- the address has no spot
  obtain ⟨cs0, hcs0, _⟩ := hi 0 (by rw [hmm]; split <;> omega)
  rw [hc, Nat.zero_mul] at hcs0; obtain ⟨_, hlen0, hat0⟩ := World.cells?_some hcs0; have h00 := hat0 0 h0; rw [List.getElem?_eq_getElem (by omega)] at h00
  have hs : a.spot = none := by
   have := World.cell?_spot h00
   simpa [Addr.add] using this
  obtain ⟨b, off, spot⟩ := a; simp only at hs; subst hs
  refine ⟨b, off, n, cs, _, rfl, hlen, fun j v hv => ?_, ht⟩
  have hj : j < sz := by rw [← hlen]; exact (List.getElem?_eq_some_iff.1 hv).1
  have h1 := hat j hj; rw [hv] at h1; rw [← h1]
  congr 1
  unfold Addr.add
  split <;> split <;> simp_all <;> omega
theorem one_int {n : Nat} {cs : List Value} {y : DataW H × List MemPlace} (h : DataW.trod enc Tryz.prog W base spare held n 3 cs = some y) : ∃ a, cs = [.int .i64 a] := by
 obtain ⟨a, e, _⟩ := DataW.trod_int Tryz.underlying3 h; exact ⟨a, e⟩
theorem two_ints {n : Nat} {cs : List Value} {y : DataW H × List MemPlace} (h : DataW.trod enc Tryz.prog W base spare held n 23 cs = some y) : ∃ a b, cs = [.int .i64 a, .int .i64 b] := by
 have c3 : Tryz.prog.cellsOf 3 = 1 := by kernel_rfl
 have c23 : Tryz.prog.cellsOf 23 = 2 := by kernel_rfl
 obtain ⟨xs, m, _, _, hlen, hx, hf⟩ := DataW.trod_struct Tryz.underlying23 h; rw [c23] at hlen
 match cs, hlen with
 | [u, v], _ =>
  match xs, hx with
  | [x0, x1], _ =>
   obtain ⟨a, ha⟩ := one_int (hf 0 _ rfl); obtain ⟨b, hb⟩ := one_int (hf 1 _ rfl)
   simp [c3] at ha hb
   exact ⟨a, b, by rw [ha, hb]⟩
theorem fr_cells {n : Nat} {cs : List Value} {y : DataW H × List MemPlace} (h : DataW.trod enc Tryz.prog W base spare held n 59 cs = some y) : ∃ c : IFr, cs = frI c := by
 have c23 : Tryz.prog.cellsOf 23 = 2 := by kernel_rfl
 have c59 : Tryz.prog.cellsOf 59 = 4 := by kernel_rfl
 obtain ⟨xs, m, _, _, hlen, hx, hf⟩ := DataW.trod_struct Tryz.underlying59 h; rw [c59] at hlen
 match cs, hlen with
 | [u0, u1, u2, u3], _ =>
  match xs, hx with
  | [x0, x1], _ =>
   obtain ⟨c, d, hcd⟩ := two_ints (hf 0 _ rfl); obtain ⟨a, b, hab⟩ := two_ints (hf 1 _ rfl)
   simp [c23] at hab hcd
   exact ⟨⟨⟨c, d⟩, ⟨a, b⟩⟩, by simp [frI, hab, hcd]⟩
theorem lk_cells {n : Nat} {cs : List Value} {y : DataW H × List MemPlace} (h : DataW.trod enc Tryz.prog W base spare held n 61 cs = some y) : ∃ c : ILk, cs = lkI c := by
 have c3 : Tryz.prog.cellsOf 3 = 1 := by kernel_rfl
 have c23 : Tryz.prog.cellsOf 23 = 2 := by kernel_rfl
 have c61 : Tryz.prog.cellsOf 61 = 3 := by kernel_rfl
 obtain ⟨xs, m, _, _, hlen, hx, hf⟩ := DataW.trod_struct Tryz.underlying61 h; rw [c61] at hlen
 match cs, hlen with
 | [u0, u1, u2], _ =>
  match xs, hx with
  | [x0, x1], _ =>
   obtain ⟨a, ha⟩ := one_int (hf 0 _ rfl); obtain ⟨c, d, hcd⟩ := two_ints (hf 1 _ rfl)
   simp [c3, c23] at ha hcd
   exact ⟨⟨a, ⟨c, d⟩⟩, by simp [lkI, ha, hcd]⟩
theorem rows_list {α : Type} {f : α → List Value} {A : Option Addr} {len sz : Nat} {e : TypeId} (he : ∀ (n : Nat) (cs : List Value) (y : DataW H × List MemPlace), DataW.trod enc Tryz.prog W base spare held n e cs = some y → ∃ x, cs = f x) (hf0 : ∀ x, 0 < (f x).length)
  (h : ∀ i, i < len → ∃ (b off n : Nat) (cs : List Value) (y : DataW H × List MemPlace), A = some ⟨b, off, none⟩ ∧ cs.length = sz ∧ (∀ j v, cs[j]? = some v → W.cell? ⟨b, off + (i * sz + j), none⟩ = some v) ∧ DataW.trod enc Tryz.prog W base spare held n e cs = some y) :
  ∃ l : List α, l.length = len ∧ RdG f sz W W.heap.size A l := by
 obtain ⟨l, hl, hp⟩ := list_of (fun i x => ∃ b off, A = some ⟨b, off, none⟩ ∧ b < W.heap.size ∧ ∀ j u, (f x)[j]? = some u → W.cell? ⟨b, off + (i * sz + j), none⟩ = some u) len (fun i hi => by
  obtain ⟨b, off, n, cs, y, e1, _, hc, ht⟩ := h i hi; obtain ⟨x, rfl⟩ := he n cs y ht; refine ⟨x, b, off, e1, ?_, hc⟩; have h0 := hc 0 _ (List.getElem?_eq_getElem (hf0 x)); rcases Nat.lt_or_ge b W.heap.size with hlt | hge
  ·exact hlt
  ·unfold World.cell? at h0
   simp [Array.getElem?_eq_none hge] at h0)
 exact ⟨l, hl, fun k x hx => hp k x hx⟩
theorem wg_cells {n : Nat} {cs : List Value} {y : DataW H × List MemPlace} (h : DataW.trod enc Tryz.prog W base spare held n 65 cs = some y) : ∃ c : IWag, cs = wgI c := by
 have c3 : Tryz.prog.cellsOf 3 = 1 := by kernel_rfl
 have c23 : Tryz.prog.cellsOf 23 = 2 := by kernel_rfl
 have c65 : Tryz.prog.cellsOf 65 = 4 := by kernel_rfl
 obtain ⟨xs, m, _, _, hlen, hx, hf⟩ := DataW.trod_struct Tryz.underlying65 h; rw [c65] at hlen
 match cs, hlen with
 | [u0, u1, u2, u3], _ =>
  match xs, hx with
  | [x0, x1, x2], _ =>
   obtain ⟨a, ha⟩ := one_int (hf 0 _ rfl); obtain ⟨b, d, hb⟩ := two_ints (hf 1 _ rfl); obtain ⟨e, he⟩ := one_int (hf 2 _ rfl)
   simp [c3, c23] at ha hb he
   exact ⟨⟨a, ⟨b, d⟩, e⟩, by simp [wgI, ha, hb, he]⟩
theorem lt_cells {n : Nat} {cs : List Value} {y : DataW H × List MemPlace} (h : DataW.trod enc Tryz.prog W base spare held n 68 cs = some y) : ∃ c : ILot, cs = ltI c := by
 have c3 : Tryz.prog.cellsOf 3 = 1 := by kernel_rfl
 have c68 : Tryz.prog.cellsOf 68 = 5 := by kernel_rfl
 obtain ⟨xs, m, _, _, hlen, hx, hf⟩ := DataW.trod_struct Tryz.underlying68 h; rw [c68] at hlen
 match cs, hlen with
 | [u0, u1, u2, u3, u4], _ =>
  match xs, hx with
  | [x0, x1, x2, x3, x4], _ =>
   obtain ⟨a0, h0⟩ := one_int (hf 0 _ rfl); obtain ⟨a1, h1⟩ := one_int (hf 1 _ rfl); obtain ⟨a2, h2⟩ := one_int (hf 2 _ rfl); obtain ⟨a3, h3⟩ := one_int (hf 3 _ rfl); obtain ⟨a4, h4⟩ := one_int (hf 4 _ rfl)
   simp [c3] at h0 h1 h2 h3 h4
   exact ⟨⟨a0, a1, a2, a3, a4⟩, by simp [ltI, h0, h1, h2, h3, h4]⟩
theorem riv_cells {n : Nat} {u0 u1 u2 u3 u4 u5 u6 : Value} {y : DataW H × List MemPlace} (h : DataW.trod enc Tryz.prog W base spare held n 27 [u0, u1, u2, u3, u4, u5, u6] = some y) :
  ∃ (fa la : Option Addr) (fl fc ll lc : Nat) (q : IRiv), [u0, u1, u2, u3, u4, u5, u6] = [.int .i64 q.depth.lo, .int .i64 q.depth.hi, .int .i64 q.fall.lo, .int .i64 q.fall.hi, .int .i64 q.days, .slice fa fl fc, .slice la ll lc] ∧ RvIn W W.heap.size fa fl la ll q := by
 have c3 : Tryz.prog.cellsOf 3 = 1 := by kernel_rfl
 have c23 : Tryz.prog.cellsOf 23 = 2 := by kernel_rfl
 have c24 : Tryz.prog.cellsOf 24 = 1 := by kernel_rfl
 have c25 : Tryz.prog.cellsOf 25 = 1 := by kernel_rfl
 obtain ⟨xs, m, _, _, _, hx, hg⟩ := DataW.trod_struct Tryz.underlying27 h
 match xs, hx with
 | [x0, x1, x2, x3, x4], _ =>
  have g0 := hg 0 _ rfl; have g1 := hg 1 _ rfl; have g2 := hg 2 _ rfl; have g3 := hg 3 _ rfl; have g4 := hg 4 _ rfl
  simp [c3, c23, c24, c25] at g0 g1 g2 g3 g4
  obtain ⟨d0, d1, e0⟩ := two_ints g0; obtain ⟨f0, f1, e1⟩ := two_ints g1; obtain ⟨days, e2⟩ := one_int g2; obtain ⟨rfl, rfl⟩ : u0 = .int .i64 d0 ∧ u1 = .int .i64 d1 := by simpa using e0
  obtain ⟨rfl, rfl⟩ : u2 = .int .i64 f0 ∧ u3 = .int .i64 f1 := by simpa using e1
  obtain rfl : u4 = .int .i64 days := by simpa using e2
  obtain ⟨fa, fl, fc, rfl, m0, h0⟩ := open_rows (sz := 4) Tryz.underlying24 (by kernel_rfl) (by decide) g3
  obtain ⟨la, ll, lc, rfl, m4, h4⟩ := open_rows (sz := 3) Tryz.underlying25 (by kernel_rfl) (by decide) g4
  obtain ⟨frs, k0, r0⟩ := rows_list (f := frI) (fun n cs y h => fr_cells h) (fun x => by simp [frI]) h0
  obtain ⟨lks, k4, r4⟩ := rows_list (f := lkI) (fun n cs y h => lk_cells h) (fun x => by simp [lkI]) h4
  unfold maxLen at m0 m4; exact ⟨fa, la, fl, fc, ll, lc, ⟨⟨d0, d1⟩, ⟨f0, f1⟩, days, frs, lks⟩, rfl, k0, k4, r0, r4, by omega, by omega⟩
theorem open_cart {r : Reach} {b0 : Nat} {v : Value} {d : DataW H} {p : List MemPlace} (hv : Value.okWide Tryz.prog W r b0 31 v) (h : DataW.Trod enc Tryz.prog W base spare held 31 v d p) :
  ∃ (fa la wa ta : Option Addr) (fl fc ll lc wn wc tn tc : Nat) (c : ICart), v = (.agg #[.int .i64 c.riv.depth.lo, .int .i64 c.riv.depth.hi, .int .i64 c.riv.fall.lo, .int .i64 c.riv.fall.hi, .int .i64 c.riv.days, .slice fa fl fc, .slice la ll lc, .int .i64 c.draws, .slice wa wn wc, .slice ta tn tc]) ∧ CtIn W W.heap.size fa fl la ll wa wn ta tn c := by
 have c3 : Tryz.prog.cellsOf 3 = 1 := by kernel_rfl
 have c27 : Tryz.prog.cellsOf 27 = 7 := by kernel_rfl
 have c28 : Tryz.prog.cellsOf 28 = 1 := by kernel_rfl
 have c29 : Tryz.prog.cellsOf 29 = 1 := by kernel_rfl
 have c31 : Tryz.prog.cellsOf 31 = 10 := by kernel_rfl
 obtain ⟨cs, rfl, hsz⟩ := okWide_struct Tryz.underlying31 hv; rw [c31] at hsz; obtain ⟨l⟩ := cs
 match l, hsz with
 | [u0, u1, u2, u3, u4, u5, u6, u7, u8, u9], _ =>
  obtain ⟨fuel, hf⟩ := h; obtain ⟨xs, m, _, _, _, hx, hg⟩ := DataW.trod_struct Tryz.underlying31 hf
  match xs, hx with
  | [x0, x1, x2, x3], _ =>
   have g0 := hg 0 _ rfl; have g1 := hg 1 _ rfl; have g2 := hg 2 _ rfl; have g3 := hg 3 _ rfl
   simp [Value.cells, c3, c27, c28, c29] at g0 g1 g2 g3
   obtain ⟨fa, la, fl, fc, ll, lc, q, e0, hR⟩ := riv_cells g0; obtain ⟨dr, e1⟩ := one_int g1; obtain rfl : u7 = .int .i64 dr := by simpa using e1
   obtain ⟨wa, wn, wc, rfl, m2, h2⟩ := open_rows (sz := 4) Tryz.underlying28 (by kernel_rfl) (by decide) g2
   obtain ⟨ta, tn, tc, rfl, m3, h3⟩ := open_rows (sz := 5) Tryz.underlying29 (by kernel_rfl) (by decide) g3
   obtain ⟨wgs, k2, r2⟩ := rows_list (f := wgI) (fun n cs y h => wg_cells h) (fun x => by simp [wgI]) h2
   obtain ⟨lts, k3, r3⟩ := rows_list (f := ltI) (fun n cs y h => lt_cells h) (fun x => by simp [ltI]) h3
   obtain ⟨rfl, rfl, rfl, rfl, rfl, rfl, rfl⟩ : u0 = .int .i64 q.depth.lo ∧ u1 = .int .i64 q.depth.hi ∧ u2 = .int .i64 q.fall.lo ∧ u3 = .int .i64 q.fall.hi ∧ u4 = .int .i64 q.days ∧ u5 = .slice fa fl fc ∧ u6 = .slice la ll lc := by simpa using e0
   unfold maxLen at m2 m3; exact ⟨fa, la, wa, ta, fl, fc, ll, lc, wn, wc, tn, tc, ⟨q, dr, wgs, lts⟩, rfl, hR, k2, k3, r2, r3, by omega, by omega⟩
end
theorem u8_wf {a : Int} (h : (Lit.int .u8 a).wf = true) : 0 ≤ a ∧ a ≤ 255 := by
 simp [Lit.wf, IntKind.min, IntKind.max, IntKind.signed, IntKind.bits] at h
 omega
section
variable {H : Type} {enc : TypeId × Value → H} {W : World} {base : Nat} {spare : Nat → Bool} {held : Bool}
theorem open_u8s {r : Reach} {b0 : Nat} {v : Value} {d : DataW H} {p : List MemPlace} (hv : Value.okWide Tryz.prog W r b0 53 v) (h : DataW.Trod enc Tryz.prog W base spare held 53 v d p) :
  ∃ (A : Option Addr) (al ac : Nat) (us : List Nat), v = .slice A al ac ∧ us.length = al ∧ (∀ x ∈ us, x ≤ 255) ∧ al ≤ 9223372036854775807 ∧ RdG byF 1 W W.heap.size A us := by
 obtain ⟨A, al, ac, rfl⟩ := okWide_slice Tryz.underlying53 hv; obtain ⟨fuel, hf⟩ := h; obtain ⟨A', al', ac', e, hm, hi⟩ := open_rows (sz := 1) (c := .slice A al ac) Tryz.underlying53 (by kernel_rfl) (by decide) (by simpa [Value.cells] using hf)
 obtain ⟨rfl, rfl, rfl⟩ : A = A' ∧ al = al' ∧ ac = ac' := by simpa using e
 obtain ⟨l, hl, hp⟩ := list_of (fun i (x : Nat) => x ≤ 255 ∧ ∃ b off, A = some ⟨b, off, none⟩ ∧ b < W.heap.size ∧ ∀ j u, (byF x)[j]? = some u → W.cell? ⟨b, off + (i * 1 + j), none⟩ = some u) al (fun i hlt => by
  obtain ⟨b, off, n, cs, y, e1, _, hc, ht⟩ := hi i hlt; obtain ⟨a, e2, _, hw⟩ := DataW.trod_int Tryz.underlying5 ht; subst e2; have hb := u8_wf hw; have h0 := hc 0 (.int .u8 a) (by rfl)
  obtain ⟨m, rfl⟩ : ∃ m : Nat, a = m := ⟨a.toNat, by omega⟩
  refine ⟨m, by omega, b, off, e1, ?_, hc⟩
  rcases Nat.lt_or_ge b W.heap.size with hlt | hge
  ·exact hlt
  ·unfold World.cell? at h0
   simp [Array.getElem?_eq_none hge] at h0)
 refine ⟨A, al, ac, l, rfl, hl, fun x hx => ?_, by unfold maxLen at hm; omega, fun k x hx => (hp k x hx).2⟩
 obtain ⟨k, hk⟩ := List.getElem?_of_mem hx; exact (hp k x hk).1
end
theorem rowOwn : ownKnob Tryz.prog.godebug = none := by kernel_rfl
theorem rowLaidOut : laidOutB Tryz.prog = true := by kernel_rfl
end Go.Proofs.YtgmfhngcehkibaaGreat
namespace Go.Proofs.YtgmfhngcehkibaaGreat
section
variable {c : ICart} {L : List Int}
def bringN (c : ICart) (f : IWag → Int) (L : List Int) (n : Nat) : Int := sumL (bringL c.wg f (c.lt.take n) (L.take n))
theorem bringN_zero (f : IWag → Int) : bringN c f L 0 = 0 := by unfold bringN; simp [bringL, sumL]
theorem bringN_neg (f : IWag → Int) {n : Nat} {l : ILot} {p : Int} (hl : c.lt[n]? = some l) (hp : L[n]? = some p) (h : p < 0) : bringN c f L (n + 1) = bringN c f L n := by
 unfold bringN; rw [bringL_take c.wg f _ _ n l p hl hp, if_pos h, List.append_nil]
theorem bringN_on (f : IWag → Int) {n m : Nat} {l : ILot} {g : IWag} (hl : c.lt[n]? = some l) (hp : L[n]? = some (m : Int)) (hg : c.wg[m]? = some g) : bringN c f L (n + 1) = bringN c f L n + bringsP l (f g) := by
 unfold bringN; rw [bringL_take c.wg f _ _ n l _ hl hp, if_neg (by omega), Int.toNat_natCast, hg]
 simp [sumL]
theorem bringN_all (f : IWag → Int) (hlen : L.length = c.lt.length) : bringN c f L c.lt.length = sumL (bringL c.wg f c.lt L) := by
 unfold bringN; rw [List.take_of_length_le (Nat.le_refl _), List.take_of_length_le (by omega)]
theorem brings_mono {l : ILot} (h : lotB l = true) {a b : Int} (hab : a ≤ b) : bringsP l b ≤ bringsP l a := by
 have h := lotB_iff.1 h; have m := Int.mul_le_mul_of_nonneg_left (a := l.less) (b := l.price) (c := l.bales) (by omega) (by omega)
 unfold bringsP
 split <;> split <;> omega
def rowU (c : ICart) (L : List Int) (n : Nat) : List Int := (List.range c.wg.length).map fun m : Nat => usedN c.lt L (m : Int) n
theorem rowU_len (n : Nat) : (rowU c L n).length = c.wg.length := by simp [rowU]
theorem rowU_zero : rowU c L 0 = List.replicate c.wg.length 0 := by
 unfold rowU
 refine List.ext_getElem (by simp) fun i h1 h2 => ?_
 simp [usedN]
theorem rowU_neg {n : Nat} {p : Int} (hp : L[n]? = some p) (h : p < 0) : rowU c L (n + 1) = rowU c L n := by
 unfold rowU
 refine List.map_congr_left fun m _ => ?_
 show usedN _ _ _ n + _ = _; rw [hp, if_neg (by intro e; have := Option.some.inj e; omega)]
 omega
theorem rowU_on {n m : Nat} {l : ILot} (hl : c.lt[n]? = some l) (hp : L[n]? = some (m : Int)) (hm : m < c.wg.length) : (intsA (rowU c L n)).setIfInBounds m (.int .i64 (usedN c.lt L m n + l.bales)) = intsA (rowU c L (n + 1)) := by
 unfold intsA; rw [List.setIfInBounds_toArray]
 congr 1
 refine List.ext_getElem? fun i => ?_
 rw [List.getElem?_set]
 have hs : ∀ j : Nat, usedN c.lt L j (n + 1) = usedN c.lt L j n + (if j = m then l.bales else 0) := fun j => by
  show usedN _ _ _ n + _ = _; rw [hp, hl]
  by_cases e : j = m
  ·subst e; rw [if_pos rfl, if_pos rfl]
  ·rw [if_neg (by intro h; have := Option.some.inj h; omega), if_neg e]
 by_cases e : m = i
 ·subst e; rw [if_pos rfl, if_pos (by simpa [rowU] using hm)]
  simp [rowU, hm, hs]
 ·rw [if_neg e]
  by_cases hi : i < c.wg.length
  ·simp [rowU, hi, hs, show ¬ i = m from fun h => e h.symm]
  ·simp [rowU, hi]
theorem rowU_at {n m : Nat} (hm : m < c.wg.length) : (intsA (rowU c L n))[m]? = some (.int .i64 (usedN c.lt L m n)) := by
 unfold intsA rowU
 simp [hm]
theorem usedN_bd (hok : ∀ l ∈ c.lt, lotB l = true) (w : Int) : ∀ n, 0 ≤ usedN c.lt L w n ∧ usedN c.lt L w n ≤ 20 * n
 | 0 => by simp [usedN]
 | n + 1 => by
  have ih := usedN_bd hok w n; rw [usedN]
  have : ∀ x : Int, 0 ≤ x ∧ x ≤ 20 → 0 ≤ usedN c.lt L w n + x ∧ usedN c.lt L w n + x ≤ 20 * ((n + 1 : Nat) : Int) := fun x hx => by omega
  apply this
  split
  ·cases e : c.lt[n]? with
   | none => simp
   | some l => have := lotB_iff.1 (hok l (List.mem_of_getElem? e)); simp only; omega
  ·omega
theorem rule_at {n m : Nat} {l : ILot} {g : IWag} (hl : c.lt[n]? = some l) (hp : L[n]? = some (m : Int)) (hg : c.wg[m]? = some g) :
  ruleR c.tm c.wg c.lt L n = if l.from_ > g.leaves then 1 else if usedN c.lt L m n + l.bales > g.room then 2 else if c.tm g ≠ 2 then 3 else 0 := by
 have hu : usedN c.lt L m (n + 1) = usedN c.lt L m n + l.bales := by
  show usedN _ _ _ n + _ = _; rw [hp, if_pos rfl, hl]
 unfold ruleR; rw [hl, hp]; simp only; rw [if_neg (by omega), Int.toNat_natCast, hg, hu]
theorem ck_find (hL : planB c L = true) : checkV c L = (findR c.tm c.wg c.lt L 0 c.lt.length).getD (0, 0) := by
 unfold checkV; rw [check_find (planB_parts hL).1 (planB_parts hL).2]
theorem ck_none (hv : openE c true = 0) (hL : planB c L = true) (h : ∀ j, j < c.lt.length → ruleR c.tm c.wg c.lt L j = 0) :
  checkE c L = 4 ∧ checkW c L = (0, 0) ∧ worthE c L = 0 ∧ worthV c L = (bringN c (fun w => (comesP w).2) L c.lt.length, bringN c (fun w => (comesP w).1) L c.lt.length) := by
 have hx : checkV c L = (0, 0) := by rw [ck_find hL, (findR_none c.lt.length 0).2 (fun j _ hj => h j (by omega))]; rfl
 have h1 : checkE c L = 4 := by unfold checkE; rw [hL, if_pos hv, hx]; rfl
 have h2 : worthE c L = 0 := by unfold worthE; rw [hL, if_pos hv, hx]; rfl
 refine ⟨h1, by unfold checkW; rw [h1]; rfl, h2, ?_⟩
 rw [bringN_all _ (planB_parts hL).1, bringN_all _ (planB_parts hL).1]; unfold worthV; rw [if_pos h2]
 rfl
theorem ck_some (hv : openE c true = 0) (hL : planB c L = true) {i : Nat} (hi : i < c.lt.length) (hr : ruleR c.tm c.wg c.lt L i ≠ 0) (h : ∀ j, j < i → ruleR c.tm c.wg c.lt L j = 0) :
  checkE c L = 0 ∧ checkW c L = (i, ruleR c.tm c.wg c.lt L i) ∧ worthE c L = 11 ∧ worthV c L = (0, 0) := by
 have hx : checkV c L = (i, ruleR c.tm c.wg c.lt L i) := by rw [ck_find hL, findR_some hr c.lt.length 0 (by omega) (by omega) (fun j _ hj => h j hj)]; rfl
 have h1 : checkE c L = 0 := by unfold checkE; rw [hL, if_pos hv, hx, if_neg hr]
 have h2 : worthE c L = 11 := by unfold worthE; rw [hL, if_pos hv, hx, if_neg hr]
 exact ⟨h1, by unfold checkW; rw [if_pos h1, hx], h2, by unfold worthV; rw [if_neg (by omega)]⟩
theorem bringN_le (hok : okC c = true) (hL : planB c L = true) : ∀ n, n ≤ c.lt.length → bringN c (fun w => (comesP w).2) L n ≤ bringN c (fun w => (comesP w).1) L n ∧ 0 ≤ bringN c (fun w => (comesP w).2) L n ∧ bringN c (fun w => (comesP w).1) L n ≤ 1000 * n
 | 0, _ => by rw [bringN_zero, bringN_zero]; simp
 | n + 1, hn => by
  have ih := bringN_le hok hL n (by omega)
  obtain ⟨h1, h2⟩ := planB_parts hL; obtain ⟨l, hl⟩ : ∃ l, c.lt[n]? = some l := ⟨_, List.getElem?_eq_getElem (by omega)⟩
  obtain ⟨p, hp⟩ : ∃ p, L[n]? = some p := ⟨_, List.getElem?_eq_getElem (by omega)⟩
  rcases h2 p (List.mem_of_getElem? hp) with rfl | ⟨h3, h4⟩
  ·rw [bringN_neg _ hl hp (by omega), bringN_neg _ hl hp (by omega)]
   omega
  ·obtain ⟨m, rfl⟩ : ∃ m : Nat, p = m := ⟨p.toNat, by omega⟩
   obtain ⟨g, hg⟩ : ∃ g, c.wg[m]? = some g := ⟨_, List.getElem?_eq_getElem (by omega)⟩
   rw [bringN_on _ hl hp hg, bringN_on _ hl hp hg]; have hlb := (okC_parts hok).2.2.2.2.2 l (List.mem_of_getElem? hl); have hgb := wagB_iff.1 ((okC_parts hok).2.2.2.2.1 g (List.mem_of_getElem? hg)); have b1 := brings_mono hlb (show (comesP g).1 ≤ (comesP g).2 by unfold comesP; simp only; omega)
   have b2 := brings_bd hlb (comesP g).2; have b3 := brings_bd hlb (comesP g).1
   omega
end
end Go.Proofs.YtgmfhngcehkibaaGreat
namespace Go.Proofs.YtgmfhngcehkibaaGreat
open Go.RowKit Go.Hav Go.Shelf Go.Sq
attribute [local go_sem] Oper.semAt_some
section
variable {fa la wa ta : Option Addr} {fl fc ll lc wn wc tn tc : Nat} {c : ICart}
theorem cartCheck_any {ba : Option Addr} {bn bc : Nat} {by_ : List Nat} (hbn : by_.length = bn) (h255 : ∀ x ∈ by_, x ≤ 255) (hbm : bn ≤ 9223372036854775807) (w : World) (hP : CtIn w w.heap.size fa fl la ll wa wn ta tn c) (hR : RdG byF 1 w w.heap.size ba by_) : Calls Tryz.prog 8 #[(.agg #[.int .i64 c.riv.depth.lo, .int .i64 c.riv.depth.hi, .int .i64 c.riv.fall.lo, .int .i64 c.riv.fall.hi, .int .i64 c.riv.days, .slice fa fl fc, .slice la ll lc, .int .i64 c.draws, .slice wa wn wc, .slice ta tn tc]), .slice ba bn bc] w fun e w' => e = .returned (.bool true) ∧ Below w.heap.size w w' := by
 have HP := Lib.hid hP; have HR := Lib.hid hR; have HBN := Lib.hid hbn; have HBM := Lib.hid hbm; have H255 := Lib.hid h255; have HEW := Lib.hid hP.ewn; have HET := Lib.hid hP.etn; clear hP hR hbn hbm h255; obtain ⟨W, hW⟩ : ∃ W, W = w.alloc (.cells #[.int .i64 c.riv.depth.lo, .int .i64 c.riv.depth.hi, .int .i64 c.riv.fall.lo, .int .i64 c.riv.fall.hi, .int .i64 c.riv.days, .slice fa fl fc, .slice la ll lc, .int .i64 c.draws, .slice wa wn wc, .slice ta tn tc] 31) := ⟨_, rfl⟩; obtain ⟨b1, hb1⟩ : ∃ b, b = w.heap.size := ⟨_, rfl⟩; have HK0 : Hid (Blk W b1 31 #[.int .i64 c.riv.depth.lo, .int .i64 c.riv.depth.hi, .int .i64 c.riv.fall.lo, .int .i64 c.riv.fall.hi, .int .i64 c.riv.days, .slice fa fl fc, .slice la ll lc, .int .i64 c.draws, .slice wa wn wc, .slice ta tn tc]) := by rw [hW, hb1]; exact Blk.new w 31 _
 have HB0 : Hid (Below w.heap.size w W) := by rw [hW]; exact (Below.refl _ _).alloc (Nat.le_refl _) _
 go_enter Tryz.func8, Tryz.ntmps8
 go_upto_region 1 with (fail); rw [← hW, ← hb1]; clear hW hb1; have hx := HK0.out; obtain ⟨q0, q1, q2, q3, q4, q5, q6, q7, q8, q9, ql⟩ := cx31 hx; clear hx; go_wp2_with fail; refine (fine_any (fa := fa) (fl := fl) (fc := fc) (la := la) (ll := ll) (lc := lc) (wa := wa) (wn := wn) (wc := wc) (ta := ta) (tn := tn) (tc := tc) W (HP.out.grow HB0.out)).mono ?_; rintro e v1 ⟨⟨b, rfl, hl⟩, hb⟩; have HB1 : Hid (Below w.heap.size w v1) := HB0.out.trans (hb.mono HB0.out.size); have HK1 := Lib.hid (HK0.out.below hb HK0.out.lt); clear hb; clear q0 q1 q2 q3 q4 q5 q6 q7 q8 q9 ql; have HLN := Lib.hid hl; clear hl; cases b
 case false =>
  go_wp2_with fail; refine (alive_any _).mono ?_
  rintro e v2 ⟨rfl, hb⟩; have HB2 : Hid (Below w.heap.size w v2) := HB1.out.trans (hb.mono HB1.out.size); have HK2 := Lib.hid (HK1.out.below hb HK1.out.lt); clear hb; go_wp2; go_ret
  exact ⟨rfl, HB2.out⟩
 have HV : Hid (openE c true = 0) := HLN.out rfl; have HOK : Hid (okC c = true) := (openE_true HV.out).1; have ht5 : tn ≤ 5 := by have := (okC_parts HOK.out).2.2.2.1; rw [HET.out] at this; exact this
 have hw3 : wn ≤ 3 := by have := (okC_parts HOK.out).2.2.1; rw [HEW.out] at this; exact this
 have HLB : Hid (∀ l ∈ c.lt, lotB l = true) := (okC_parts HOK.out).2.2.2.2.2; have HGB : Hid (∀ l ∈ c.wg, wagB l = true) := (okC_parts HOK.out).2.2.2.2.1; obtain ⟨L, hL⟩ : ∃ L, madeL c by_ = L := ⟨_, rfl⟩; have HPB : Hid (planB c L = true) := by rw [← hL]; exact madeL_plan c by_
 have HL := Lib.hid hL; clear hL; have hx := HK1.out; obtain ⟨q0, q1, q2, q3, q4, q5, q6, q7, q8, q9, ql⟩ := cx31 hx; clear hx; go_wp2_with fail; refine (made_any (fa := fa) (fl := fl) (fc := fc) (la := la) (ll := ll) (lc := lc) (wa := wa) (wn := wn) (wc := wc) (ta := ta) (tn := tn) (tc := tc) (ba := ba) (bn := bn) (bc := bc) (by_ := by_) HOK.out HBN.out HBM.out H255.out v1 (HP.out.grow HB1.out) (HR.out.grow HB1.out)).mono ?_; rw [HL.out]; rintro e v3 ⟨A, cp, rfl, hpl, hb⟩; have HB3 : Hid (Below w.heap.size w v3) := HB1.out.trans (hb.mono HB1.out.size); have HK3 := Lib.hid (HK1.out.below hb HK1.out.lt); have HPL := Lib.hid hpl; clear hb hpl; clear q0 q1 q2 q3 q4 q5 q6 q7 q8 q9 ql; obtain ⟨ce, hce⟩ : ∃ x, checkE c L = x := ⟨_, rfl⟩; obtain ⟨cl, hcl⟩ : ∃ x, (checkW c L).1 = x := ⟨_, rfl⟩; obtain ⟨cr, hcr⟩ : ∃ x, (checkW c L).2 = x := ⟨_, rfl⟩; obtain ⟨we, hwe⟩ : ∃ x, worthE c L = x := ⟨_, rfl⟩; obtain ⟨s1, hs1⟩ : ∃ x, (worthV c L).1 = x := ⟨_, rfl⟩; obtain ⟨s2, hs2⟩ : ∃ x, (worthV c L).2 = x := ⟨_, rfl⟩; have HC : Hid (checkE c L = ce ∧ (checkW c L).1 = cl ∧ (checkW c L).2 = cr ∧ worthE c L = we ∧ (worthV c L).1 = s1 ∧ (worthV c L).2 = s2) := ⟨hce, hcl, hcr, hwe, hs1, hs2⟩; clear hce hcl hcr hwe hs1 hs2; have hx := HK3.out; obtain ⟨q0, q1, q2, q3, q4, q5, q6, q7, q8, q9, ql⟩ := cx31 hx; clear hx; go_wp2_with fail
 refine (PCheck_any (fa := fa) (fl := fl) (fc := fc) (la := la) (ll := ll) (lc := lc) (wa := wa) (wn := wn) (wc := wc) (ta := ta) (tn := tn) (tc := tc) (pa := A) (pn := tn) (pc := cp) (ps := L) (w := v3) (c := c) (HP.out.grow HB3.out) HPL.out).mono ?_; rw [HC.out.1, HC.out.2.1, HC.out.2.2.1]; rintro e v4 ⟨rfl, hb⟩; have HB4 : Hid (Below w.heap.size w v4) := HB3.out.trans (hb.mono HB3.out.size); have HK4 := Lib.hid (HK3.out.below hb HK3.out.lt); have HPL4 := Lib.hid (HPL.out.grow hb); clear hb; clear q0 q1 q2 q3 q4 q5 q6 q7 q8 q9 ql; have hx := HK4.out; obtain ⟨q0, q1, q2, q3, q4, q5, q6, q7, q8, q9, ql⟩ := cx31 hx; clear hx; go_wp2_with fail; refine (PWorth_any (fa := fa) (fl := fl) (fc := fc) (la := la) (ll := ll) (lc := lc) (wa := wa) (wn := wn) (wc := wc) (ta := ta) (tn := tn) (tc := tc) (pa := A) (pn := tn) (pc := cp) (ps := L) (w := v4) (c := c) (HP.out.grow HB4.out) HPL4.out).mono ?_; rw [HC.out.2.2.2.1]; rintro e v5 ⟨rfl, hb⟩; have HB5 : Hid (Below w.heap.size w v5) := HB4.out.trans (hb.mono HB4.out.size); have HK5 := Lib.hid (HK4.out.below hb HK4.out.lt); have HPL5 := Lib.hid (HPL4.out.grow hb); clear hb; clear q0 q1 q2 q3 q4 q5 q6 q7 q8 q9 ql; unfold spanV; rw [HC.out.2.2.2.2.1, HC.out.2.2.2.2.2]; obtain ⟨V6, hV6⟩ : ∃ V, V = v5.alloc (.cells #[.int .i64 s1, .int .i64 s2] 23) := ⟨_, rfl⟩; obtain ⟨pXS, hpXS⟩ : ∃ q, q = v5.heap.size := ⟨_, rfl⟩; have hw : Below v5.heap.size v5 V6 := by rw [hV6]; exact (Below.refl _ _).alloc (Nat.le_refl _) _
 have XS : Hid (Blk V6 pXS 23 #[.int .i64 s1, .int .i64 s2]) := by rw [hV6, hpXS]; exact Blk.new v5 23 _
 have HB6 : Hid (Below w.heap.size w V6) := HB5.out.trans (hw.mono HB5.out.size); have HK6 := Lib.hid (HK5.out.below hw HK5.out.lt); have HPL6 := Lib.hid (HPL5.out.grow hw); go_upto_region 6 with (fail); rw [← hpXS, ← hV6]; clear hV6 hpXS hw; have hmk := make_ints wn (by omega) V6
 obtain ⟨V7, hV7⟩ : ∃ V, V = V6.alloc (.cells (intsA (List.replicate wn 0)) 3) := ⟨_, rfl⟩; obtain ⟨pR, hpR⟩ : ∃ q, q = V6.heap.size := ⟨_, rfl⟩; have hw : Below V6.heap.size V6 V7 := by rw [hV7]; exact (Below.refl _ _).alloc (Nat.le_refl _) _
 have XR : Hid (Blk V7 pR 3 (intsA (rowU c L 0))) := by rw [hV7, hpR, rowU_zero, HEW.out]; exact Blk.new V6 3 _
 have HPR : Hid (w.heap.size ≤ pR ∧ V6.heap.size ≤ pR) := by rw [hpR]; exact ⟨HB6.out.size, Nat.le_refl _⟩
 have hx := HK6.out; obtain ⟨q0, q1, q2, q3, q4, q5, q6, q7, q8, q9, ql⟩ := cx31 hx; clear hx; go_upto_region 7 with (fail); clear q0 q1 q2 q3 q4 q5 q6 q7 q8 q9 ql; have HB7 : Hid (Below w.heap.size w V7) := HB6.out.trans (hw.mono HB6.out.size); have HK7 := Lib.hid (HK6.out.below hw HK6.out.lt); have XS7 := Lib.hid (XS.out.below hw XS.out.lt); have HPL7 := Lib.hid (HPL6.out.grow hw); rw [← hpR, ← hV7]; have HVX : Hid (Below V6.heap.size V6 V7) := hw; clear hV7 hpR hmk hw; go_upto_region 8 with (fail)
 go_loopw [12, 13, 47] (fun a b i wr => ∃ j : Nat, j ≤ tn ∧ i = .int .i64 j ∧ a = .int .i64 (bringN c (fun w => (comesP w).2) L j) ∧ b = .int .i64 (bringN c (fun w => (comesP w).1) L j) ∧ Hid (∀ i, i < j → ruleR c.tm c.wg c.lt L i = 0) ∧ Hid (Below w.heap.size w wr) ∧ Hid (Below V6.heap.size V6 wr) ∧ Hid (Blk wr pR 3 (intsA (rowU c L j)))) (fun _ _ i _ => tn - (intOf i).toNat)
 case atStart => exact ⟨0, Nat.zero_le _, rfl, by rw [bringN_zero], by rw [bringN_zero], (fun i h => by omega : Hid (∀ i, i < 0 → ruleR c.tm c.wg c.lt L i = 0)), HB7, HVX, XR⟩
 case round =>
  obtain ⟨j, hj, rfl, rfl, rfl, HRU, HBR, HBX, HRO⟩ := hrel; have HKR := Lib.hid (HK6.out.below HBX.out HK6.out.lt); have HXR := Lib.hid (XS.out.below HBX.out XS.out.lt); have HPLR := Lib.hid (HPL6.out.grow HBX.out)
  by_cases hlt : j < tn
  ·obtain ⟨l, hl⟩ : ∃ l, c.lt[j]? = some l := ⟨c.lt[j]'(by have := HET.out; omega), by simp⟩
   obtain ⟨p, hp⟩ : ∃ p, L[j]? = some p := ⟨L[j]'(by have := HPLR.out.len; omega), by simp⟩
   obtain ⟨ab, ao, hA, hab, A0⟩ := rd_in HPLR.out.row j p hp; have HLJ := Lib.hid hl; have HPJ := Lib.hid hp; have HPO := Lib.hid ((planB_parts HPB.out).2 p (List.mem_of_getElem? hp)); have habw : ab < wr.heap.size := hab; subst hA; clear hl hp hab
   by_cases hp0 : p < 0
   ·have HN1 := Lib.hid (bringN_neg (fun w => (comesP w).2) HLJ.out HPJ.out hp0)
    have HN2 := Lib.hid (bringN_neg (fun w => (comesP w).1) HLJ.out HPJ.out hp0)
    have HN3 := Lib.hid (rowU_neg (c := c) HPJ.out hp0)
    have HN4 : Hid (∀ i, i < j + 1 → ruleR c.tm c.wg c.lt L i = 0) := fun i hi => by
     by_cases e : i = j
     ·rw [e]; exact ruleR_neg HPJ.out hp0
     ·exact HRU.out i (by omega)
    go_wp2; go_roundw
    case rel => exact ⟨j + 1, by omega, by go_num, by rw [HN1.out], by rw [HN2.out], HN4, HBR, HBX, by show Blk _ _ _ _; rw [HN3.out]; exact HRO.out⟩
    case measure => simp [intOf]; omega
   ·obtain ⟨m, rfl⟩ : ∃ m : Nat, p = m := ⟨p.toNat, by omega⟩
    have hmw : m < wn := by have := HPO.out; have := HEW.out; omega
    obtain ⟨gg, hgg⟩ : ∃ x, c.wg[m]? = some x := ⟨c.wg[m]'(by have := HEW.out; omega), by simp⟩
    have HG := Lib.hid hgg; have HGG := Lib.hid (HGB.out gg (List.mem_of_getElem? hgg)); have HLL := Lib.hid (HLB.out l (List.mem_of_getElem? HLJ.out)); have hib : isWagB c m = true := inB_iff.2 ⟨by omega, by have := HEW.out; omega⟩
    obtain ⟨T, hT⟩ : ∃ T, c.tm gg = T := ⟨_, rfl⟩
    have HI : Hid (inTimeE c m = 0 ∧ inTimeV c m = T) := by
     have h1 : inTimeE c m = 0 := by unfold inTimeE; rw [hib]; exact HV.out
     exact ⟨h1, by unfold inTimeV; rw [h1, if_pos rfl, Int.toNat_natCast, hgg]; exact hT⟩
    have HA : Hid (arrivesE c m = 0 ∧ arrivesV c m = (gg.leaves + gg.takes.lo, gg.leaves + gg.takes.hi)) := by
     have h1 : arrivesE c m = 0 := by unfold arrivesE; rw [HOK.out, hib]; rfl
     exact ⟨h1, by unfold arrivesV; rw [h1, if_pos rfl, Int.toNat_natCast, hgg]; rfl⟩
    have HRL := Lib.hid (rule_at (c := c) HLJ.out HPJ.out hgg)
    have HN1 := Lib.hid (bringN_on (fun w => (comesP w).2) HLJ.out HPJ.out hgg)
    have HN2 := Lib.hid (bringN_on (fun w => (comesP w).1) HLJ.out HPJ.out hgg)
    have HN3 := Lib.hid (rowU_on HLJ.out HPJ.out (show m < c.wg.length by have := HEW.out; omega))
    have HN5 := Lib.hid (rowU_at (c := c) (L := L) (n := j) (show m < c.wg.length by have := HEW.out; omega))
    have HU := Lib.hid (usedN_bd (c := c) (L := L) HLB.out m j); have HBD1 := Lib.hid (bringN_le HOK.out HPB.out j (by have := HET.out; omega))
    obtain ⟨bl, ol, hta, hbl, L0, L1, L2, L3, L4⟩ := rd_lt HP.out.hlt j l HLJ.out; obtain ⟨bw, ow, hwa, hbw, G0, G1, G2, G3⟩ := rd_wg HP.out.hwg m gg hgg; have HTA := Lib.hid hta; have HWA := Lib.hid hwa
    have HLC : Hid (∀ v, Below w.heap.size w v → bl < v.heap.size ∧ v.cell? ⟨bl, ol + j * 5, none⟩ = some (.int .i64 l.from_) ∧ v.cell? ⟨bl, ol + j * 5 + 1, none⟩ = some (.int .i64 l.bales) ∧ v.cell? ⟨bl, ol + j * 5 + 2, none⟩ = some (.int .i64 l.price) ∧ v.cell? ⟨bl, ol + j * 5 + 3, none⟩ = some (.int .i64 l.until_) ∧ v.cell? ⟨bl, ol + j * 5 + 4, none⟩ = some (.int .i64 l.less)) := fun v hv => ⟨Nat.lt_of_lt_of_le hbl hv.size, (cvB hv _ _ hbl).trans L0, (cvB hv _ _ hbl).trans L1, (cvB hv _ _ hbl).trans L2, (cvB hv _ _ hbl).trans L3, (cvB hv _ _ hbl).trans L4⟩
    have HWC : Hid (∀ v, Below w.heap.size w v → bw < v.heap.size ∧ v.cell? ⟨bw, ow + m * 4, none⟩ = some (.int .i64 gg.leaves) ∧ v.cell? ⟨bw, ow + m * 4 + 3, none⟩ = some (.int .i64 gg.room)) := fun v hv => ⟨Nat.lt_of_lt_of_le hbw hv.size, (cvB hv _ _ hbw).trans G0, (cvB hv _ _ hbw).trans G3⟩
    have hmi : (m : Int) < wn := by omega
    have hjt : (j : Int) < tn := by omega
    clear hgg hT hib hta hwa L0 L1 L2 L3 L4 G0 G1 G2 G3 hbl hbw hp0; have hx := HKR.out; obtain ⟨q0, q1, q2, q3, q4, q5, q6, q7, q8, q9, ql⟩ := cx31 hx; clear hx; go_wp2_with fail; refine (PInTime_any (fa := fa) (fl := fl) (fc := fc) (la := la) (ll := ll) (lc := lc) (wa := wa) (wn := wn) (wc := wc) (ta := ta) (tn := tn) (tc := tc) (w := wr) (c := c) m (HP.out.grow HBR.out)).mono ?_; rw [HI.out.1, HI.out.2]; rintro e v41 ⟨rfl, hb⟩; have HB41 : Hid (Below w.heap.size w v41) := HBR.out.trans (hb.mono HBR.out.size); have HK41 := Lib.hid (HKR.out.below hb HKR.out.lt); have HXR41 := Lib.hid (HXR.out.below hb HXR.out.lt); have HRO41 := Lib.hid (HRO.out.below hb HRO.out.lt); have HXV641 : Hid (Below V6.heap.size V6 v41) := HBX.out.trans (hb.mono HBX.out.size); clear hb; clear q0 q1 q2 q3 q4 q5 q6 q7 q8 q9 ql; clear A0 habw; have hx := HK41.out; obtain ⟨q0, q1, q2, q3, q4, q5, q6, q7, q8, q9, ql⟩ := cx31 hx; clear hx; go_wp2_with fail; refine (PArrives_any (fa := fa) (fl := fl) (fc := fc) (la := la) (ll := ll) (lc := lc) (wa := wa) (wn := wn) (wc := wc) (ta := ta) (tn := tn) (tc := tc) (w := v41) (c := c) m (HP.out.grow HB41.out)).mono ?_; rw [HA.out.1, HA.out.2]; rintro e v42 ⟨rfl, hb⟩; have HB42 : Hid (Below w.heap.size w v42) := HB41.out.trans (hb.mono HB41.out.size); have HK42 := Lib.hid (HK41.out.below hb HK41.out.lt); have HXR42 := Lib.hid (HXR41.out.below hb HXR41.out.lt); have HRO42 := Lib.hid (HRO41.out.below hb HRO41.out.lt)
    have HXV642 : Hid (Below V6.heap.size V6 v42) := HXV641.out.trans (hb.mono HXV641.out.size); clear hb; clear q0 q1 q2 q3 q4 q5 q6 q7 q8 q9 ql; unfold spanV; obtain ⟨V43, hV43⟩ : ∃ V, V = v42.alloc (.cells #[.int .i64 (gg.leaves + gg.takes.lo), .int .i64 (gg.leaves + gg.takes.hi)] 23) := ⟨_, rfl⟩; obtain ⟨pXD, hpXD⟩ : ∃ q, q = v42.heap.size := ⟨_, rfl⟩; have hw : Below v42.heap.size v42 V43 := by rw [hV43]; exact (Below.refl _ _).alloc (Nat.le_refl _) _
    have XD : Hid (Blk V43 pXD 23 #[.int .i64 (gg.leaves + gg.takes.lo), .int .i64 (gg.leaves + gg.takes.hi)]) := by rw [hV43, hpXD]; exact Blk.new v42 23 _
    have HB43 : Hid (Below w.heap.size w V43) := HB42.out.trans (hw.mono HB42.out.size); have HK43 := Lib.hid (HK42.out.below hw HK42.out.lt); have HXR43 := Lib.hid (HXR42.out.below hw HXR42.out.lt); have HRO43 := Lib.hid (HRO42.out.below hw HRO42.out.lt); have HXV643 : Hid (Below V6.heap.size V6 V43) := HXV642.out.trans (hw.mono HXV642.out.size); go_upto_region 13 with (fail); rw [← hpXD, ← hV43]; clear hV43 hpXD hw; obtain ⟨l0, l1, l2, l3, l4⟩ := l; obtain ⟨g0, ⟨g1, g2⟩, g3⟩ := gg; obtain ⟨U, hU⟩ : ∃ U, usedN c.lt L m j = U := ⟨_, rfl⟩
    obtain ⟨lo, hlo⟩ : ∃ x, bringN c (fun w => (comesP w).2) L j = x := ⟨_, rfl⟩
    obtain ⟨hi, hhi⟩ : ∃ x, bringN c (fun w => (comesP w).1) L j = x := ⟨_, rfl⟩
    simp only at HLC HWC HRL HN3; have hlB := lotB_iff.1 HLL.out; have hgB := wagB_iff.1 HGG.out; simp only at hlB hgB; rw [hU] at HU HN3 HN5 HRL; rw [hlo] at HN1 HBD1 ⊢; rw [hhi] at HN2 HBD1 ⊢; clear hU hlo hhi; have hx := HK43.out; obtain ⟨q0, q1, q2, q3, q4, q5, q6, q7, q8, q9, ql⟩ := cx31 hx; clear hx; rw [HTA.out] at q9; obtain ⟨yl, y0, y1, y2, y3, y4⟩ := HLC.out V43 HB43.out; have rc : V43.cell? ⟨pR, m, none⟩ = some (.int .i64 U) := (HRO43.out.cell m).trans HN5.out; have rf := HRO43.out.frozen m; have rl := HRO43.out.lt; have hwu : IntKind.i64.wrap (U + l1) = U + l1 := IntWalk.i64_in _ (by have := HU.out; omega)
    refine wp_region_havoc [(0,false),(1,false),(2,false),(3,false),(4,false),(5,false),(6,false),(7,false),(8,false),(9,false),(10,false),(11,false)] [12] (fun _ _ => False) (by kernel_rfl) (by kernel_rfl) (fun _ _ _ _ h => h.elim) ?_
    (apply hav_same (by exact ho rfl) (by kernel_rfl); (focus (intro wv hgv _; have hcv := cvB hgv; (try go_simp); try rfl; done)); simp only [Act.put, List.setIfInBounds_toArray, List.set_cons_succ, List.set_cons_zero])
    iterate 11 (apply hav_same (by exact ho rfl) (by kernel_rfl); (focus (intro wv hgv _; have hcv := cvB hgv; (try go_simp); try rfl; done)); simp only [Act.put, List.setIfInBounds_toArray, List.set_cons_succ, List.set_cons_zero])
    refine hav_end (fun X hgX _ => ?_)
    simp only [List.filterMap]; have hb : Below V43.heap.size V43 X := hgX; clear hgX rc rf rl; clear q0 q1 q2 q3 q4 q5 q6 q7 q8 q9 ql; clear yl y0 y1 y2 y3 y4; have HB44 : Hid (Below w.heap.size w X) := HB43.out.trans (hb.mono HB43.out.size); have HK44 := Lib.hid (HK43.out.below hb HK43.out.lt); have HXR44 := Lib.hid (HXR43.out.below hb HXR43.out.lt); have HRO44 := Lib.hid (HRO43.out.below hb HRO43.out.lt); have XD44 := Lib.hid (XD.out.below hb XD.out.lt); have HXV644 : Hid (Below V6.heap.size V6 X) := HXV643.out.trans (hb.mono HXV643.out.size); clear hb; have rc : X.cell? ⟨pR, m, none⟩ = some (.int .i64 U) := (HRO44.out.cell m).trans HN5.out; have rf := HRO44.out.frozen m; have rl := HRO44.out.lt; go_upto_region 15 with (fail); obtain ⟨Y, hY⟩ : ∃ Y, Y = X.setCell ⟨pR, m, none⟩ (.int .i64 (U + l1)) := ⟨_, rfl⟩; rw [← hY]; have HRY : Hid (Blk Y pR 3 (intsA (rowU c L (j + 1)))) := by rw [hY]; show Blk _ _ _ _; rw [← HN3.out]; exact HRO44.out.set_ m _
    have hT : Turn (fun x => x = pR) X Y := by rw [hY]; exact Turn.set _ _ (fun _ => rfl)
    have HBY : Hid (Below w.heap.size w Y) := HB44.out.trans (hT.below HB44.out.size (fun x e => by have e' : x = pR := e; have := HPR.out.1; omega))
    have HBXY : Hid (Below V6.heap.size V6 Y) := HXV644.out.trans (hT.below HXV644.out.size (fun x e => by have e' : x = pR := e; have := HPR.out.2; omega))
    have HKX : Hid (pR ≠ b1 ∧ True) := ⟨fun e => by have h1 := HRO44.out; have h2 := HK44.out; rw [e] at h1; have h3 := h1.symm.trans h2; simp at h3, trivial⟩
    have HKY := Lib.hid (HK44.out.turn hT (fun e => HKX.out.1 e.symm))
    have HXRY := Lib.hid (HXR44.out.turn hT (blk_ne HXR44.out HRO44.out (by decide)))
    have XDY := Lib.hid (XD44.out.turn hT (blk_ne XD44.out HRO44.out (by decide)))
    clear hT hY rc rf rl hwu; go_upto_region 17 with (fail)
    by_cases h1 : g0 < l0
    ·have h1q : decide (g0 < l0) = true := decide_eq_true h1; have hx := HKY.out; obtain ⟨q0, q1, q2, q3, q4, q5, q6, q7, q8, q9, ql⟩ := cx31 hx; clear hx; rw [HTA.out] at q9; rw [HWA.out] at q8; obtain ⟨yl, y0, y1, y2, y3, y4⟩ := HLC.out Y HBY.out; obtain ⟨zl, z0, z3⟩ := HWC.out Y HBY.out
     refine wp_region_havoc [(0,false),(1,false),(2,false),(3,false),(4,false),(5,false),(6,false),(7,false),(8,false),(9,false),(10,false),(11,false),(12,false),(13,false)] [] (fun _ _ => False) (by kernel_rfl) (by kernel_rfl) (fun _ _ _ _ h => h.elim) ?_
     (apply hav_same (by exact ho rfl) (by kernel_rfl); (focus (intro wv hgv _; have hcv := cvB hgv; (try go_simp); try rfl; done)); simp only [Act.put, List.setIfInBounds_toArray, List.set_cons_succ, List.set_cons_zero])
     iterate 13 (apply hav_same (by exact ho rfl) (by kernel_rfl); (focus (intro wv hgv _; have hcv := cvB hgv; (try go_simp); try rfl; done)); simp only [Act.put, List.setIfInBounds_toArray, List.set_cons_succ, List.set_cons_zero])
     refine hav_end (fun v61 hgz _ => ?_)
     simp only [List.filterMap]; have hb : Below Y.heap.size Y v61 := hgz; have HB61 : Hid (Below w.heap.size w v61) := HBY.out.trans (hb.mono HBY.out.size); have HK61 := Lib.hid (HKY.out.below hb HKY.out.lt); have HXR61 := Lib.hid (HXRY.out.below hb HXRY.out.lt); have XD61 := Lib.hid (XDY.out.below hb XDY.out.lt); have HRY61 := Lib.hid (HRY.out.below hb HRY.out.lt); have HXV661 : Hid (Below V6.heap.size V6 v61) := HBXY.out.trans (hb.mono HBXY.out.size); clear hgz hb; clear q0 q1 q2 q3 q4 q5 q6 q7 q8 q9 ql; clear yl y0 y1 y2 y3 y4; clear zl z0 z3; have hr : ruleR c.tm c.wg c.lt L j = 1 := by rw [HRL.out]; rw [if_pos h1]
     obtain ⟨e1, e2, e3, e4⟩ := ck_some HV.out HPB.out (i := j) (by have := HET.out; omega) (by rw [hr]; omega) (fun i hi => HRU.out i hi)
     rw [hr] at e2; obtain ⟨f1, f2, f3, f4, f5, f6⟩ := HC.out; rw [e1] at f1; rw [e2] at f2 f3; rw [e3] at f4; rw [e4] at f5 f6; simp only at f2 f3 f5 f6; subst f1 f2 f3 f4 f5 f6; clear hr e1 e2 e3 e4; have x0 := HXR61.out.cell 0; have x1 := HXR61.out.cell 1; have xl := HXR61.out.lt; simp at x0 x1; go_wp2_with fail; refine (alive_any _).mono ?_; rintro e v62 ⟨rfl, hb⟩; have HB62 : Hid (Below w.heap.size w v62) := HB61.out.trans (hb.mono HB61.out.size); have HK62 := Lib.hid (HK61.out.below hb HK61.out.lt); have HXR62 := Lib.hid (HXR61.out.below hb HXR61.out.lt); have XD62 := Lib.hid (XD61.out.below hb XD61.out.lt); have HRY62 := Lib.hid (HRY61.out.below hb HRY61.out.lt); have HXV662 : Hid (Below V6.heap.size V6 v62) := HXV661.out.trans (hb.mono HXV661.out.size); clear hb; clear x0 x1 xl; go_wp2; go_ret
     exact ⟨rfl, HB62.out⟩
    ·have h1q : decide (g0 < l0) = false := decide_eq_false h1; have hx := HKY.out; obtain ⟨q0, q1, q2, q3, q4, q5, q6, q7, q8, q9, ql⟩ := cx31 hx; clear hx; rw [HTA.out] at q9; rw [HWA.out] at q8; obtain ⟨yl, y0, y1, y2, y3, y4⟩ := HLC.out Y HBY.out; obtain ⟨zl, z0, z3⟩ := HWC.out Y HBY.out
     refine wp_region_havoc [(0,false),(1,false),(2,false),(3,false),(4,false),(5,false),(6,false),(7,false),(8,false),(9,false),(10,false),(11,false),(12,false),(13,false)] [] (fun _ _ => False) (by kernel_rfl) (by kernel_rfl) (fun _ _ _ _ h => h.elim) ?_
     (apply hav_same (by exact ho rfl) (by kernel_rfl); (focus (intro wv hgv _; have hcv := cvB hgv; (try go_simp); try rfl; done)); simp only [Act.put, List.setIfInBounds_toArray, List.set_cons_succ, List.set_cons_zero])
     iterate 13 (apply hav_same (by exact ho rfl) (by kernel_rfl); (focus (intro wv hgv _; have hcv := cvB hgv; (try go_simp); try rfl; done)); simp only [Act.put, List.setIfInBounds_toArray, List.set_cons_succ, List.set_cons_zero])
     refine hav_end (fun v63 hgz _ => ?_)
     simp only [List.filterMap]; have hb : Below Y.heap.size Y v63 := hgz; have HB63 : Hid (Below w.heap.size w v63) := HBY.out.trans (hb.mono HBY.out.size); have HK63 := Lib.hid (HKY.out.below hb HKY.out.lt); have HXR63 := Lib.hid (HXRY.out.below hb HXRY.out.lt); have XD63 := Lib.hid (XDY.out.below hb XDY.out.lt); have HRY63 := Lib.hid (HRY.out.below hb HRY.out.lt); have HXV663 : Hid (Below V6.heap.size V6 v63) := HBXY.out.trans (hb.mono HBXY.out.size); clear hgz hb; clear q0 q1 q2 q3 q4 q5 q6 q7 q8 q9 ql; clear yl y0 y1 y2 y3 y4; clear zl z0 z3
     have HN6 : Hid ((intsA (rowU c L (j + 1)))[m]? = some (.int .i64 (U + l1))) := by
      show _ = _; rw [← HN3.out, Array.getElem?_setIfInBounds, if_pos rfl, if_pos (by show m < (intsA (rowU c L j)).size; unfold intsA; simp [rowU_len]; have := HEW.out; omega)]
     by_cases h2 : g3 < U + l1
     ·have h2q : decide (g3 < U + l1) = true := decide_eq_true h2; go_upto_region 19 with (fail); have hx := HK63.out; obtain ⟨q0, q1, q2, q3, q4, q5, q6, q7, q8, q9, ql⟩ := cx31 hx; clear hx; rw [HWA.out] at q8; obtain ⟨zl, z0, z3⟩ := HWC.out v63 HB63.out; have rc : v63.cell? ⟨pR, m, none⟩ = some (.int .i64 (U + l1)) := (HRY63.out.cell m).trans HN6.out; have rl := HRY63.out.lt
      refine wp_region_havoc [(0,false),(1,false),(2,false),(3,false),(4,false),(5,false),(6,false),(7,false),(8,false),(9,false),(10,false),(11,false)] [] (fun _ _ => False) (by kernel_rfl) (by kernel_rfl) (fun _ _ _ _ h => h.elim) ?_
      (apply hav_same (by exact ho rfl) (by kernel_rfl); (focus (intro wv hgv _; have hcv := cvB hgv; (try go_simp); try rfl; done)); simp only [Act.put, List.setIfInBounds_toArray, List.set_cons_succ, List.set_cons_zero])
      iterate 11 (apply hav_same (by exact ho rfl) (by kernel_rfl); (focus (intro wv hgv _; have hcv := cvB hgv; (try go_simp); try rfl; done)); simp only [Act.put, List.setIfInBounds_toArray, List.set_cons_succ, List.set_cons_zero])
      refine hav_end (fun v64 hgz _ => ?_)
      simp only [List.filterMap]; have hb : Below v63.heap.size v63 v64 := hgz; have HB64 : Hid (Below w.heap.size w v64) := HB63.out.trans (hb.mono HB63.out.size); have HK64 := Lib.hid (HK63.out.below hb HK63.out.lt); have HXR64 := Lib.hid (HXR63.out.below hb HXR63.out.lt); have XD64 := Lib.hid (XD63.out.below hb XD63.out.lt); have HRY64 := Lib.hid (HRY63.out.below hb HRY63.out.lt); have HXV664 : Hid (Below V6.heap.size V6 v64) := HXV663.out.trans (hb.mono HXV663.out.size); clear hgz hb rc rl; clear q0 q1 q2 q3 q4 q5 q6 q7 q8 q9 ql; clear zl z0 z3; have hr : ruleR c.tm c.wg c.lt L j = 2 := by rw [HRL.out]; rw [if_neg h1, if_pos h2]
      obtain ⟨e1, e2, e3, e4⟩ := ck_some HV.out HPB.out (i := j) (by have := HET.out; omega) (by rw [hr]; omega) (fun i hi => HRU.out i hi)
      rw [hr] at e2; obtain ⟨f1, f2, f3, f4, f5, f6⟩ := HC.out; rw [e1] at f1; rw [e2] at f2 f3; rw [e3] at f4; rw [e4] at f5 f6; simp only at f2 f3 f5 f6; subst f1 f2 f3 f4 f5 f6; clear hr e1 e2 e3 e4; have x0 := HXR64.out.cell 0; have x1 := HXR64.out.cell 1; have xl := HXR64.out.lt; simp at x0 x1; go_wp2_with fail; refine (alive_any _).mono ?_; rintro e v65 ⟨rfl, hb⟩; have HB65 : Hid (Below w.heap.size w v65) := HB64.out.trans (hb.mono HB64.out.size); have HK65 := Lib.hid (HK64.out.below hb HK64.out.lt); have HXR65 := Lib.hid (HXR64.out.below hb HXR64.out.lt); have XD65 := Lib.hid (XD64.out.below hb XD64.out.lt); have HRY65 := Lib.hid (HRY64.out.below hb HRY64.out.lt); have HXV665 : Hid (Below V6.heap.size V6 v65) := HXV664.out.trans (hb.mono HXV664.out.size); clear hb; clear x0 x1 xl; go_wp2; go_ret
      exact ⟨rfl, HB65.out⟩
     ·have h2q : decide (g3 < U + l1) = false := decide_eq_false h2; go_upto_region 19 with (fail); have hx := HK63.out; obtain ⟨q0, q1, q2, q3, q4, q5, q6, q7, q8, q9, ql⟩ := cx31 hx; clear hx; rw [HWA.out] at q8; obtain ⟨zl, z0, z3⟩ := HWC.out v63 HB63.out; have rc : v63.cell? ⟨pR, m, none⟩ = some (.int .i64 (U + l1)) := (HRY63.out.cell m).trans HN6.out; have rl := HRY63.out.lt
      refine wp_region_havoc [(0,false),(1,false),(2,false),(3,false),(4,false),(5,false),(6,false),(7,false),(8,false),(9,false),(10,false),(11,false)] [] (fun _ _ => False) (by kernel_rfl) (by kernel_rfl) (fun _ _ _ _ h => h.elim) ?_
      (apply hav_same (by exact ho rfl) (by kernel_rfl); (focus (intro wv hgv _; have hcv := cvB hgv; (try go_simp); try rfl; done)); simp only [Act.put, List.setIfInBounds_toArray, List.set_cons_succ, List.set_cons_zero])
      iterate 11 (apply hav_same (by exact ho rfl) (by kernel_rfl); (focus (intro wv hgv _; have hcv := cvB hgv; (try go_simp); try rfl; done)); simp only [Act.put, List.setIfInBounds_toArray, List.set_cons_succ, List.set_cons_zero])
      refine hav_end (fun v66 hgz _ => ?_)
      simp only [List.filterMap]; have hb : Below v63.heap.size v63 v66 := hgz; have HB66 : Hid (Below w.heap.size w v66) := HB63.out.trans (hb.mono HB63.out.size); have HK66 := Lib.hid (HK63.out.below hb HK63.out.lt); have HXR66 := Lib.hid (HXR63.out.below hb HXR63.out.lt); have XD66 := Lib.hid (XD63.out.below hb XD63.out.lt); have HRY66 := Lib.hid (HRY63.out.below hb HRY63.out.lt); have HXV666 : Hid (Below V6.heap.size V6 v66) := HXV663.out.trans (hb.mono HXV663.out.size); clear hgz hb rc rl; clear q0 q1 q2 q3 q4 q5 q6 q7 q8 q9 ql; clear zl z0 z3
      by_cases h3 : T = 2
      rotate_left
      ·have h3q : ((T : Int) != 2) = true := by simp; omega
       have hTT : c.tm ⟨g0, ⟨g1, g2⟩, g3⟩ = T := by have := HI.out.2; unfold inTimeV at this; rw [HI.out.1, if_pos rfl, Int.toNat_natCast, HG.out] at this; exact this
       have hr : ruleR c.tm c.wg c.lt L j = 3 := by rw [HRL.out]; rw [if_neg h1, if_neg h2, hTT, if_pos h3]
       obtain ⟨e1, e2, e3, e4⟩ := ck_some HV.out HPB.out (i := j) (by have := HET.out; omega) (by rw [hr]; omega) (fun i hi => HRU.out i hi)
       rw [hr] at e2; obtain ⟨f1, f2, f3, f4, f5, f6⟩ := HC.out; rw [e1] at f1; rw [e2] at f2 f3; rw [e3] at f4; rw [e4] at f5 f6; simp only at f2 f3 f5 f6; subst f1 f2 f3 f4 f5 f6; clear hr e1 e2 e3 e4; have x0 := HXR66.out.cell 0; have x1 := HXR66.out.cell 1; have xl := HXR66.out.lt; simp at x0 x1; go_wp2_with fail; refine (alive_any _).mono ?_; rintro e v67 ⟨rfl, hb⟩; have HB67 : Hid (Below w.heap.size w v67) := HB66.out.trans (hb.mono HB66.out.size); have HK67 := Lib.hid (HK66.out.below hb HK66.out.lt); have HXR67 := Lib.hid (HXR66.out.below hb HXR66.out.lt); have XD67 := Lib.hid (XD66.out.below hb XD66.out.lt); have HRY67 := Lib.hid (HRY66.out.below hb HRY66.out.lt); have HXV667 : Hid (Below V6.heap.size V6 v67) := HXV666.out.trans (hb.mono HXV666.out.size); clear hb; clear x0 x1 xl; go_wp2; go_ret
       exact ⟨rfl, HB67.out⟩
      ·have h3q : ((T : Int) != 2) = false := by simp; omega
       have hTT : c.tm ⟨g0, ⟨g1, g2⟩, g3⟩ = T := by have := HI.out.2; unfold inTimeV at this; rw [HI.out.1, if_pos rfl, Int.toNat_natCast, HG.out] at this; exact this
       have HR0 : Hid (∀ i, i < j + 1 → ruleR c.tm c.wg c.lt L i = 0) := fun i hi => by
        by_cases e : i = j
        ·rw [e, HRL.out, if_neg h1, if_neg h2, hTT, if_neg (by omega)]
        ·exact HRU.out i (by omega)
       clear hTT h1 h2 h3; go_upto_region 25 with (fail); have hx := HK66.out; obtain ⟨q0, q1, q2, q3, q4, q5, q6, q7, q8, q9, ql⟩ := cx31 hx; clear hx; rw [HTA.out] at q9; obtain ⟨yl, y0, y1, y2, y3, y4⟩ := HLC.out v66 HB66.out; have d0 := XD66.out.cell 0; have d1 := XD66.out.cell 1; have dl := XD66.out.lt; simp at d0 d1; obtain ⟨B1, hB1⟩ : ∃ x, bringsP ⟨l0, l1, l2, l3, l4⟩ (g0 + g2) = x := ⟨_, rfl⟩; obtain ⟨B2, hB2⟩ : ∃ x, bringsP ⟨l0, l1, l2, l3, l4⟩ (g0 + g1) = x := ⟨_, rfl⟩; have HB12 : Hid (bringsP ⟨l0, l1, l2, l3, l4⟩ (g0 + g2) = B1 ∧ bringsP ⟨l0, l1, l2, l3, l4⟩ (g0 + g1) = B2) := ⟨hB1, hB2⟩; have hbb1 := brings_bd HLL.out (g0 + g2); have hbb2 := brings_bd HLL.out (g0 + g1); rw [hB1] at hbb1; rw [hB2] at hbb2; have hw1 : IntKind.i64.wrap (lo + B1) = lo + B1 := IntWalk.i64_in _ (by have := HBD1.out; omega)
       have hw2 : IntKind.i64.wrap (hi + B2) = hi + B2 := IntWalk.i64_in _ (by have := HBD1.out; omega)
       clear hbb1 hbb2 hB1 hB2
       refine wp_region_havoc [(0,false),(1,false),(2,false),(3,false),(4,false),(5,false),(6,false),(7,false),(8,false),(9,false),(10,false),(11,false),(12,false),(13,false),(14,false),(15,false),(16,false),(17,false),(18,false),(19,false),(20,false),(21,false)] [] (fun _ _ => False) (by kernel_rfl) (by kernel_rfl) (fun _ _ _ _ h => h.elim) ?_
       (apply hav_same (by exact ho rfl) (by kernel_rfl); (focus (intro wv hgv _; have hcv := cvB hgv; (try go_simp); try rfl; done)); simp only [Act.put, List.setIfInBounds_toArray, List.set_cons_succ, List.set_cons_zero])
       iterate 7 (apply hav_same (by exact ho rfl) (by kernel_rfl); (focus (intro wv hgv _; have hcv := cvB hgv; (try go_simp); try rfl; done)); simp only [Act.put, List.setIfInBounds_toArray, List.set_cons_succ, List.set_cons_zero])
       (apply hav_call (by exact ho rfl) (by kernel_rfl); (focus (intro wv; go_simp; try exact ⟨rfl, rfl⟩; done)); (focus (intro wv hgv _; have h9 := lbrings_any ⟨l0, l1, l2, l3, l4⟩ (g0 + g2) HLL.out wv; rw [HB12.out.1] at h9; exact h9; done)); simp only [Act.put, List.setIfInBounds_toArray, List.set_cons_succ, List.set_cons_zero])
       iterate 9 (apply hav_same (by exact ho rfl) (by kernel_rfl); (focus (intro wv hgv _; have hcv := cvB hgv; (try go_simp); try rfl; done)); simp only [Act.put, List.setIfInBounds_toArray, List.set_cons_succ, List.set_cons_zero])
       (apply hav_call (by exact ho rfl) (by kernel_rfl); (focus (intro wv; go_simp; try exact ⟨rfl, rfl⟩; done)); (focus (intro wv hgv _; have h9 := lbrings_any ⟨l0, l1, l2, l3, l4⟩ (g0 + g1) HLL.out wv; rw [HB12.out.2] at h9; exact h9; done)); simp only [Act.put, List.setIfInBounds_toArray, List.set_cons_succ, List.set_cons_zero])
       iterate 3 (apply hav_same (by exact ho rfl) (by kernel_rfl); (focus (intro wv hgv _; have hcv := cvB hgv; (try go_simp); try rfl; done)); simp only [Act.put, List.setIfInBounds_toArray, List.set_cons_succ, List.set_cons_zero])
       refine hav_end (fun v68 hgz _ => ?_)
       simp only [List.filterMap]; have hb : Below v66.heap.size v66 v68 := hgz; have HB68 : Hid (Below w.heap.size w v68) := HB66.out.trans (hb.mono HB66.out.size); have HK68 := Lib.hid (HK66.out.below hb HK66.out.lt); have HXR68 := Lib.hid (HXR66.out.below hb HXR66.out.lt); have XD68 := Lib.hid (XD66.out.below hb XD66.out.lt); have HRY68 := Lib.hid (HRY66.out.below hb HRY66.out.lt); have HXV668 : Hid (Below V6.heap.size V6 v68) := HXV666.out.trans (hb.mono HXV666.out.size); clear hgz hb d0 d1 dl; clear q0 q1 q2 q3 q4 q5 q6 q7 q8 q9 ql; clear yl y0 y1 y2 y3 y4
       have HE1 : Hid (bringN c (fun w => (comesP w).2) L (j + 1) = lo + B1) := by show _ = _; rw [HN1.out, ← HB12.out.1]; rfl
       have HE2 : Hid (bringN c (fun w => (comesP w).1) L (j + 1) = hi + B2) := by show _ = _; rw [HN2.out, ← HB12.out.2]; rfl
       go_wp2; go_roundw
       case rel => exact ⟨j + 1, by omega, by go_num, by rw [HE1.out], by rw [HE2.out], HR0, HB68, HXV668, HRY68⟩
       case measure => simp [intOf]; omega
  ·obtain rfl : tn = j := by omega
   obtain ⟨e1, e2, e3, e4⟩ := ck_none HV.out HPB.out (fun i hi => HRU.out i (by have := HET.out; omega))
   have hle := (bringN_le HOK.out HPB.out tn (by have := HET.out; omega)).1
   rw [HET.out] at e4
   obtain ⟨lo, hlo⟩ : ∃ x, bringN c (fun w => (comesP w).2) L tn = x := ⟨_, rfl⟩
   obtain ⟨hi, hhi⟩ : ∃ x, bringN c (fun w => (comesP w).1) L tn = x := ⟨_, rfl⟩
   rw [hlo, hhi] at e4 hle; rw [hlo, hhi]; obtain ⟨f1, f2, f3, f4, f5, f6⟩ := HC.out; rw [e1] at f1; rw [e2] at f2 f3; rw [e3] at f4; rw [e4] at f5 f6; simp only at f2 f3 f5 f6; subst f1 f2 f3 f4 f5 f6; clear e1 e2 e3 e4 hlo hhi; have x0 := HXR.out.cell 0; have x1 := HXR.out.cell 1; have xl := HXR.out.lt; simp at x0 x1; go_upto_region 27 with (fail)
   refine wp_region_havoc [(0,false),(1,false),(2,false),(3,false),(4,false),(5,false),(6,false),(7,false),(8,false),(9,false),(10,false),(11,false),(12,false),(13,false),(14,false),(15,false),(16,false),(17,false),(18,false),(19,false),(20,false),(21,false),(22,false),(23,false),(24,false),(25,false),(26,false),(27,false),(28,false),(29,false)] [] (fun _ _ => False) (by kernel_rfl) (by kernel_rfl) (fun _ _ _ _ h => h.elim) ?_
   (apply hav_same (by exact ho rfl) (by kernel_rfl); (focus (intro wv hgv _; have hcv := cvB hgv; (try go_simp); try rfl; done)); simp only [Act.put, List.setIfInBounds_toArray, List.set_cons_succ, List.set_cons_zero])
   iterate 17 (apply hav_same (by exact ho rfl) (by kernel_rfl); (focus (intro wv hgv _; have hcv := cvB hgv; (try go_simp); try rfl; done)); simp only [Act.put, List.setIfInBounds_toArray, List.set_cons_succ, List.set_cons_zero])
   (apply hav_call (by exact ho rfl) (by kernel_rfl); (focus (intro wv; go_simp; try exact ⟨rfl, rfl⟩; done)); (focus (intro wv hgv _; exact lspan_any _ _ wv; done)); simp only [Act.put, List.setIfInBounds_toArray, List.set_cons_succ, List.set_cons_zero])
   iterate 8 (apply hav_same (by exact ho rfl) (by kernel_rfl); (focus (intro wv hgv _; have hcv := cvB hgv; (try go_simp); try rfl; done)); simp only [Act.put, List.setIfInBounds_toArray, List.set_cons_succ, List.set_cons_zero])
   (apply hav_call (by exact ho rfl) (by kernel_rfl); (focus (intro wv; go_simp; try exact ⟨rfl, rfl⟩; done)); (focus (intro wv hgv _; exact alive_any wv; done)); simp only [Act.put, List.setIfInBounds_toArray, List.set_cons_succ, List.set_cons_zero])
   iterate 2 (apply hav_same (by exact ho rfl) (by kernel_rfl); (focus (intro wv hgv _; have hcv := cvB hgv; (try go_simp); try rfl; done)); simp only [Act.put, List.setIfInBounds_toArray, List.set_cons_succ, List.set_cons_zero])
   refine hav_end (fun v81 hgz _ => ?_)
   simp only [List.filterMap]; have hb : Below wr.heap.size wr v81 := hgz; have HB81 : Hid (Below w.heap.size w v81) := HBR.out.trans (hb.mono HBR.out.size); have HK81 := Lib.hid (HKR.out.below hb HKR.out.lt); have HXR81 := Lib.hid (HXR.out.below hb HXR.out.lt); clear hgz hb x0 x1 xl; go_wp2; go_ret
   exact ⟨rfl, HB81.out⟩
end
end Go.Proofs.YtgmfhngcehkibaaGreat
namespace Go.Proofs.YtgmfhngcehkibaaGreat
open Go.ChangeShapes Go.WideShapes Go.ChangeAt Go.RowKit
theorem cartCheck_lifted (os : Os) (started : os.Started) (H : Type) (enc : TypeId × Value → H) :
  ReturnsInHanded {} Tryz.checked os 8 .any (Rows.cartCheckSpec.pre6 enc Tryz.prog Tryz.f8 Rows.cartCheckRow.domain false) (Rows.cartCheckSpec.post enc Tryz.prog Tryz.f8 false true false false) := by
 refine returnsInHanded_of_change (C := Tryz.checked) rowOwn started (by kernel_rfl) Tryz.func8
  (ChangeSpec.witness6 (enc := enc) (C := Tryz.checked) false ⟨#[], #[(.agg #[.int .i64 0, .int .i64 0, .int .i64 0, .int .i64 0, .int .i64 0, .slice none 0 0, .slice none 0 0, .int .i64 0, .slice none 0 0, .slice none 0 0]), .slice none 0 0], []⟩ 8 (by kernel_rfl) (by kernel_rfl) (by kernel_rfl) (by kernel_rfl)) ?_
 intro W base args ds gs before hval0 hW _ _; have hval : ∀ (j : Nat) t v, Tryz.f8.params[j]? = some t → args[j]? = some v → Value.okWide Tryz.prog W .any base t v := hval0; have hW' := hW; obtain ⟨p, q, hA0, hV, rfl, hfz, hnd⟩ := hW
 have hA : DataW.TrodAll enc Tryz.prog W 0 (fun _ => true) true Tryz.f8.params.toList args.toList ds p := hA0
 rw [Tryz.params8] at hA hval; obtain ⟨v0, vs0, d0, ds0, p0, q0, hargs, rfl, rfl, h0, r0⟩ := trodAll_cons hA; obtain ⟨v1, vs1, d1, ds1, p1, q1, rfl, rfl, rfl, h1, r1⟩ := trodAll_cons r0; obtain ⟨rfl, rfl, rfl⟩ := trodAll_nil r1; obtain rfl : args = #[v0, v1] := by cases args; simp_all
 obtain ⟨rfl, rfl⟩ := trodVars_none hV; have k0 := h0; have lt0 : ∀ x ∈ p0, x.block < W.heap.size := by obtain ⟨m, hm⟩ := k0; exact DataW.trod_lt m _ _ _ hm
 obtain ⟨fa, la, wa, ta, fl, fc, ll, lc, wn, wc, tn, tc, P, rfl, hP⟩ := open_cart (hval 0 31 v0 rfl rfl) h0; have k1 := h1; have lt1 : ∀ x ∈ p1, x.block < W.heap.size := by obtain ⟨m, hm⟩ := k1; exact DataW.trod_lt m _ _ _ hm
 obtain ⟨A1, al1, ac1, U1, rfl, e1, g1, m1, u1⟩ := open_u8s (hval 1 53 v1 rfl rfl) h1; clear hA0 hval0; simp only [List.append_nil] at hW'
 refine (cartCheck_any e1 g1 m1 W hP u1).mono fun e W' ⟨he, bel⟩ => ?_
 subst he
 exact ⟨_, rfl, _, _, _, [], _, [], hW', trodAll_mk1 (shut_bool Tryz.underlying4 _), (trodAll_cons_mk (Below.trod rowLaidOut (by kernel_rfl) (of_decide_eq_true (by kernel_rfl)) k0 bel lt0) (trodAll_cons_mk (Below.trod rowLaidOut (by kernel_rfl) (of_decide_eq_true (by kernel_rfl)) k1 bel lt1) trodAll_mk0)), rfl, bel.frame _, fun h => by cases h⟩
theorem cartCheck_holds : Rows.CartCheckSaid :=
 OpenClaim.holds_of_wide 8 Tryz.f8 rfl rfl rfl rfl rfl rfl rfl ⟨rfl, rfl, rfl, rfl, rfl⟩ rfl rfl rfl rfl rfl (by kernel_rfl) Tryz.func8 (by kernel_rfl)
  (of_decide_eq_true (by kernel_rfl)) (by unfold Func.isWrapper; first | (rw [if_pos (by decide +kernel)]; kernel_rfl) | (rw [if_neg (by decide +kernel)]; exact ⟨rfl, rfl⟩))
  (fun os started H enc _ => cartCheck_lifted os started H enc)
#print axioms cartCheck_holds
end Go.Proofs.YtgmfhngcehkibaaGreat
