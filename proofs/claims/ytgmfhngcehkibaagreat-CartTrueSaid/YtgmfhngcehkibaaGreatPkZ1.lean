/- Numbers and sets of bits in plain Lean. Rows of one's own, and rows of numbers. The carts, in plain Lean: what is valid; which wagons are in time; which rule a lot breaks; the best plan, and all plans. The carts: the plan that is returned is the first of all right ones that are worth the most. The reference's rule and plans, and how they agree with what the program reckons. Which plans are right; which lots are sent by one. The table rule with a fact of what is left to be done, and with rows that are lengthened, by blocks that are known apart; a guarded operation of which it is not known whether it is carried out. The reference of the carts: Brings, worth, Sends, Plan, Ints. The laws' long, heavy, fine, made, brings. A cart that comes in: what its value is, and that it reads as a cart. What the law RiverBears asks, in plain Lean: the days on which a river bears a boat, until when, and th. Condition: what the statements say. -/
import Derived.Test.YtgmfhngcehkibaaGreatPkB22
import Derived.Orders
import Derived.Below
import Derived.Test.YtgmfhngcehkibaaGreatProg
import Derived.WalkKit
import Derived.WalkSpells
import Derived.WalkLawsBesides
import Derived.Lib.Hide
import Derived.OneCell
import Derived.Laws.AppendOwn
import Derived.Laws.OwnMore
import Derived.Laws.Bits64b
import Derived.Deep.LoopGhost
import Derived.Deep.QuietTactic
import Derived.BigQuiet
import Derived.RegionTactic
import Derived.BigRegion
import Derived.Deep.DeepCutAuto
import Derived.RangeFuncNested
import Derived.RangeFuncBound
import Derived.RangeFuncCalls
import Derived.RangeFuncLeaves
import Derived.RangeFuncWrites
import Derived.Shelf.Abstract
import Derived.OwnWalkIn
import Derived.TacticsInMore
import Derived.LoopNIn
import Derived.LoopIn
import Derived.OrdersIn
import Derived.TacticsIn
import Derived.ControlIn
import Derived.Scope
import Derived.Laws.BitsAllLaws
import Derived.WalkSmall
import Derived.Laws.EntriesVeiled
import Derived.Maps.Own
import Derived.Maps.OwnSet
import Derived.Maps.Range
import Derived.Maps.AppendAt
import Derived.OwnWalk
import Derived.DeepKeys4
import Derived.Outline
import Derived.Deep.CutBlock
import Derived.BigGuard
import Derived.Tactics
import Derived.Tactics2
import Derived.Defers
import Derived.Recover
import Derived.Laws.Pointers
import Derived.Laws.MakeOwn
import Derived.Laws.CopyOwn
import Derived.Deep.AppendLies
import Derived.Laws.CopyRow
import Derived.ProofKit
import Derived.LaidMore
import Derived.OpenShut
import Derived.Stop.Joined
import Derived.Deep.Slices
import Derived.Carry
import Derived.Test.YtgmfhngcehkibaaGreatRows
set_option maxRecDepth 100000
set_option maxHeartbeats 6400000
namespace Go.Proofs.YtgmfhngcehkibaaGreat
def runN (f : Nat → Bool) : Nat → Nat
 | 0 => 0
 | n + 1 => if runN f n = n ∧ f n = true then n + 1 else runN f n
def lastN (f : Nat → Bool) : Nat → Nat
 | 0 => 0
 | n + 1 => if f n = true then n + 1 else lastN f n
def untilP (r : Riv) (draws : Nat) : Nat := runN (fun d => bearsP r draws d == 2) (r.days + 1)
def lastP (r : Riv) (draws : Nat) : Nat := lastN (fun d => bearsP r draws d != 0) (r.days + 1)
end Go.Proofs.YtgmfhngcehkibaaGreat
namespace Go.Proofs.YtgmfhngcehkibaaGreat
open Go.RowKit Go.Hav
theorem own_base {w : World} {B B' e size n : Nat} {v : Value} {xs : List Value} (h : w.ownsRow B e size v n xs) (hB : B' ≤ B) : w.ownsRow B' e size v n xs := by
 refine ⟨h.1, ?_⟩; rcases h.2 with h0 | ⟨g, cap, cur, rfl, hg, rest⟩
 ·exact .inl h0
 ·exact .inr ⟨g, cap, cur, rfl, Nat.le_trans hB hg, rest⟩
theorem flat_one {α : Type} (e : α → Value) (L : List α) : L.flatMap (fun x => [e x]) = L.map e := by
 induction L with
 | nil => rfl
 | cons x L ih => rw [List.flatMap_cons, ih]; rfl
def Rows {α : Type} (e : α → Value) (t : TypeId) (w : World) (xs : List Value) (Ls : List (List α)) : Prop :=
 xs.length = Ls.length ∧ ∀ (j : Nat) (L : List α), Ls[j]? = some L → ∃ A c, L.length ≤ c ∧ xs[j]? = some (Value.slice A L.length c) ∧ RowN e t w A L
section
variable {α : Type} {e : α → Value} {t : TypeId} {w w' : World} {A : Option Addr} {L : List α} {xs : List Value} {Ls : List (List α)}
theorem RowN.nil : RowN e t w A [] := fun k x h => by simp at h
theorem RowN.of_own {B n : Nat} {v : Value} (h : w.ownsRow B t 1 v n (L.flatMap fun x => [e x])) (hn : L.length = n) : ∃ A c, n ≤ c ∧ v = .slice A n c ∧ RowN e t w A L ∧ (0 < n → ∃ g, A = some ⟨g, 0, none⟩ ∧ B ≤ g) := by
 rcases h.2 with ⟨rfl, rfl⟩ | ⟨g, cap, cur, rfl, hg, hh, hnc, _, _, ht⟩
 ·exact ⟨none, 0, Nat.le_refl _, rfl, by rw [List.eq_nil_of_length_eq_zero hn]; exact RowN.nil, fun h => by omega⟩
 ·refine ⟨_, _, hnc, rfl, fun k x hx => ⟨g, 0, cur, rfl, hh, ?_⟩, fun _ => ⟨g, rfl, hg⟩⟩
  have hk : k < L.length := (List.getElem?_eq_some_iff.1 hx).1
  have : (L.flatMap fun x => [e x])[k]? = some (e x) := by rw [flat_one, List.getElem?_map, hx]; rfl
  rw [← ht, Nat.mul_one, List.getElem?_take, if_pos (by omega), Array.getElem?_toList] at this
  rw [Nat.zero_add]; exact this
end
end Go.Proofs.YtgmfhngcehkibaaGreat
namespace Go.Proofs.YtgmfhngcehkibaaGreat
open Go.RowKit Go.Hav Go.Shelf Go.Sq
theorem blk_ne {K : World} {g g' : Nat} {t t' : TypeId} {cs cs' : Array Value} (h : Blk K g t cs) (h' : Blk K g' t' cs') (ht : t ≠ t') : g ≠ g' := fun e => by
 subst e; have h1 : K.heap[g]? = some (.cells cs t (0, 0)) := h; have h2 : K.heap[g]? = some (.cells cs' t' (0, 0)) := h'; rw [h1] at h2
 injection h2 with h2
 injection h2 with _ h2 _
 exact ht h2
end Go.Proofs.YtgmfhngcehkibaaGreat
namespace Go.Proofs.YtgmfhngcehkibaaGreat
section
variable (tm : IWag → Nat) (ws : List IWag)
section
variable (of_ : ILot → IWag → Int)
def valL : List ILot → List Int → Int
 | l :: ls, p :: ps => (if p < 0 then 0 else match ws[p.toNat]? with | some w => of_ l w | none => 0) + valL ls ps
 | _, _ => 0
end
end
section
variable (tm : IWag → Nat) (ws : List IWag) (of_ : ILot → IWag → Int)
theorem valL_no (l : ILot) (ls : List ILot) (q : List Int) : valL ws of_ (l :: ls) (-1 :: q) = 0 + valL ws of_ ls q := by rw [valL, if_pos (by omega)]
theorem valL_on (l : ILot) (ls : List ILot) {n : Nat} {w : IWag} (hw : ws[n]? = some w) (q : List Int) : valL ws of_ (l :: ls) ((n : Int) :: q) = of_ l w + valL ws of_ ls q := by
 rw [valL, if_neg (by omega), Int.toNat_natCast, hw]
theorem plan_val : ∀ (ls : List ILot) (R : Rm), valL ws of_ ls (planL tm ws of_ ls R) = (onP tm ws of_ ls R).1
 | [], _ => rfl
 | l :: ls, R => by
  rw [planL_cons]; have h := (onP_is tm ws of_ l ls R).is; rw [← onP_best] at h; rcases h with ⟨h1, h2⟩ | ⟨i, w, hi, hw, hf, h1, h2⟩
  ·rw [h1, valL_no, plan_val ls, h2]; unfold nextR; rw [if_neg (by omega)]
   omega
  ·rw [h1, valL_on ws of_ l ls hw, plan_val ls, h2]; unfold nextR; rw [if_pos (by omega), Int.toNat_natCast]
def rightL : List ILot → List Int → Rm → Prop
 | [], ps, _ => ps = []
 | l :: ls, ps, R => ∃ p q, ps = p :: q ∧ ((p = -1 ∧ rightL ls q R) ∨ ∃ i : Nat, p = i ∧ fitsW tm ws l i R = true ∧ rightL ls q (takeR R i l.bales))
theorem fitsW_is {l : ILot} {i : Nat} {R : Rm} (h : fitsW tm ws l i R = true) : ∃ w, ws[i]? = some w ∧ brokenW (tm w) l w (R i) = 0 := by
 unfold fitsW at h
 split at h
 ·rename_i w hw; exact ⟨w, hw, by simpa using h⟩
 ·cases h
theorem plan_right : ∀ (ls : List ILot) (R : Rm), rightL tm ws ls (planL tm ws of_ ls R) R
 | [], _ => rfl
 | l :: ls, R => by
  rw [planL_cons]; have h := (onP_is tm ws of_ l ls R).is; rw [← onP_best] at h; refine ⟨_, _, rfl, ?_⟩; rcases h with ⟨h1, h2⟩ | ⟨i, w, hi, hw, hf, h1, h2⟩
  ·refine .inl ⟨h1, ?_⟩; rw [h1]; unfold nextR; rw [if_neg (by omega)]
   exact plan_right ls R
  ·refine .inr ⟨i, h1, by rw [fitsW_some tm ws hw, hf]; rfl, ?_⟩
   rw [h1]; unfold nextR; rw [if_pos (by omega), Int.toNat_natCast]
   exact plan_right ls _
end
def usedN (lt : List ILot) (ps : List Int) (w : Int) : Nat → Int
 | 0 => 0
 | n + 1 => usedN lt ps w n + (if ps[n]? = some w then (match lt[n]? with | some l => l.bales | none => 0) else 0)
section
variable (tm : IWag → Nat) (ws : List IWag) (lt : List ILot)
def ruleR (ps : List Int) (i : Nat) : Nat := match lt[i]?, ps[i]? with
 | some l, some p => if p < 0 then 0 else match ws[p.toNat]? with
  | some g => if l.from_ > g.leaves then 1 else if usedN lt ps p (i + 1) > g.room then 2 else if tm g ≠ 2 then 3 else 0
  | none => 0
 | _, _ => 0
def findR (ps : List Int) : Nat → Nat → Option (Nat × Nat)
 | _, 0 => none
 | k, n + 1 => if ruleR tm ws lt ps k = 0 then findR ps (k + 1) n else some (k, ruleR tm ws lt ps k)
def roomB (ps : List Int) (n : Nat) : Rm := fun i => roomP ws i - usedN lt ps i n
theorem roomB_zero (ps : List Int) : roomB ws lt ps 0 = roomP ws := by
 funext i
 show roomP ws i - 0 = _
 omega
variable {tm ws lt}
theorem roomB_neg {ps : List Int} {n : Nat} {p : Int} (hp : ps[n]? = some p) (h : p < 0) : roomB ws lt ps (n + 1) = roomB ws lt ps n := by
 funext i
 show roomP ws i - (usedN lt ps i n + _) = roomP ws i - usedN lt ps i n; rw [hp, if_neg (by intro e; have := Option.some.inj e; omega)]
 omega
theorem roomB_on {ps : List Int} {n w : Nat} {l : ILot} (hl : lt[n]? = some l) (hp : ps[n]? = some (w : Int)) : roomB ws lt ps (n + 1) = takeR (roomB ws lt ps n) w l.bales := by
 funext i
 unfold takeR; show roomP ws i - (usedN lt ps i n + _) = _; rw [hp, hl]
 by_cases h : i = w
 ·subst h; rw [if_pos rfl, if_pos rfl]; show roomP ws i - (usedN lt ps i n + l.bales) = roomP ws i - usedN lt ps i n - l.bales
  omega
 ·rw [if_neg (by intro e; have := Option.some.inj e; omega), if_neg h]
  show roomP ws i - (usedN lt ps i n + 0) = roomP ws i - usedN lt ps i n
  omega
theorem ruleR_neg {ps : List Int} {n : Nat} {p : Int} (hp : ps[n]? = some p) (h : p < 0) : ruleR tm ws lt ps n = 0 := by
 unfold ruleR; rw [hp]
 split
 ·rename_i l q _ e; cases e; rw [if_pos h]
 ·rfl
theorem ruleR_on {ps : List Int} {n w : Nat} {l : ILot} {g : IWag} (hl : lt[n]? = some l) (hp : ps[n]? = some (w : Int)) (hw : ws[w]? = some g) : ruleR tm ws lt ps n = brokenW (tm g) l g (roomB ws lt ps n w) := by
 unfold ruleR brokenW; rw [hl, hp]; simp only; rw [if_neg (by omega), Int.toNat_natCast, hw]
 simp only
 have hr : roomB ws lt ps n w = g.room - usedN lt ps w n := by
  show roomP ws w - _ = _; unfold roomP; rw [hw]
 have hu : usedN lt ps w (n + 1) = usedN lt ps w n + l.bales := by
  show usedN lt ps w n + _ = _; rw [hp, if_pos rfl, hl]
 rw [hr, hu]
 by_cases a : l.from_ > g.leaves
 ·rw [if_pos a, if_pos a]
 ·rw [if_neg a, if_neg a]
  by_cases b : usedN lt ps w n + l.bales > g.room
  ·rw [if_pos b, if_pos (show l.bales > g.room - usedN lt ps w n by omega)]
  ·rw [if_neg b, if_neg (show ¬ l.bales > g.room - usedN lt ps w n by omega)]
theorem checkL_is {ps : List Int} (hlen : ps.length = lt.length) (hp : ∀ p ∈ ps, p = -1 ∨ (0 ≤ p ∧ p < ws.length)) : ∀ (n k : Nat), k + n = lt.length → checkL tm ws k (lt.drop k) (ps.drop k) (roomB ws lt ps k) = findR tm ws lt ps k n
 | 0, k, h => by rw [List.drop_of_length_le (by omega)]; rfl
 | n + 1, k, h => by
  have h1 : k < lt.length := by omega
  have h2 : k < ps.length := by omega
  rw [List.drop_eq_getElem_cons h1, List.drop_eq_getElem_cons h2, checkL, findR]; have e1 : lt[k]? = some lt[k] := List.getElem?_eq_getElem h1; have e2 : ps[k]? = some ps[k] := List.getElem?_eq_getElem h2; have ih := checkL_is hlen hp n (k + 1) (by omega)
  by_cases a : ps[k] < 0
  ·rw [if_pos a, ruleR_neg e2 a, if_pos rfl, ← ih, roomB_neg e2 a]
  ·rw [if_neg a]; have hq := hp ps[k] (List.getElem_mem h2); obtain ⟨w, hw⟩ : ∃ w : Nat, ps[k] = w := ⟨ps[k].toNat, by omega⟩
   obtain ⟨g, hg⟩ : ∃ g, ws[w]? = some g := ⟨_, List.getElem?_eq_getElem (by omega)⟩
   rw [hw] at e2 ⊢; rw [Int.toNat_natCast, hg, ruleR_on e1 e2 hg]; simp only
   by_cases b : brokenW (tm g) lt[k] g (roomB ws lt ps k w) = 0
   ·rw [if_pos b, if_pos b, ← ih, roomB_on e1 e2]
   ·rw [if_neg b, if_neg b]
theorem findR_none {ps : List Int} : ∀ (n k : Nat), findR tm ws lt ps k n = none ↔ ∀ j, k ≤ j → j < k + n → ruleR tm ws lt ps j = 0
 | 0, k => ⟨fun _ j h1 h2 => by omega, fun _ => rfl⟩
 | n + 1, k => by
  rw [findR]
  by_cases a : ruleR tm ws lt ps k = 0
  ·rw [if_pos a, findR_none n (k + 1)]
   refine ⟨fun h j h1 h2 => ?_, fun h j h1 h2 => h j (by omega) (by omega)⟩
   by_cases e : j = k
   ·rw [e, a]
   ·exact h j (by omega) (by omega)
  ·rw [if_neg a]
   exact ⟨fun h => (by cases h), fun h => absurd (h k (Nat.le_refl _) (by omega)) a⟩
theorem check_find {ps : List Int} (hlen : ps.length = lt.length) (hp : ∀ p ∈ ps, p = -1 ∨ (0 ≤ p ∧ p < ws.length)) : checkL tm ws 0 lt ps (roomP ws) = findR tm ws lt ps 0 lt.length := by
 have h := checkL_is (tm := tm) hlen hp lt.length 0 (by omega)
 rw [roomB_zero, List.drop_zero, List.drop_zero] at h; exact h
variable (tm ws lt)
variable {tm ws lt}
end
section
variable {tm : IWag → Nat} {ws : List IWag}
theorem fitsW_lt {l : ILot} {i : Nat} {R : Rm} (h : fitsW tm ws l i R = true) : i < ws.length := by
 obtain ⟨w, hw, _⟩ := fitsW_is tm ws h; exact (List.getElem?_eq_some_iff.1 hw).1
end
section
variable {tm : IWag → Nat} {ws : List IWag}
theorem checkL_none : ∀ {ls : List ILot} {ps : List Int} {R : Rm} {k : Nat}, ps.length = ls.length → (∀ p ∈ ps, p = -1 ∨ (0 ≤ p ∧ p < ws.length)) → (checkL tm ws k ls ps R = none ↔ rightL tm ws ls ps R)
 | [], [], R, k, _, _ => by simp [checkL, rightL]
 | [], _ :: _, _, _, h, _ => by simp at h
 | _ :: _, [], _, _, h, _ => by simp at h
 | l :: ls, p :: ps, R, k, hlen, hp => by
  have hp' : ∀ q ∈ ps, q = -1 ∨ (0 ≤ q ∧ q < ws.length) := fun q hq => hp q (List.mem_cons_of_mem _ hq)
  have hl' : ps.length = ls.length := by simpa using hlen
  rw [checkL]; unfold rightL; rcases hp p List.mem_cons_self with rfl | ⟨h0, h1⟩
  ·rw [if_pos (by omega), checkL_none hl' hp']
   refine ⟨fun h => ⟨-1, ps, rfl, .inl ⟨rfl, h⟩⟩, ?_⟩
   rintro ⟨p', q', e, ⟨-, h⟩ | ⟨i, e2, -⟩⟩
   ·cases e; exact h
   ·cases e; omega
  ·obtain ⟨i, rfl⟩ : ∃ i : Nat, p = i := ⟨p.toNat, by omega⟩
   obtain ⟨g, hg⟩ : ∃ g, ws[i]? = some g := ⟨_, List.getElem?_eq_getElem (by omega)⟩
   rw [if_neg (by omega), Int.toNat_natCast, hg]
   simp only
   by_cases a : brokenW (tm g) l g (R i) = 0
   ·rw [if_pos a, checkL_none hl' hp']
    refine ⟨fun h => ⟨i, ps, rfl, .inr ⟨i, rfl, by rw [fitsW_some tm ws hg, a]; rfl, h⟩⟩, ?_⟩
    rintro ⟨p', q', e, ⟨e2, -⟩ | ⟨j, e2, -, h⟩⟩
    ·cases e; omega
    ·cases e; obtain rfl : i = j := by omega
     exact h
   ·rw [if_neg a]
    refine ⟨fun h => (by cases h), ?_⟩
    rintro ⟨p', q', e, ⟨e2, -⟩ | ⟨j, e2, hf, -⟩⟩
    ·cases e; omega
    ·cases e; obtain rfl : i = j := by omega
     rw [fitsW_some tm ws hg] at hf; exact absurd (by simpa using hf) a
theorem rightL_len : ∀ {ls : List ILot} {q : List Int} {R : Rm}, rightL tm ws ls q R → q.length = ls.length
 | [], _, _, h => by unfold rightL at h; rw [h]; rfl
 | l :: ls, q, R, h => by
  obtain ⟨p, r, rfl, ⟨-, hr⟩ | ⟨i, -, -, hr⟩⟩ := h
  ·simp [rightL_len hr]
  ·simp [rightL_len hr]
theorem rightL_ok : ∀ {ls : List ILot} {q : List Int} {R : Rm}, rightL tm ws ls q R → ∀ p ∈ q, p = -1 ∨ (0 ≤ p ∧ p < ws.length)
 | [], _, _, h => by unfold rightL at h; rw [h]; simp
 | l :: ls, q, R, h => by
  obtain ⟨p, r, rfl, h⟩ := h; intro p' hp'; rcases h with ⟨rfl, hr⟩ | ⟨i, rfl, hf, hr⟩
  ·rcases List.mem_cons.1 hp' with rfl | hp'
   ·exact .inl rfl
   ·exact rightL_ok hr p' hp'
  ·rcases List.mem_cons.1 hp' with rfl | hp'
   ·have := fitsW_lt hf; exact .inr ⟨by omega, by omega⟩
   ·exact rightL_ok hr p' hp'
end
end Go.Proofs.YtgmfhngcehkibaaGreat
namespace Go.HavG
open Go.RowKit
section
variable {R : Rel} {P : Program} {ops : Array Oper}
theorem tabY_store {o : Oper} {a : Act} {w : World} {i : Nat} {nw : List Nat} {Φ : (Nat → Value) → World → Prop} {X : (Nat → Value) → Prop} {G : Value → World → Prop} {L K : World → Prop} {B : Value → Prop} {Q : Exit → Act → World → Prop} (hg : o.guard = none) (hd : o.dst = none) (hi : i ∉ nw)
  (h : ∃ w', (execOp a.eval o).run P w = .ok .skip w' ∧ G undef w' ∧ L w' ∧ K w' ∧ (∀ V, X V → Φ V w')) :
  stepOf P ops o a w (fun a'' w'' => ∃ v, a'' = a.put o.dst v ∧ G v w'' ∧ L w'' ∧ K w'' ∧ (∀ V, X V → (o.dst ≠ none → V i = v) → Φ V w'') ∧ (i ∈ nw → o.dst ≠ none ∧ B v)) Q := by
 obtain ⟨w', h1, h2, h6, h5, h3⟩ := h; unfold stepOf Oper.wp; rw [if_pos (by unfold Region.wanted; rw [hg]), h1]
 exact ⟨undef, by rw [hd], h2, h6, h5, fun V hV _ => h3 V hV, fun h => absurd h hi⟩
end
end Go.HavG
namespace Go.Proofs.YtgmfhngcehkibaaGreat
open Go.RowKit Go.Hav Go.Shelf Go.Sq
attribute [local go_sem] Oper.semAt_some
section
variable {ws : List IWag} {of_ : ILot → IWag → Int}
theorem valL_take : ∀ {ls : List ILot} {ps : List Int} {j : Nat} {l : ILot} {p : Int}, ls[j]? = some l → ps[j]? = some p →
  valL ws of_ (ls.take (j + 1)) (ps.take (j + 1)) = valL ws of_ (ls.take j) (ps.take j) + (if p < 0 then 0 else match ws[p.toNat]? with | some w => of_ l w | none => 0)
 | l0 :: ls, p0 :: ps, 0, l, p, h1, h2 => by
  obtain rfl : l0 = l := by simpa using h1
  obtain rfl : p0 = p := by simpa using h2
  simp [valL] <;> rfl
 | l0 :: ls, p0 :: ps, j + 1, l, p, h1, h2 => by
  simp only [List.take_succ_cons, valL]; rw [valL_take (j := j) (l := l) (p := p) (by simpa using h1) (by simpa using h2)]
  omega
 | [], _, _, _, _, h1, _ => by simp at h1
 | _ :: _, [], _, _, _, _, h2 => by simp at h2
end
theorem bring_val (ws : List IWag) (f : IWag → Int) : ∀ (ls : List ILot) (ps : List Int), sumL (bringL ws f ls ps) = valL ws (fun l g => bringsP l (f g)) ls ps
 | l :: ls, p :: ps => by
  have ih := bring_val ws f ls ps; rw [bringL, valL, ← ih]
  by_cases hp : p < 0
  ·rw [if_pos hp, if_pos hp]; simp [sumL]
  ·rw [if_neg hp, if_neg hp]; cases h : ws[p.toNat]? <;> simp [sumL]
 | [], ps => by cases ps <;> simp [bringL, valL, sumL]
 | l :: ls, [] => by simp [bringL, valL, sumL]
def ofHigh (l : ILot) (g : IWag) : Int := bringsP l (comesP g).1
theorem worthS_val (c : ICart) (ps : List Int) : worthS c ps = (valL c.wg ofBest c.lt ps, valL c.wg ofHigh c.lt ps) := by
 unfold worthS; rw [bring_val, bring_val]
 rfl
section
variable {fa la wa ta : Option Addr} {fl fc ll lc wn wc tn tc : Nat} {c : ICart}
variable {w : World}
theorem madeL_ok (c : ICart) (by_ : List Nat) : ∀ p ∈ madeL c by_, p = -1 ∨ (0 ≤ p ∧ p < c.wg.length) := fun p hp => by
 obtain ⟨i, -, rfl⟩ := List.mem_map.1 hp; have := Nat.mod_lt (if by_.length = 0 then 0 else by_[i % by_.length]?.getD 0) (show 0 < c.wg.length + 1 by omega)
 omega
theorem madeL_plan (c : ICart) (by_ : List Nat) : planB c (madeL c by_) = true := by
 unfold planB; rw [madeL_len, decide_eq_true rfl, Bool.true_and, List.all_eq_true]; intro p hp; rcases madeL_ok c by_ p hp with rfl | ⟨h1, h2⟩
 ·rfl
 ·rw [Bool.or_eq_true]; exact .inr (inB_iff.2 ⟨h1, by omega⟩)
end
end Go.Proofs.YtgmfhngcehkibaaGreat
namespace Go.Proofs.YtgmfhngcehkibaaGreat
open Go.RowKit Go.Hav Go.ChangeShapes Go.WideShapes Go.Deep
theorem list_of {α : Type} (P : Nat → α → Prop) : ∀ n : Nat, (∀ i, i < n → ∃ x, P i x) → ∃ l : List α, l.length = n ∧ ∀ i x, l[i]? = some x → P i x := by
 intro n
 induction n with
 | zero => intro _; exact ⟨[], rfl, fun i x h => by simp at h⟩
 | succ n ih =>
  intro h
  obtain ⟨l, hl, hp⟩ := ih (fun i hi => h i (by omega))
  obtain ⟨x, hx⟩ := h n (by omega)
  refine ⟨l ++ [x], by simp [hl], fun i y hy => ?_⟩
  rcases Nat.lt_or_ge i n with hi | hi
  ·rw [List.getElem?_append_left (by omega)] at hy
   exact hp i y hy
  ·rw [List.getElem?_append_right (by omega)] at hy
   by_cases e : i = n
   ·subst e; rw [hl, Nat.sub_self] at hy; obtain rfl : x = y := by simpa using hy
    exact hx
   ·rw [hl, List.getElem?_eq_none (by simp; omega)] at hy
    cases hy
section
variable {H : Type} {enc : TypeId × Value → H} {W : World} {base : Nat} {spare : Nat → Bool} {held : Bool}
theorem open_rows {t e : TypeId} {fuel sz : Nat} {c : Value} {x : DataW H × List MemPlace} (ht : Tryz.prog.underlying t = some (.slice e)) (hc : Tryz.prog.cellsOf e = sz) (h0 : 0 < sz) (h : DataW.trod enc Tryz.prog W base spare held fuel t [c] = some x) :
  ∃ (A : Option Addr) (len cap : Nat), c = .slice A len cap ∧ len ≤ maxLen ∧ ∀ i, i < len → ∃ (b off n : Nat) (cs : List Value) (y : DataW H × List MemPlace), A = some ⟨b, off, none⟩ ∧ cs.length = sz ∧ (∀ j v, cs[j]? = some v → W.cell? ⟨b, off + (i * sz + j), none⟩ = some v) ∧ DataW.trod enc Tryz.prog W base spare held n e cs = some y := by
 rcases open_slice ht h with ⟨e1, _⟩ | ⟨a, len, cap, m, n, D, Pl, e1, _, hl, hm, hmm, _, hi⟩
 ·obtain rfl : c = .slice none 0 0 := by simpa using e1
  exact ⟨none, 0, 0, rfl, Nat.zero_le _, fun i hi => by omega⟩
 ·obtain rfl : c = .slice (some a) len cap := by simpa using e1
  refine ⟨some a, len, cap, rfl, Nat.le_trans hl hm, fun i hlt => ?_⟩
  obtain ⟨cs, hcs, ht⟩ := hi i (by rw [hmm]; split <;> omega)
  rw [hc] at hcs; obtain ⟨_, hlen, hat⟩ := World.cells?_some hcs
  -- the address has no spot
  obtain ⟨cs0, hcs0, _⟩ := hi 0 (by rw [hmm]; split <;> omega)
  rw [hc, Nat.zero_mul] at hcs0; obtain ⟨_, hlen0, hat0⟩ := World.cells?_some hcs0; have h00 := hat0 0 h0; rw [List.getElem?_eq_getElem (by omega)] at h00
  have hs : a.spot = none := by
   have := World.cell?_spot h00
   simpa [Addr.add] using this
  obtain ⟨b, off, spot⟩ := a; simp only at hs; subst hs
  refine ⟨b, off, n, cs, _, rfl, hlen, fun j v hv => ?_, ht⟩
  have hj : j < sz := by rw [← hlen]; exact (List.getElem?_eq_some_iff.1 hv).1
  have h1 := hat j hj; rw [hv] at h1; rw [← h1]
  congr 1
  unfold Addr.add
  split <;> split <;> simp_all <;> omega
theorem one_int {n : Nat} {cs : List Value} {y : DataW H × List MemPlace} (h : DataW.trod enc Tryz.prog W base spare held n 3 cs = some y) : ∃ a, cs = [.int .i64 a] := by
 obtain ⟨a, e, _⟩ := DataW.trod_int Tryz.underlying3 h; exact ⟨a, e⟩
theorem two_ints {n : Nat} {cs : List Value} {y : DataW H × List MemPlace} (h : DataW.trod enc Tryz.prog W base spare held n 23 cs = some y) : ∃ a b, cs = [.int .i64 a, .int .i64 b] := by
 have c3 : Tryz.prog.cellsOf 3 = 1 := by kernel_rfl
 have c23 : Tryz.prog.cellsOf 23 = 2 := by kernel_rfl
 obtain ⟨xs, m, _, _, hlen, hx, hf⟩ := DataW.trod_struct Tryz.underlying23 h; rw [c23] at hlen
 match cs, hlen with
 | [u, v], _ =>
  match xs, hx with
  | [x0, x1], _ =>
   obtain ⟨a, ha⟩ := one_int (hf 0 _ rfl); obtain ⟨b, hb⟩ := one_int (hf 1 _ rfl)
   simp [c3] at ha hb
   exact ⟨a, b, by rw [ha, hb]⟩
theorem fr_cells {n : Nat} {cs : List Value} {y : DataW H × List MemPlace} (h : DataW.trod enc Tryz.prog W base spare held n 59 cs = some y) : ∃ c : IFr, cs = frI c := by
 have c23 : Tryz.prog.cellsOf 23 = 2 := by kernel_rfl
 have c59 : Tryz.prog.cellsOf 59 = 4 := by kernel_rfl
 obtain ⟨xs, m, _, _, hlen, hx, hf⟩ := DataW.trod_struct Tryz.underlying59 h; rw [c59] at hlen
 match cs, hlen with
 | [u0, u1, u2, u3], _ =>
  match xs, hx with
  | [x0, x1], _ =>
   obtain ⟨c, d, hcd⟩ := two_ints (hf 0 _ rfl); obtain ⟨a, b, hab⟩ := two_ints (hf 1 _ rfl)
   simp [c23] at hab hcd
   exact ⟨⟨⟨c, d⟩, ⟨a, b⟩⟩, by simp [frI, hab, hcd]⟩
theorem lk_cells {n : Nat} {cs : List Value} {y : DataW H × List MemPlace} (h : DataW.trod enc Tryz.prog W base spare held n 61 cs = some y) : ∃ c : ILk, cs = lkI c := by
 have c3 : Tryz.prog.cellsOf 3 = 1 := by kernel_rfl
 have c23 : Tryz.prog.cellsOf 23 = 2 := by kernel_rfl
 have c61 : Tryz.prog.cellsOf 61 = 3 := by kernel_rfl
 obtain ⟨xs, m, _, _, hlen, hx, hf⟩ := DataW.trod_struct Tryz.underlying61 h; rw [c61] at hlen
 match cs, hlen with
 | [u0, u1, u2], _ =>
  match xs, hx with
  | [x0, x1], _ =>
   obtain ⟨a, ha⟩ := one_int (hf 0 _ rfl); obtain ⟨c, d, hcd⟩ := two_ints (hf 1 _ rfl)
   simp [c3, c23] at ha hcd
   exact ⟨⟨a, ⟨c, d⟩⟩, by simp [lkI, ha, hcd]⟩
theorem rows_list {α : Type} {f : α → List Value} {A : Option Addr} {len sz : Nat} {e : TypeId} (he : ∀ (n : Nat) (cs : List Value) (y : DataW H × List MemPlace), DataW.trod enc Tryz.prog W base spare held n e cs = some y → ∃ x, cs = f x) (hf0 : ∀ x, 0 < (f x).length)
  (h : ∀ i, i < len → ∃ (b off n : Nat) (cs : List Value) (y : DataW H × List MemPlace), A = some ⟨b, off, none⟩ ∧ cs.length = sz ∧ (∀ j v, cs[j]? = some v → W.cell? ⟨b, off + (i * sz + j), none⟩ = some v) ∧ DataW.trod enc Tryz.prog W base spare held n e cs = some y) :
  ∃ l : List α, l.length = len ∧ RdG f sz W W.heap.size A l := by
 obtain ⟨l, hl, hp⟩ := list_of (fun i x => ∃ b off, A = some ⟨b, off, none⟩ ∧ b < W.heap.size ∧ ∀ j u, (f x)[j]? = some u → W.cell? ⟨b, off + (i * sz + j), none⟩ = some u) len (fun i hi => by
  obtain ⟨b, off, n, cs, y, e1, _, hc, ht⟩ := h i hi; obtain ⟨x, rfl⟩ := he n cs y ht; refine ⟨x, b, off, e1, ?_, hc⟩; have h0 := hc 0 _ (List.getElem?_eq_getElem (hf0 x)); rcases Nat.lt_or_ge b W.heap.size with hlt | hge
  ·exact hlt
  ·unfold World.cell? at h0
   simp [Array.getElem?_eq_none hge] at h0)
 exact ⟨l, hl, fun k x hx => hp k x hx⟩
theorem wg_cells {n : Nat} {cs : List Value} {y : DataW H × List MemPlace} (h : DataW.trod enc Tryz.prog W base spare held n 65 cs = some y) : ∃ c : IWag, cs = wgI c := by
 have c3 : Tryz.prog.cellsOf 3 = 1 := by kernel_rfl
 have c23 : Tryz.prog.cellsOf 23 = 2 := by kernel_rfl
 have c65 : Tryz.prog.cellsOf 65 = 4 := by kernel_rfl
 obtain ⟨xs, m, _, _, hlen, hx, hf⟩ := DataW.trod_struct Tryz.underlying65 h; rw [c65] at hlen
 match cs, hlen with
 | [u0, u1, u2, u3], _ =>
  match xs, hx with
  | [x0, x1, x2], _ =>
   obtain ⟨a, ha⟩ := one_int (hf 0 _ rfl); obtain ⟨b, d, hb⟩ := two_ints (hf 1 _ rfl); obtain ⟨e, he⟩ := one_int (hf 2 _ rfl)
   simp [c3, c23] at ha hb he
   exact ⟨⟨a, ⟨b, d⟩, e⟩, by simp [wgI, ha, hb, he]⟩
theorem lt_cells {n : Nat} {cs : List Value} {y : DataW H × List MemPlace} (h : DataW.trod enc Tryz.prog W base spare held n 68 cs = some y) : ∃ c : ILot, cs = ltI c := by
 have c3 : Tryz.prog.cellsOf 3 = 1 := by kernel_rfl
 have c68 : Tryz.prog.cellsOf 68 = 5 := by kernel_rfl
 obtain ⟨xs, m, _, _, hlen, hx, hf⟩ := DataW.trod_struct Tryz.underlying68 h; rw [c68] at hlen
 match cs, hlen with
 | [u0, u1, u2, u3, u4], _ =>
  match xs, hx with
  | [x0, x1, x2, x3, x4], _ =>
   obtain ⟨a0, h0⟩ := one_int (hf 0 _ rfl); obtain ⟨a1, h1⟩ := one_int (hf 1 _ rfl); obtain ⟨a2, h2⟩ := one_int (hf 2 _ rfl); obtain ⟨a3, h3⟩ := one_int (hf 3 _ rfl); obtain ⟨a4, h4⟩ := one_int (hf 4 _ rfl)
   simp [c3] at h0 h1 h2 h3 h4
   exact ⟨⟨a0, a1, a2, a3, a4⟩, by simp [ltI, h0, h1, h2, h3, h4]⟩
theorem riv_cells {n : Nat} {u0 u1 u2 u3 u4 u5 u6 : Value} {y : DataW H × List MemPlace} (h : DataW.trod enc Tryz.prog W base spare held n 27 [u0, u1, u2, u3, u4, u5, u6] = some y) :
  ∃ (fa la : Option Addr) (fl fc ll lc : Nat) (q : IRiv), [u0, u1, u2, u3, u4, u5, u6] = [.int .i64 q.depth.lo, .int .i64 q.depth.hi, .int .i64 q.fall.lo, .int .i64 q.fall.hi, .int .i64 q.days, .slice fa fl fc, .slice la ll lc] ∧ RvIn W W.heap.size fa fl la ll q := by
 have c3 : Tryz.prog.cellsOf 3 = 1 := by kernel_rfl
 have c23 : Tryz.prog.cellsOf 23 = 2 := by kernel_rfl
 have c24 : Tryz.prog.cellsOf 24 = 1 := by kernel_rfl
 have c25 : Tryz.prog.cellsOf 25 = 1 := by kernel_rfl
 obtain ⟨xs, m, _, _, _, hx, hg⟩ := DataW.trod_struct Tryz.underlying27 h
 match xs, hx with
 | [x0, x1, x2, x3, x4], _ =>
  have g0 := hg 0 _ rfl; have g1 := hg 1 _ rfl; have g2 := hg 2 _ rfl; have g3 := hg 3 _ rfl; have g4 := hg 4 _ rfl
  simp [c3, c23, c24, c25] at g0 g1 g2 g3 g4
  obtain ⟨d0, d1, e0⟩ := two_ints g0; obtain ⟨f0, f1, e1⟩ := two_ints g1; obtain ⟨days, e2⟩ := one_int g2; obtain ⟨rfl, rfl⟩ : u0 = .int .i64 d0 ∧ u1 = .int .i64 d1 := by simpa using e0
  obtain ⟨rfl, rfl⟩ : u2 = .int .i64 f0 ∧ u3 = .int .i64 f1 := by simpa using e1
  obtain rfl : u4 = .int .i64 days := by simpa using e2
  obtain ⟨fa, fl, fc, rfl, m0, h0⟩ := open_rows (sz := 4) Tryz.underlying24 (by kernel_rfl) (by decide) g3
  obtain ⟨la, ll, lc, rfl, m4, h4⟩ := open_rows (sz := 3) Tryz.underlying25 (by kernel_rfl) (by decide) g4
  obtain ⟨frs, k0, r0⟩ := rows_list (f := frI) (fun n cs y h => fr_cells h) (fun x => by simp [frI]) h0
  obtain ⟨lks, k4, r4⟩ := rows_list (f := lkI) (fun n cs y h => lk_cells h) (fun x => by simp [lkI]) h4
  unfold maxLen at m0 m4; exact ⟨fa, la, fl, fc, ll, lc, ⟨⟨d0, d1⟩, ⟨f0, f1⟩, days, frs, lks⟩, rfl, k0, k4, r0, r4, by omega, by omega⟩
theorem open_cart {r : Reach} {b0 : Nat} {v : Value} {d : DataW H} {p : List MemPlace} (hv : Value.okWide Tryz.prog W r b0 31 v) (h : DataW.Trod enc Tryz.prog W base spare held 31 v d p) :
  ∃ (fa la wa ta : Option Addr) (fl fc ll lc wn wc tn tc : Nat) (c : ICart), v = (.agg #[.int .i64 c.riv.depth.lo, .int .i64 c.riv.depth.hi, .int .i64 c.riv.fall.lo, .int .i64 c.riv.fall.hi, .int .i64 c.riv.days, .slice fa fl fc, .slice la ll lc, .int .i64 c.draws, .slice wa wn wc, .slice ta tn tc]) ∧ CtIn W W.heap.size fa fl la ll wa wn ta tn c := by
 have c3 : Tryz.prog.cellsOf 3 = 1 := by kernel_rfl
 have c27 : Tryz.prog.cellsOf 27 = 7 := by kernel_rfl
 have c28 : Tryz.prog.cellsOf 28 = 1 := by kernel_rfl
 have c29 : Tryz.prog.cellsOf 29 = 1 := by kernel_rfl
 have c31 : Tryz.prog.cellsOf 31 = 10 := by kernel_rfl
 obtain ⟨cs, rfl, hsz⟩ := okWide_struct Tryz.underlying31 hv; rw [c31] at hsz; obtain ⟨l⟩ := cs
 match l, hsz with
 | [u0, u1, u2, u3, u4, u5, u6, u7, u8, u9], _ =>
  obtain ⟨fuel, hf⟩ := h; obtain ⟨xs, m, _, _, _, hx, hg⟩ := DataW.trod_struct Tryz.underlying31 hf
  match xs, hx with
  | [x0, x1, x2, x3], _ =>
   have g0 := hg 0 _ rfl; have g1 := hg 1 _ rfl; have g2 := hg 2 _ rfl; have g3 := hg 3 _ rfl
   simp [Value.cells, c3, c27, c28, c29] at g0 g1 g2 g3
   obtain ⟨fa, la, fl, fc, ll, lc, q, e0, hR⟩ := riv_cells g0; obtain ⟨dr, e1⟩ := one_int g1; obtain rfl : u7 = .int .i64 dr := by simpa using e1
   obtain ⟨wa, wn, wc, rfl, m2, h2⟩ := open_rows (sz := 4) Tryz.underlying28 (by kernel_rfl) (by decide) g2
   obtain ⟨ta, tn, tc, rfl, m3, h3⟩ := open_rows (sz := 5) Tryz.underlying29 (by kernel_rfl) (by decide) g3
   obtain ⟨wgs, k2, r2⟩ := rows_list (f := wgI) (fun n cs y h => wg_cells h) (fun x => by simp [wgI]) h2
   obtain ⟨lts, k3, r3⟩ := rows_list (f := ltI) (fun n cs y h => lt_cells h) (fun x => by simp [ltI]) h3
   obtain ⟨rfl, rfl, rfl, rfl, rfl, rfl, rfl⟩ : u0 = .int .i64 q.depth.lo ∧ u1 = .int .i64 q.depth.hi ∧ u2 = .int .i64 q.fall.lo ∧ u3 = .int .i64 q.fall.hi ∧ u4 = .int .i64 q.days ∧ u5 = .slice fa fl fc ∧ u6 = .slice la ll lc := by simpa using e0
   unfold maxLen at m2 m3; exact ⟨fa, la, wa, ta, fl, fc, ll, lc, wn, wc, tn, tc, ⟨q, dr, wgs, lts⟩, rfl, hR, k2, k3, r2, r3, by omega, by omega⟩
end
theorem u16_wf {a : Int} (h : (Lit.int .u16 a).wf = true) : 0 ≤ a ∧ a ≤ 65535 := by
 simp [Lit.wf, IntKind.min, IntKind.max, IntKind.signed, IntKind.bits] at h
 omega
theorem u8_wf {a : Int} (h : (Lit.int .u8 a).wf = true) : 0 ≤ a ∧ a ≤ 255 := by
 simp [Lit.wf, IntKind.min, IntKind.max, IntKind.signed, IntKind.bits] at h
 omega
section
variable {H : Type} {enc : TypeId × Value → H} {W : World} {base : Nat} {spare : Nat → Bool} {held : Bool}
theorem open_u8s {r : Reach} {b0 : Nat} {v : Value} {d : DataW H} {p : List MemPlace} (hv : Value.okWide Tryz.prog W r b0 53 v) (h : DataW.Trod enc Tryz.prog W base spare held 53 v d p) :
  ∃ (A : Option Addr) (al ac : Nat) (us : List Nat), v = .slice A al ac ∧ us.length = al ∧ (∀ x ∈ us, x ≤ 255) ∧ al ≤ 9223372036854775807 ∧ RdG byF 1 W W.heap.size A us := by
 obtain ⟨A, al, ac, rfl⟩ := okWide_slice Tryz.underlying53 hv; obtain ⟨fuel, hf⟩ := h; obtain ⟨A', al', ac', e, hm, hi⟩ := open_rows (sz := 1) (c := .slice A al ac) Tryz.underlying53 (by kernel_rfl) (by decide) (by simpa [Value.cells] using hf)
 obtain ⟨rfl, rfl, rfl⟩ : A = A' ∧ al = al' ∧ ac = ac' := by simpa using e
 obtain ⟨l, hl, hp⟩ := list_of (fun i (x : Nat) => x ≤ 255 ∧ ∃ b off, A = some ⟨b, off, none⟩ ∧ b < W.heap.size ∧ ∀ j u, (byF x)[j]? = some u → W.cell? ⟨b, off + (i * 1 + j), none⟩ = some u) al (fun i hlt => by
  obtain ⟨b, off, n, cs, y, e1, _, hc, ht⟩ := hi i hlt; obtain ⟨a, e2, _, hw⟩ := DataW.trod_int Tryz.underlying5 ht; subst e2; have hb := u8_wf hw; have h0 := hc 0 (.int .u8 a) (by rfl)
  obtain ⟨m, rfl⟩ : ∃ m : Nat, a = m := ⟨a.toNat, by omega⟩
  refine ⟨m, by omega, b, off, e1, ?_, hc⟩
  rcases Nat.lt_or_ge b W.heap.size with hlt | hge
  ·exact hlt
  ·unfold World.cell? at h0
   simp [Array.getElem?_eq_none hge] at h0)
 refine ⟨A, al, ac, l, rfl, hl, fun x hx => ?_, by unfold maxLen at hm; omega, fun k x hx => (hp k x hx).2⟩
 obtain ⟨k, hk⟩ := List.getElem?_of_mem hx; exact (hp k x hk).1
end
theorem rowOwn : ownKnob Tryz.prog.godebug = none := by kernel_rfl
theorem rowLaidOut : laidOutB Tryz.prog = true := by kernel_rfl
end Go.Proofs.YtgmfhngcehkibaaGreat
namespace Go.Proofs.YtgmfhngcehkibaaGreat
theorem depthP_le {r : Riv} (ht : truthsA r ≠ []) (d : Nat) : (depthP r d).1 ≤ (depthP r d).2 := by
 have h := hullP_is (l := (truthsA r).map (·.at_ d)) (by simpa using ht)
 exact h.le _ h.hi
theorem bears_two (r : Riv) (n d : Nat) : (bearsP r n d == 2) = decide (n ≤ (depthP r d).1) := by
 unfold bearsP
 by_cases h : n ≤ (depthP r d).1
 ·simp [h]
 ·by_cases h2 : n ≤ (depthP r d).2
  ·simp [h, h2]
  ·simp [h, h2]
theorem bears_zero {r : Riv} (ht : truthsA r ≠ []) (n d : Nat) : (bearsP r n d != 0) = decide (n ≤ (depthP r d).2) := by
 have hle := depthP_le ht d; unfold bearsP
 by_cases h : n ≤ (depthP r d).1
 ·have h2 : n ≤ (depthP r d).2 := by omega
  simp [h, h2]
 ·by_cases h2 : n ≤ (depthP r d).2
  ·simp [h, h2]
  ·simp [h, h2]
theorem setN_congr {f g : Nat → Bool} : ∀ n, (∀ i, i < n → f i = g i) → setN f n = setN g n
 | 0, _ => rfl
 | n + 1, h => by rw [setN, setN, setN_congr n (fun i hi => h i (by omega)), h n (by omega)]
theorem runN_congr {f g : Nat → Bool} : ∀ n, (∀ i, i < n → f i = g i) → runN f n = runN g n
 | 0, _ => rfl
 | n + 1, h => by rw [runN, runN, runN_congr n (fun i hi => h i (by omega)), h n (by omega)]
theorem lastN_congr {f g : Nat → Bool} : ∀ n, (∀ i, i < n → f i = g i) → lastN f n = lastN g n
 | 0, _ => rfl
 | n + 1, h => by rw [lastN, lastN, lastN_congr n (fun i hi => h i (by omega)), h n (by omega)]
def loB (r : Riv) (m d : Nat) : Bool := decide (m ≤ (depthP r d).1)
def hiB (r : Riv) (m d : Nat) : Bool := decide (m ≤ (depthP r d).2)
theorem surely_lo (r : Riv) (m : Nat) : surelyP r m = setN (loB r m) (r.days + 1) := setN_congr _ fun d _ => bears_two r m d
theorem perhaps_hi {r : Riv} (ht : truthsA r ≠ []) (m : Nat) : perhapsP r m = setN (hiB r m) (r.days + 1) := setN_congr _ fun d _ => bears_zero ht m d
theorem until_lo (r : Riv) (m : Nat) : untilP r m = runN (loB r m) (r.days + 1) := runN_congr _ fun d _ => bears_two r m d
theorem last_hi {r : Riv} (ht : truthsA r ≠ []) (m : Nat) : lastP r m = lastN (hiB r m) (r.days + 1) := lastN_congr _ fun d _ => bears_zero ht m d
theorem surely_bit {r : Riv} {n d : Nat} : (surelyP r n).testBit d = (decide (d < r.days + 1) && (bearsP r n d == 2)) := by unfold surelyP; rw [tb_setN]
theorem perhaps_bit {r : Riv} {n d : Nat} : (perhapsP r n).testBit d = (decide (d < r.days + 1) && (bearsP r n d != 0)) := by unfold perhapsP; rw [tb_setN]
def allS (S first : Nat) : Nat → Bool
 | 0 => true
 | n + 1 => allS S first n && S.testBit (first + n)
def someS (S first : Nat) : Nat → Bool
 | 0 => false
 | n + 1 => someS S first n || S.testBit (first + n)
theorem allS_is {days S first : Nat} (h : ∀ d, S.testBit d = true → d ≤ days) : ∀ n, allT days S first n = allS S first n
 | 0 => rfl
 | n + 1 => by
  rw [allT, allS, allS_is h n]
  cases e : S.testBit (first + n)
  ·simp
  ·rw [decide_eq_true (h _ e)]; rfl
theorem someS_is {days S first : Nat} (h : ∀ d, S.testBit d = true → d ≤ days) : ∀ n, someT days S first n = someS S first n
 | 0 => rfl
 | n + 1 => by
  rw [someT, someS, someS_is h n]
  cases e : S.testBit (first + n)
  ·simp
  ·rw [decide_eq_true (h _ e)]; rfl
theorem all_some {S Q first : Nat} (h : ∀ d, S.testBit d = true → Q.testBit d = true) {n : Nat} (hn : 0 < n) (ha : allS S first n = true) : someS Q first n = true := by
 obtain ⟨m, rfl⟩ : ∃ m, n = m + 1 := ⟨n - 1, by omega⟩
 rw [allS, Bool.and_eq_true] at ha; rw [someS, h _ ha.2, Bool.or_true]
theorem sure_perhaps {r : Riv} {n d : Nat} (h : (surelyP r n).testBit d = true) : (perhapsP r n).testBit d = true := by
 rw [surely_bit, Bool.and_eq_true] at h; rw [perhaps_bit, Bool.and_eq_true]; refine ⟨h.1, ?_⟩; have := h.2; simp at this ⊢
 omega
theorem timelyW_is (r : Riv) (n : Nat) (w : IWag) : timelyW r n w = if allS (surelyP r n) (w.leaves + w.takes.lo).toNat (w.takes.hi - w.takes.lo + 1).toNat = true then 2 else if someS (perhapsP r n) (w.leaves + w.takes.lo).toNat (w.takes.hi - w.takes.lo + 1).toNat = true then 1 else 0 := by
 unfold timelyW; simp only
 rw [allS_is (fun d h => by rw [surely_bit, Bool.and_eq_true] at h; have := h.1; simp at this; omega), someS_is (fun d h => by rw [perhaps_bit, Bool.and_eq_true] at h; have := h.1; simp at this; omega)]
theorem timely_bits {r : Riv} {n : Nat} {w : IWag} (hw : wagB w = true) :
  (timelyW r n w = 2 ↔ allS (surelyP r n) (w.leaves + w.takes.lo).toNat (w.takes.hi - w.takes.lo + 1).toNat = true) ∧
  (timelyW r n w = 0 ↔ someS (perhapsP r n) (w.leaves + w.takes.lo).toNat (w.takes.hi - w.takes.lo + 1).toNat = false) ∧ timelyW r n w ≤ 2 := by
 have hb := wagB_iff.1 hw; rw [timelyW_is]
 cases ha : allS (surelyP r n) (w.leaves + w.takes.lo).toNat (w.takes.hi - w.takes.lo + 1).toNat
 ·cases hs : someS (perhapsP r n) (w.leaves + w.takes.lo).toNat (w.takes.hi - w.takes.lo + 1).toNat <;> simp
 ·have := all_some (Q := perhapsP r n) (fun d h => sure_perhaps h) (by omega) ha
  rw [this]
  simp
section
variable {c : ICart} {L : List Int}
def bringN (c : ICart) (f : IWag → Int) (L : List Int) (n : Nat) : Int := sumL (bringL c.wg f (c.lt.take n) (L.take n))
theorem bringN_zero (f : IWag → Int) : bringN c f L 0 = 0 := by unfold bringN; simp [bringL, sumL]
theorem bringN_neg (f : IWag → Int) {n : Nat} {l : ILot} {p : Int} (hl : c.lt[n]? = some l) (hp : L[n]? = some p) (h : p < 0) : bringN c f L (n + 1) = bringN c f L n := by
 unfold bringN; rw [bringL_take c.wg f _ _ n l p hl hp, if_pos h, List.append_nil]
theorem bringN_on (f : IWag → Int) {n m : Nat} {l : ILot} {g : IWag} (hl : c.lt[n]? = some l) (hp : L[n]? = some (m : Int)) (hg : c.wg[m]? = some g) : bringN c f L (n + 1) = bringN c f L n + bringsP l (f g) := by
 unfold bringN; rw [bringL_take c.wg f _ _ n l _ hl hp, if_neg (by omega), Int.toNat_natCast, hg]
 simp [sumL]
theorem bringN_all (f : IWag → Int) (hlen : L.length = c.lt.length) : bringN c f L c.lt.length = sumL (bringL c.wg f c.lt L) := by
 unfold bringN; rw [List.take_of_length_le (Nat.le_refl _), List.take_of_length_le (by omega)]
theorem brings_mono {l : ILot} (h : lotB l = true) {a b : Int} (hab : a ≤ b) : bringsP l b ≤ bringsP l a := by
 have h := lotB_iff.1 h; have m := Int.mul_le_mul_of_nonneg_left (a := l.less) (b := l.price) (c := l.bales) (by omega) (by omega)
 unfold bringsP
 split <;> split <;> omega
def rowU (c : ICart) (L : List Int) (n : Nat) : List Int := (List.range c.wg.length).map fun m : Nat => usedN c.lt L (m : Int) n
theorem rowU_len (n : Nat) : (rowU c L n).length = c.wg.length := by simp [rowU]
theorem rowU_zero : rowU c L 0 = List.replicate c.wg.length 0 := by
 unfold rowU
 refine List.ext_getElem (by simp) fun i h1 h2 => ?_
 simp [usedN]
theorem rowU_neg {n : Nat} {p : Int} (hp : L[n]? = some p) (h : p < 0) : rowU c L (n + 1) = rowU c L n := by
 unfold rowU
 refine List.map_congr_left fun m _ => ?_
 show usedN _ _ _ n + _ = _; rw [hp, if_neg (by intro e; have := Option.some.inj e; omega)]
 omega
theorem rowU_on {n m : Nat} {l : ILot} (hl : c.lt[n]? = some l) (hp : L[n]? = some (m : Int)) (hm : m < c.wg.length) : (intsA (rowU c L n)).setIfInBounds m (.int .i64 (usedN c.lt L m n + l.bales)) = intsA (rowU c L (n + 1)) := by
 unfold intsA; rw [List.setIfInBounds_toArray]
 congr 1
 refine List.ext_getElem? fun i => ?_
 rw [List.getElem?_set]
 have hs : ∀ j : Nat, usedN c.lt L j (n + 1) = usedN c.lt L j n + (if j = m then l.bales else 0) := fun j => by
  show usedN _ _ _ n + _ = _; rw [hp, hl]
  by_cases e : j = m
  ·subst e; rw [if_pos rfl, if_pos rfl]
  ·rw [if_neg (by intro h; have := Option.some.inj h; omega), if_neg e]
 by_cases e : m = i
 ·subst e; rw [if_pos rfl, if_pos (by simpa [rowU] using hm)]
  simp [rowU, hm, hs]
 ·rw [if_neg e]
  by_cases hi : i < c.wg.length
  ·simp [rowU, hi, hs, show ¬ i = m from fun h => e h.symm]
  ·simp [rowU, hi]
theorem rowU_at {n m : Nat} (hm : m < c.wg.length) : (intsA (rowU c L n))[m]? = some (.int .i64 (usedN c.lt L m n)) := by
 unfold intsA rowU
 simp [hm]
theorem usedN_bd (hok : ∀ l ∈ c.lt, lotB l = true) (w : Int) : ∀ n, 0 ≤ usedN c.lt L w n ∧ usedN c.lt L w n ≤ 20 * n
 | 0 => by simp [usedN]
 | n + 1 => by
  have ih := usedN_bd hok w n; rw [usedN]
  have : ∀ x : Int, 0 ≤ x ∧ x ≤ 20 → 0 ≤ usedN c.lt L w n + x ∧ usedN c.lt L w n + x ≤ 20 * ((n + 1 : Nat) : Int) := fun x hx => by omega
  apply this
  split
  ·cases e : c.lt[n]? with
   | none => simp
   | some l => have := lotB_iff.1 (hok l (List.mem_of_getElem? e)); simp only; omega
  ·omega
theorem rule_at {n m : Nat} {l : ILot} {g : IWag} (hl : c.lt[n]? = some l) (hp : L[n]? = some (m : Int)) (hg : c.wg[m]? = some g) :
  ruleR c.tm c.wg c.lt L n = if l.from_ > g.leaves then 1 else if usedN c.lt L m n + l.bales > g.room then 2 else if c.tm g ≠ 2 then 3 else 0 := by
 have hu : usedN c.lt L m (n + 1) = usedN c.lt L m n + l.bales := by
  show usedN _ _ _ n + _ = _; rw [hp, if_pos rfl, hl]
 unfold ruleR; rw [hl, hp]; simp only; rw [if_neg (by omega), Int.toNat_natCast, hg, hu]
end
section
variable {c : ICart}
theorem check_pos : ∀ {ls : List ILot} {ps : List Int} {R : Rm} {k : Nat} {v : Nat × Nat}, checkL c.tm c.wg k ls ps R = some v → v.2 ≠ 0
 | [], _, _, _, _, h => by simp [checkL] at h
 | _ :: _, [], _, _, _, h => by simp [checkL] at h
 | l :: ls, p :: ps, R, k, v, h => by
  rw [checkL] at h
  repeat' split at h
  all_goals first | exact check_pos h | (cases h; assumption) | (cases h; done)
end
section
variable {c : ICart} {L : List Int}
theorem right_plan (h : rightL c.tm c.wg c.lt L (roomP c.wg)) : planB c L = true := by
 unfold planB; rw [rightL_len h, decide_eq_true rfl, Bool.true_and, List.all_eq_true]; intro p hp; rcases rightL_ok h p hp with rfl | ⟨h1, h2⟩
 ·rfl
 ·rw [Bool.or_eq_true]; exact .inr (inB_iff.2 ⟨h1, by omega⟩)
theorem check_right (hL : planB c L = true) : (checkV c L).2 = 0 ↔ rightL c.tm c.wg c.lt L (roomP c.wg) := by
 rw [← checkL_none (k := 0) (planB_parts hL).1 (planB_parts hL).2]; unfold checkV
 cases e : checkL c.tm c.wg 0 c.lt L (roomP c.wg) with
 | none => simp
 | some v => simp [check_pos e]
theorem right_all (hv : openE c true = 0) (h : rightL c.tm c.wg c.lt L (roomP c.wg)) : checkE c L = 4 ∧ checkW c L = (0, 0) ∧ worthE c L = 0 ∧ worthV c L = (valL c.wg ofBest c.lt L, valL c.wg ofHigh c.lt L) := by
 have hL := right_plan h; have hx := (check_right hL).2 h; have h1 : checkE c L = 4 := by unfold checkE; rw [hL, if_pos hv, if_pos hx]
 have h2 : worthE c L = 0 := by unfold worthE; rw [hL, if_pos hv, if_pos hx]
 exact ⟨h1, by unfold checkW; rw [h1]; rfl, h2, by unfold worthV; rw [if_pos h2, worthS_val]⟩
theorem wrong_all (hv : openE c true = 0) (hL : planB c L = true) (h : ¬ rightL c.tm c.wg c.lt L (roomP c.wg)) : worthE c L = 11 ∧ worthV c L = (0, 0) := by
 have h2 : worthE c L = 11 := by unfold worthE; rw [hL, if_pos hv, if_neg (fun e => h ((check_right hL).1 e))]
 exact ⟨h2, by unfold worthV; rw [if_neg (by omega)]⟩
def sentN (c : ICart) (L : List Int) (n : Nat) : Int := valL c.wg ofMost (c.lt.take n) (L.take n)
theorem sentN_zero : sentN c L 0 = 0 := by unfold sentN; simp [valL]
theorem sentN_neg {n : Nat} {l : ILot} {p : Int} (hl : c.lt[n]? = some l) (hp : L[n]? = some p) (h : p < 0) : sentN c L (n + 1) = sentN c L n := by
 unfold sentN; rw [valL_take hl hp, if_pos h, Int.add_zero]
theorem sentN_on {n : Nat} {l : ILot} {p : Int} (hL : planB c L = true) (hl : c.lt[n]? = some l) (hp : L[n]? = some p) (h : ¬ p < 0) : sentN c L (n + 1) = sentN c L n + l.bales := by
 have h2 := (planB_parts hL).2 p (List.mem_of_getElem? hp); obtain ⟨g, hg⟩ : ∃ g, c.wg[p.toNat]? = some g := ⟨_, List.getElem?_eq_getElem (by omega)⟩
 unfold sentN; rw [valL_take hl hp, if_neg h, hg]
 rfl
theorem sentN_all (hL : planB c L = true) : sentN c L c.lt.length = valL c.wg ofMost c.lt L := by
 unfold sentN; rw [List.take_of_length_le (Nat.le_refl _), List.take_of_length_le (by have := (planB_parts hL).1; omega)]
theorem sentN_bd (hok : okC c = true) (hL : planB c L = true) : ∀ n, n ≤ c.lt.length → 0 ≤ sentN c L n ∧ sentN c L n ≤ 20 * n
 | 0, _ => by rw [sentN_zero]; simp
 | n + 1, hn => by
  have ih := sentN_bd hok hL n (by omega)
  obtain ⟨l, hl⟩ : ∃ l, c.lt[n]? = some l := ⟨_, List.getElem?_eq_getElem (by omega)⟩
  obtain ⟨p, hp⟩ : ∃ p, L[n]? = some p := ⟨_, List.getElem?_eq_getElem (by have := (planB_parts hL).1; omega)⟩
  have hb := lotB_iff.1 ((okC_parts hok).2.2.2.2.2 l (List.mem_of_getElem? hl))
  by_cases h : p < 0
  ·rw [sentN_neg hl hp h]; omega
  ·rw [sentN_on hL hl hp h]; omega
end
theorem depthP_hull {R : Riv} (h : truthsA R ≠ []) (day : Nat) : IsHull ((truthsA R).map (·.at_ day)) (depthP R day) := hullP_is (fun e => h (List.map_eq_nil_iff.1 e))
theorem okR_mk {r : IRiv} (h1 : spB r.depth 0 60 4 = true) (h2 : spB r.fall 0 5 2 = true) (h3 : inB r.days 1 10 = true) (h4 : r.fr.length ≤ 3) (h5 : r.lk.length ≤ 5) (h6 : ∀ f ∈ r.fr, frB r.days f = true) (h7 : ∀ l ∈ r.lk, lkB r.days l = true) : okR r = true := by
 unfold okR headB; simp only [Bool.and_eq_true, decide_eq_true_eq, List.all_eq_true]; exact ⟨⟨⟨⟨⟨⟨h1, h2⟩, h3⟩, h4⟩, h5⟩, h6⟩, h7⟩
theorem okR_pts {r : IRiv} (h : okR r = true) : (spB r.depth 0 60 4 = true ∧ spB r.fall 0 5 2 = true ∧ inB r.days 1 10 = true ∧ r.fr.length ≤ 3 ∧ r.lk.length ≤ 5) ∧ r.fr.all (frB r.days) = true ∧ r.lk.all (lkB r.days) = true := by
 unfold okR headB at h; simp only [Bool.and_eq_true, decide_eq_true_eq] at h; exact ⟨⟨h.1.1.1.1.1.1, h.1.1.1.1.1.2, h.1.1.1.1.2, h.1.1.1.2, h.1.1.2⟩, h.1.2, h.2⟩
def moreF (m : Int) (f : IFr) : IFr := { f with rise := ⟨min 20 (f.rise.lo + m), min 20 (f.rise.hi + m)⟩ }
section
variable {r : IRiv} (hv : okR r = true)
include hv
theorem okR_sp : 0 ≤ r.depth.lo ∧ r.depth.lo ≤ r.depth.hi ∧ r.depth.hi ≤ 60 ∧ 0 ≤ r.fall.lo ∧ r.fall.lo ≤ r.fall.hi ∧ r.fall.hi ≤ 5 ∧ r.fall.hi - r.fall.lo ≤ 2 := by
 obtain ⟨⟨h1, h2, -⟩, -⟩ := okR_pts hv; obtain ⟨a1, a2, a3, a4⟩ := spB_iff.1 h1; obtain ⟨b1, b2, b3, b4⟩ := spB_iff.1 h2; exact ⟨a1, a2, a3, b1, b2, b3, b4⟩
theorem up_ok {k : Nat} {f : IFr} (hf : r.fr[k]? = some f) {m : Int} (h0 : 0 ≤ m) : frB r.days (moreF m f) = true ∧ 1 ≤ f.rise.lo ∧ f.rise.lo ≤ f.rise.hi ∧ f.rise.hi ≤ 20 ∧ 1 ≤ f.days.lo ∧ f.days.lo ≤ f.days.hi := by
 obtain ⟨-, h6, -⟩ := okR_pts hv; have h := List.all_eq_true.1 h6 f (List.mem_of_getElem? hf); unfold frB at h ⊢; rw [Bool.and_eq_true] at h ⊢; obtain ⟨a1, a2, a3, a4⟩ := spB_iff.1 h.1; obtain ⟨b1, b2, b3, b4⟩ := spB_iff.1 h.2; exact ⟨⟨h.1, spB_iff.2 ⟨by show (1 : Int) ≤ min 20 _; omega, by show min 20 _ ≤ min (20 : Int) _; omega, by show min 20 _ ≤ (20 : Int); omega, by show min 20 _ - min 20 _ ≤ (3 : Int); omega⟩⟩, b1, b2, b3, a1, a2⟩
end
def comeS (ds rs : Nat → Nat) (day : Nat) : Nat → Nat
 | 0 => 0
 | n + 1 => comeS ds rs day n + if ds n ≤ day then rs n else 0
theorem comeS_step (ds rs : Nat → Nat) (day : Nat) : ∀ n, comeS ds rs day n + riseN ds rs (day + 1) n = comeS ds rs (day + 1) n
 | 0 => rfl
 | n + 1 => by
  have h := comeS_step ds rs day n; have e1 : comeS ds rs day (n + 1) = comeS ds rs day n + if ds n ≤ day then rs n else 0 := rfl
  have e2 : comeS ds rs (day + 1) (n + 1) = comeS ds rs (day + 1) n + if ds n ≤ day + 1 then rs n else 0 := rfl
  have e3 : riseN ds rs (day + 1) (n + 1) = riseN ds rs (day + 1) n + if ds n = day + 1 then rs n else 0 := rfl
  rw [e1, e2, e3]
  by_cases h1 : ds n ≤ day
  ·rw [if_pos h1, if_pos (show ds n ≤ day + 1 by omega), if_neg (show ¬ ds n = day + 1 by omega)]; omega
  ·by_cases h2 : ds n = day + 1
   ·rw [if_neg h1, if_pos h2, if_pos (show ds n ≤ day + 1 by omega)]; omega
   ·rw [if_neg h1, if_neg h2, if_neg (show ¬ ds n ≤ day + 1 by omega)]; omega
theorem at_come (d b n : Nat) (ds rs : Nat → Nat) : ∀ day, atF d b n ds rs day ≤ d + comeS ds rs day n
 | 0 => by rw [atF]; omega
 | k + 1 => by
  have h := at_come d b n ds rs k; have h2 := comeS_step ds rs k n; rw [atF]; omega
theorem comeS_le {ds rs : Nat → Nat} {day : Nat} : ∀ n, (∀ i, i < n → rs i ≤ 20) → comeS ds rs day n ≤ 20 * n
 | 0, _ => by simp [comeS]
 | n + 1, h => by
  have h1 := comeS_le n (fun i hi => h i (by omega)) (ds := ds) (day := day)
  have h2 := h n (by omega)
  rw [comeS]
  split <;> omega
theorem run_all {f : Nat → Bool} : ∀ n d, d < runN f n → f d = true
 | 0, d, h => by simp [runN] at h
 | n + 1, d, h => by
  rw [runN] at h
  split at h
  ·rename_i hh
   by_cases e : d = n
   ·rw [e]; exact hh.2
   ·exact run_all n d (by omega)
  ·exact run_all n d h
theorem last_all {f : Nat → Bool} : ∀ n d, d < n → f d = true → d < lastN f n
 | 0, d, h, _ => by omega
 | n + 1, d, h, hf => by
  rw [lastN]
  split
  ·omega
  ·rename_i hh
   by_cases e : d = n
   ·rw [e] at hf; exact absurd hf hh
   ·exact last_all n d (by omega) hf
structure TrueIn (r : IRiv) (t : Tr) (lk : List ILk) : Prop where
 b1 : r.nat.fall.lo ≤ t.by_
 b2 : t.by_ ≤ r.nat.fall.hi
 d1 : r.nat.depth.lo ≤ t.d
 d2 : t.d ≤ r.nat.depth.hi
 sp : InSp r.nat.fr t.dsF t.rsF
 nds : t.ds.length = r.fr.length
 nrs : t.rs.length = r.fr.length
 len : lk.length = r.lk.length
 ok : ∀ (k : Nat) (l : ILk), lk[k]? = some l → ∃ l0 : ILk, r.lk[k]? = some l0 ∧ l.day = l0.day ∧ ∃ a c : Nat, a ≤ 3 ∧ c ≤ 3 ∧ l.dep.lo = ((t.at_ l0.day.toNat - a : Nat) : Int) ∧ l.dep.hi = ((t.at_ l0.day.toNat + c : Nat) : Int)
def lR (r : IRiv) (lk : List ILk) : IRiv := { r with lk := lk }
section
variable {r : IRiv} {t : Tr} {lk : List ILk}
theorem TrueIn.at_le (hv : okR r = true) (h : TrueIn r t lk) (day : Nat) : t.at_ day ≤ 120 := by
 obtain ⟨⟨h1, h2, h3, h4, h5⟩, h6, h7⟩ := okR_pts hv; have a := at_come t.d t.by_ t.ds.length t.dsF t.rsF day
 have b := comeS_le (ds := t.dsF) (rs := t.rsF) (day := day) t.ds.length (fun i hi => by
  rw [h.nds] at hi; have hf : r.fr[i]? = some r.fr[i] := List.getElem?_eq_getElem hi; have hs := (h.sp i (r.fr[i]).nat (by show (r.fr.map _)[i]? = _; rw [List.getElem?_map, hf]; rfl)).2.2.2
  have := (up_ok hv hf (m := 0) (by omega)).2.2.2.1
  have e : (r.fr[i]).nat.rise.hi = (r.fr[i]).rise.hi.toNat := rfl
  omega)
 have hd := h.d2; have e : r.nat.depth.hi = r.depth.hi.toNat := rfl; have := (okR_sp hv).2.2.1; have hn := h.nds; unfold Tr.at_
 omega
theorem TrueIn.ok_ (hv : okR r = true) (h : TrueIn r t lk) : okR (lR r lk) = true := by
 obtain ⟨⟨h1, h2, h3, h4, h5⟩, h6, h7⟩ := okR_pts hv
 refine okR_mk h1 h2 h3 h4 (by show lk.length ≤ 5; rw [h.len]; exact h5) (fun f hf => List.all_eq_true.1 h6 f hf) (fun l hl => ?_)
 obtain ⟨k, hk⟩ := List.getElem?_of_mem hl; obtain ⟨l0, e0, e1, a, c, ha, hc, e2, e3⟩ := h.ok k l hk; have hl0 := List.all_eq_true.1 h7 l0 (List.mem_of_getElem? e0); have hat := h.at_le hv l0.day.toNat; unfold lkB at hl0 ⊢; rw [Bool.and_eq_true] at hl0 ⊢; refine ⟨by rw [e1]; exact hl0.1, spB_iff.2 ⟨by omega, by omega, by omega, by omega⟩⟩
theorem TrueIn.mem (hv : okR r = true) (h : TrueIn r t lk) : t ∈ truthsA (lR r lk).nat := by
 obtain ⟨⟨h1, h2, h3, h4, h5⟩, h6, h7⟩ := okR_pts (h.ok_ hv)
 have hday : ∀ (k : Nat) (l : ILk), lk[k]? = some l → inB l.day 0 r.days = true := fun k l hk => by
  have := List.all_eq_true.1 h7 l (List.mem_of_getElem? hk); unfold lkB at this; rw [Bool.and_eq_true] at this; exact this.1
 refine (mem_truthsP (r := (lR r lk).nat) (fun l hl => ?_)).2 ⟨by rw [h.nds]; show _ = (r.fr.map _).length; rw [List.length_map], by rw [h.nrs]; show _ = (r.fr.map _).length; rw [List.length_map], h.b1, h.b2, ⟨h.d1, h.d2, h.sp, fun day _ => fits_iff.2 fun k l hk _ hd => ?_⟩⟩
 ·obtain ⟨g, hg, rfl⟩ := List.mem_map.1 hl; obtain ⟨k, hk⟩ := List.getElem?_of_mem hg; have := inB_iff.1 (hday k g hk); show g.day.toNat ≤ r.days.toNat
  omega
 ·have hk' : (lk.map (·.nat))[k]? = some l := hk; rw [List.getElem?_map] at hk'; obtain ⟨g, hg, rfl⟩ := Option.map_eq_some_iff.1 hk'; obtain ⟨l0, e0, e1, a, c, ha, hc, e2, e3⟩ := h.ok k g hg
  have hat : t.at_ l0.day.toNat = atF t.d t.by_ (lR r lk).nat.fr.length t.dsF t.rsF day := by
   have hn : (lR r lk).nat.fr.length = t.ds.length := by rw [h.nds]; show (r.fr.map _).length = _; rw [List.length_map]
   rw [hn, ← hd]; show atF _ _ _ _ _ _ = atF _ _ _ _ _ g.day.toNat; rw [e1]
  rw [← hat]; show g.dep.lo.toNat ≤ _ ∧ _ ≤ g.dep.hi.toNat
  omega
theorem TrueIn.ne (hv : okR r = true) (h : TrueIn r t lk) : truthsA (lR r lk).nat ≠ [] := fun e => by have := h.mem hv; rw [e] at this; cases this
theorem TrueIn.in_ (hv : okR r = true) (h : TrueIn r t lk) (d : Nat) : (depthP (lR r lk).nat d).1 ≤ t.at_ d ∧ t.at_ d ≤ (depthP (lR r lk).nat d).2 := by
 have H := depthP_hull (h.ne hv) d
 have hm := List.mem_map_of_mem (f := fun t : Tr => t.at_ d) (h.mem hv)
 exact ⟨H.le _ hm, H.ge _ hm⟩
theorem TrueIn.boat (hv : okR r = true) (h : TrueIn r t lk) (n d : Nat) (hd : d ≤ r.nat.days) :
  (bearsP (lR r lk).nat n d = 2 → n ≤ t.at_ d) ∧ (bearsP (lR r lk).nat n d = 0 → ¬ n ≤ t.at_ d) ∧ ((surelyP (lR r lk).nat n).testBit d = true → n ≤ t.at_ d) ∧ ((perhapsP (lR r lk).nat n).testBit d = false → ¬ n ≤ t.at_ d) ∧
  (d < untilP (lR r lk).nat n → n ≤ t.at_ d) ∧ (lastP (lR r lk).nat n ≤ d → ¬ n ≤ t.at_ d) := by
 obtain ⟨h1, h2⟩ := h.in_ hv d; have ht := h.ne hv
 have hlo : ∀ {x}, loB (lR r lk).nat n x = true → n ≤ (depthP (lR r lk).nat x).1 := fun hx => of_decide_eq_true hx
 have hdd : d < (lR r lk).nat.days + 1 := by show d < r.nat.days + 1; omega
 refine ⟨fun e => ?_, fun e => ?_, fun e => ?_, fun e => ?_, fun e => ?_, fun e => ?_⟩
 ·have := bears_two (lR r lk).nat n d; rw [e] at this; have := of_decide_eq_true this.symm
  omega
 ·have := bears_zero ht n d; rw [e] at this; have := of_decide_eq_false this.symm
  omega
 ·rw [surely_lo, tb_setN, Bool.and_eq_true] at e; have := hlo e.2
  omega
 ·rw [perhaps_hi ht, tb_setN, decide_eq_true hdd, Bool.true_and] at e; have := of_decide_eq_false e
  omega
 ·rw [until_lo] at e; have := hlo (run_all _ _ e)
  omega
 ·rw [last_hi ht] at e; intro hn; have := last_all (f := hiB (lR r lk).nat n) ((lR r lk).nat.days + 1) d hdd (show hiB (lR r lk).nat n d = true from decide_eq_true (Nat.le_trans hn h2))
  omega
end
section
variable {c : ICart} {t : Tr} {lk : List ILk}
def cartL (c : ICart) (lk : List ILk) : ICart := { c with riv := lR c.riv lk }
theorem cartL_ok (hok : okC c = true) (h : TrueIn c.riv t lk) : okC (cartL c lk) = true := by
 have hr := h.ok_ (okC_parts hok).1; unfold okC headC at hok ⊢; simp only [Bool.and_eq_true] at hok ⊢; exact ⟨⟨⟨hr, hok.1.1.2⟩, hok.1.2⟩, hok.2⟩
theorem cartL_open (hok : okC c = true) (h : TrueIn c.riv t lk) : openE (cartL c lk) true = 0 := by
 have h1 := h.ne (okC_parts hok).1; unfold openE; rw [cartL_ok hok h, show hasT (cartL c lk) = true from decide_eq_true h1]
 rfl
theorem allS_at {S first : Nat} : ∀ {n j : Nat}, allS S first n = true → j < n → S.testBit (first + j) = true
 | 0, _, _, h => by omega
 | n + 1, j, ha, h => by
  rw [allS, Bool.and_eq_true] at ha
  by_cases e : j = n
  ·rw [e]; exact ha.2
  ·exact allS_at ha.1 (by omega)
theorem someS_no {S first : Nat} : ∀ {n j : Nat}, someS S first n = false → j < n → S.testBit (first + j) = false
 | 0, _, _, h => by omega
 | n + 1, j, ha, h => by
  rw [someS, Bool.or_eq_false_iff] at ha
  by_cases e : j = n
  ·rw [e]; exact ha.2
  ·exact someS_no ha.1 (by omega)
def isIn (c : ICart) (t : Tr) (d : Nat) : Bool := decide (d ≤ c.riv.nat.days) && decide (c.draws.toNat ≤ t.at_ d)
theorem tm_true (hok : okC c = true) (h : TrueIn c.riv t lk) {w : IWag} (hw : wagB w = true) {d : Nat} (h1 : w.leaves + w.takes.lo ≤ d) (h2 : (d : Int) ≤ w.leaves + w.takes.hi) :
  ((cartL c lk).tm w = 2 → isIn c t d = true) ∧ ((cartL c lk).tm w = 0 → isIn c t d = false) ∧ (cartL c lk).tm w ≤ 2 := by
 have hb := wagB_iff.1 hw; obtain ⟨b1, b2, b3⟩ := timely_bits (r := (cartL c lk).riv.nat) (n := c.draws.toNat) hw; obtain ⟨j, hj⟩ : ∃ j, d = (w.leaves + w.takes.lo).toNat + j := ⟨d - (w.leaves + w.takes.lo).toNat, by omega⟩
 have hjn : j < (w.takes.hi - w.takes.lo + 1).toNat := by omega
 have hr := (okC_parts hok).1
 refine ⟨fun e => ?_, fun e => ?_, b3⟩
 ·have hs := allS_at (b1.1 e) hjn; rw [← hj] at hs
  have hd : d ≤ c.riv.nat.days := by
   have h3 := hs; rw [surely_bit, Bool.and_eq_true] at h3; have h4 := of_decide_eq_true h3.1; have h5 : (cartL c lk).riv.nat.days = c.riv.nat.days := rfl
   omega
  unfold isIn; rw [decide_eq_true hd, decide_eq_true ((h.boat hr c.draws.toNat d hd).2.2.1 hs)]
  rfl
 ·have hs := someS_no (b2.1 e) hjn; rw [← hj] at hs; unfold isIn
  by_cases hd : d ≤ c.riv.nat.days
  ·rw [decide_eq_false ((h.boat hr c.draws.toNat d hd).2.2.2.1 hs), Bool.and_false]
  ·rw [decide_eq_false hd, Bool.false_and]
end
section
variable {c : ICart} {L : List Int}
theorem right_rules (h : rightL c.tm c.wg c.lt L (roomP c.wg)) {i : Nat} (hi : i < c.lt.length) : ruleR c.tm c.wg c.lt L i = 0 := by
 have hL := right_plan h; have h1 := (checkL_none (k := 0) (planB_parts hL).1 (planB_parts hL).2).2 h; rw [check_find (planB_parts hL).1 (planB_parts hL).2] at h1; exact (findR_none c.lt.length 0).1 h1 i (by omega) (by omega)
theorem right_at (h : rightL c.tm c.wg c.lt L (roomP c.wg)) {n m : Nat} {l : ILot} {g : IWag} (hl : c.lt[n]? = some l) (hp : L[n]? = some (m : Int)) (hg : c.wg[m]? = some g) :
  l.from_ ≤ g.leaves ∧ usedN c.lt L m n + l.bales ≤ g.room ∧ c.tm g = 2 := by
 have h1 := right_rules h (List.getElem?_eq_some_iff.1 hl).1; rw [rule_at hl hp hg] at h1
 split at h1
 ·omega
 ·split at h1
  ·omega
  ·split at h1
   ·omega
   ·refine ⟨by omega, by omega, by omega⟩
def sumD (c : ICart) (D : List Int) (L : List Int) : Nat → Int
 | 0 => 0
 | n + 1 => sumD c D L n + (match L[n]?, c.lt[n]? with | some p, some l => if p < 0 then 0 else bringsP l (D[p.toNat]?.getD 0) | _, _ => 0)
theorem sumD_neg {D : List Int} {n : Nat} {l : ILot} {p : Int} (hl : c.lt[n]? = some l) (hp : L[n]? = some p) (h : p < 0) : sumD c D L (n + 1) = sumD c D L n := by
 rw [sumD, hl, hp]; simp only; rw [if_pos h, Int.add_zero]
theorem sumD_on {D : List Int} {n m : Nat} {l : ILot} {d : Int} (hl : c.lt[n]? = some l) (hp : L[n]? = some (m : Int)) (hd : D[m]? = some d) : sumD c D L (n + 1) = sumD c D L n + bringsP l d := by
 rw [sumD, hl, hp]; simp only; rw [if_neg (by omega), Int.toNat_natCast, hd]
 rfl
theorem sumD_in {D : List Int} (hok : okC c = true) (hL : planB c L = true) (hD : ∀ (m : Nat) (g : IWag), c.wg[m]? = some g → ∃ d, D[m]? = some d ∧ g.leaves + g.takes.lo ≤ d ∧ d ≤ g.leaves + g.takes.hi) : ∀ n, n ≤ c.lt.length →
  bringN c (fun w => (comesP w).2) L n ≤ sumD c D L n ∧ sumD c D L n ≤ bringN c (fun w => (comesP w).1) L n ∧ 0 ≤ sumD c D L n ∧ sumD c D L n ≤ 1000 * n
 | 0, _ => by rw [bringN_zero, bringN_zero]; simp [sumD]
 | n + 1, hn => by
  have ih := sumD_in hok hL hD n (by omega)
  obtain ⟨h1, h2⟩ := planB_parts hL; obtain ⟨l, hl⟩ : ∃ l, c.lt[n]? = some l := ⟨_, List.getElem?_eq_getElem (by omega)⟩
  obtain ⟨p, hp⟩ : ∃ p, L[n]? = some p := ⟨_, List.getElem?_eq_getElem (by omega)⟩
  rcases h2 p (List.mem_of_getElem? hp) with rfl | ⟨h3, h4⟩
  ·rw [bringN_neg _ hl hp (by omega), bringN_neg _ hl hp (by omega), sumD_neg hl hp (by omega)]
   omega
  ·obtain ⟨m, rfl⟩ : ∃ m : Nat, p = m := ⟨p.toNat, by omega⟩
   obtain ⟨g, hg⟩ : ∃ g, c.wg[m]? = some g := ⟨_, List.getElem?_eq_getElem (by omega)⟩
   obtain ⟨d, hd, d1, d2⟩ := hD m g hg; rw [bringN_on _ hl hp hg, bringN_on _ hl hp hg, sumD_on hl hp hd]; have hlb := (okC_parts hok).2.2.2.2.2 l (List.mem_of_getElem? hl); have b1 := brings_mono hlb (show d ≤ (comesP g).2 from d2)
   have b2 := brings_mono hlb (show (comesP g).1 ≤ d from d1)
   have b3 := brings_bd hlb d
   omega
theorem bring_best (hL : planB c L = true) : bringN c (fun w => (comesP w).2) L c.lt.length = valL c.wg ofBest c.lt L ∧ bringN c (fun w => (comesP w).1) L c.lt.length = valL c.wg ofHigh c.lt L := by
 rw [bringN_all _ (planB_parts hL).1, bringN_all _ (planB_parts hL).1, bring_val, bring_val]; exact ⟨rfl, rfl⟩
end
end Go.Proofs.YtgmfhngcehkibaaGreat
namespace Go.Proofs.YtgmfhngcehkibaaGreat
open Go.RowKit Go.Hav Go.Shelf Go.Sq
attribute [local go_sem] Oper.semAt_some
theorem wpList_append_runM {P : Program} {ops : Array Oper} {rest : List Oper} {o : Oper} {a : Act} {Q : Exit → Act → World → Prop} {w w' : World} {v u v' : Value} (hgd : o.guard = none) (s x : Operand) (t : TypeId)
  (ho : o.op = .call { callee := .builtin .append, args := #[s, x], argTypes := #[t, t] }) (hs : a.eval s = v) (hx : a.eval x = u) (hr : (Builtin.append_ #[t, t] o.type #[v, u]).run P w = .ok v' w')
  (h : wpList P ops Q rest (a.put o.dst v') w') : wpList P ops Q (o :: rest) a w :=
 wpList_plain hgd fun _ hK => by
  unfold Oper.wp; rw [append_oper ho hs hx hr]; exact hK _ _ h
structure CBox (w : World) (b : Nat) (fa : Option Addr) (fl fc : Nat) (la : Option Addr) (ll lc : Nat) (wa : Option Addr) (wn wc : Nat) (ta : Option Addr) (tn tc : Nat) (q : ICart) : Prop where
 box : Blk w b 31 #[.int .i64 q.riv.depth.lo, .int .i64 q.riv.depth.hi, .int .i64 q.riv.fall.lo, .int .i64 q.riv.fall.hi, .int .i64 q.riv.days, .slice fa fl fc, .slice la ll lc, .int .i64 q.draws, .slice wa wn wc, .slice ta tn tc]
 inn : CtIn w w.heap.size fa fl la ll wa wn ta tn q
theorem CBox.below {w w' : World} {b fl fc ll lc wn wc tn tc : Nat} {fa la wa ta : Option Addr} {q : ICart} (h : CBox w b fa fl fc la ll lc wa wn wc ta tn tc q) (hb : Below w.heap.size w w') : CBox w' b fa fl fc la ll lc wa wn wc ta tn tc q := ⟨h.box.below hb h.box.lt, h.inn.grow hb⟩
section
variable {w0 K : World} {b5 b15 g1 g2 fl fc ll lc wn wc tn tc c1 c2 c3 c4 : Nat} {fa la wa ta A1 A2 A3 A4 : Option Addr} {c : ICart} {n1 n2 : Int} {P1 P2 : List Int}
theorem RdG.of_ints {w : World} {B : Nat} {A : Option Addr} {n cp : Nat} {L : List Int} (h : w.ownsRow B 3 1 (.slice A n cp) n (L.flatMap inI)) (hn : L.length = n) : RdG inI 1 w w.heap.size A L := by
 rw [← hn] at h; obtain ⟨A', cq, he, hrd, -⟩ := own_rd inI_len (by decide) h
 injection he with e1 e2 e3
 rw [e1]; exact hrd
end
end Go.Proofs.YtgmfhngcehkibaaGreat
