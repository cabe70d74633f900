/- Rows of one's own, and rows of numbers. The carts, in plain Lean: what is valid; which wagons are in time; which rule a lot breaks; the best plan, and all plans. The carts: the plan that is returned is the first of all right ones that are worth the most. The reference of the carts: check, timely, times. The reference's rule and plans, and how they agree with what the program reckons. Which plans are right; which lots are sent by one. The reference of the carts: Brings, worth, Sends, Plan, Ints. The laws' long, heavy, fine, made, brings. A cart that comes in: what its value is, and that it reads as a cart. CartTimes: a wagon is in time as its days are; a boat that draws less is in time no less. Which lots stay, as plain Lean: a lot that is sent alone; bales are sent if one is. CartMost, in plain Lean: right plans, how many bales a plan sends, which plan comes first. CartMost: the plans th. Condition: what the statements say. -/
import Derived.Test.YtgmfhngcehkibaaGreatPkB22
import Derived.Orders
import Derived.Below
import Derived.Test.YtgmfhngcehkibaaGreatProg
import Derived.WalkKit
import Derived.WalkSpells
import Derived.WalkLawsBesides
import Derived.Lib.Hide
import Derived.OneCell
import Derived.Laws.AppendOwn
import Derived.Laws.OwnMore
import Derived.Laws.Bits64b
import Derived.Deep.LoopGhost
import Derived.Deep.QuietTactic
import Derived.BigQuiet
import Derived.RegionTactic
import Derived.BigRegion
import Derived.Deep.DeepCutAuto
import Derived.RangeFuncNested
import Derived.RangeFuncBound
import Derived.RangeFuncCalls
import Derived.RangeFuncLeaves
import Derived.RangeFuncWrites
import Derived.Shelf.Abstract
import Derived.OwnWalkIn
import Derived.TacticsInMore
import Derived.LoopNIn
import Derived.LoopIn
import Derived.OrdersIn
import Derived.TacticsIn
import Derived.ControlIn
import Derived.Scope
import Derived.Laws.BitsAllLaws
import Derived.WalkSmall
import Derived.Laws.EntriesVeiled
import Derived.Maps.Own
import Derived.Maps.OwnSet
import Derived.Maps.Range
import Derived.Maps.AppendAt
import Derived.OwnWalk
import Derived.DeepKeys4
import Derived.Outline
import Derived.Deep.CutBlock
import Derived.BigGuard
import Derived.Tactics
import Derived.Tactics2
import Derived.Defers
import Derived.Recover
import Derived.Laws.Pointers
import Derived.Laws.MakeOwn
import Derived.Laws.CopyOwn
import Derived.Deep.AppendLies
import Derived.Laws.CopyRow
import Derived.ProofKit
import Derived.LaidMore
import Derived.OpenShut
import Derived.Stop.Joined
import Derived.Deep.Slices
import Derived.Carry
import Derived.Test.YtgmfhngcehkibaaGreatRows
import Derived.ChangeOld
set_option maxRecDepth 100000
set_option maxHeartbeats 6400000
namespace Go.Proofs.YtgmfhngcehkibaaGreat
open Go.RowKit Go.Hav
theorem flat_one {α : Type} (e : α → Value) (L : List α) : L.flatMap (fun x => [e x]) = L.map e := by
 induction L with
 | nil => rfl
 | cons x L ih => rw [List.flatMap_cons, ih]; rfl
def Rows {α : Type} (e : α → Value) (t : TypeId) (w : World) (xs : List Value) (Ls : List (List α)) : Prop :=
 xs.length = Ls.length ∧ ∀ (j : Nat) (L : List α), Ls[j]? = some L → ∃ A c, L.length ≤ c ∧ xs[j]? = some (Value.slice A L.length c) ∧ RowN e t w A L
end Go.Proofs.YtgmfhngcehkibaaGreat
namespace Go.Proofs.YtgmfhngcehkibaaGreat
section
variable (tm : IWag → Nat) (ws : List IWag)
section
variable (of_ : ILot → IWag → Int)
def plansN (on : Rm → List (List Int)) (l : ILot) (R : Rm) : Nat → List (List Int)
 | 0 => []
 | n + 1 => plansN on l R n ++ (if fitsW tm ws l n R then (on (takeR R n l.bales)).map ((n : Int) :: ·) else [])
def plansL : List ILot → Rm → List (List Int)
 | [], _ => [[]]
 | l :: ls, R => (plansL ls R).map (-1 :: ·) ++ plansN tm ws (plansL ls) l R ws.length
def valL : List ILot → List Int → Int
 | l :: ls, p :: ps => (if p < 0 then 0 else match ws[p.toNat]? with | some w => of_ l w | none => 0) + valL ls ps
 | _, _ => 0
end
end
section
variable (tm : IWag → Nat) (ws : List IWag) (of_ : ILot → IWag → Int)
theorem valL_no (l : ILot) (ls : List ILot) (q : List Int) : valL ws of_ (l :: ls) (-1 :: q) = 0 + valL ws of_ ls q := by rw [valL, if_pos (by omega)]
theorem valL_on (l : ILot) (ls : List ILot) {n : Nat} {w : IWag} (hw : ws[n]? = some w) (q : List Int) : valL ws of_ (l :: ls) ((n : Int) :: q) = of_ l w + valL ws of_ ls q := by
 rw [valL, if_neg (by omega), Int.toNat_natCast, hw]
theorem plan_val : ∀ (ls : List ILot) (R : Rm), valL ws of_ ls (planL tm ws of_ ls R) = (onP tm ws of_ ls R).1
 | [], _ => rfl
 | l :: ls, R => by
  rw [planL_cons]; have h := (onP_is tm ws of_ l ls R).is; rw [← onP_best] at h; rcases h with ⟨h1, h2⟩ | ⟨i, w, hi, hw, hf, h1, h2⟩
  ·rw [h1, valL_no, plan_val ls, h2]; unfold nextR; rw [if_neg (by omega)]
   omega
  ·rw [h1, valL_on ws of_ l ls hw, plan_val ls, h2]; unfold nextR; rw [if_pos (by omega), Int.toNat_natCast]
def rightL : List ILot → List Int → Rm → Prop
 | [], ps, _ => ps = []
 | l :: ls, ps, R => ∃ p q, ps = p :: q ∧ ((p = -1 ∧ rightL ls q R) ∨ ∃ i : Nat, p = i ∧ fitsW tm ws l i R = true ∧ rightL ls q (takeR R i l.bales))
def beforeL : List Int → List Int → Prop
 | a :: p, b :: q => a < b ∨ (a = b ∧ beforeL p q)
 | _, _ => False
theorem fitsW_is {l : ILot} {i : Nat} {R : Rm} (h : fitsW tm ws l i R = true) : ∃ w, ws[i]? = some w ∧ brokenW (tm w) l w (R i) = 0 := by
 unfold fitsW at h
 split at h
 ·rename_i w hw; exact ⟨w, hw, by simpa using h⟩
 ·cases h
theorem plan_best : ∀ (ls : List ILot) (R : Rm) (ps : List Int), rightL tm ws ls ps R → valL ws of_ ls ps ≤ (onP tm ws of_ ls R).1 ∧ (valL ws of_ ls ps = (onP tm ws of_ ls R).1 → ¬ beforeL ps (planL tm ws of_ ls R))
 | [], R, ps, h => by obtain rfl : ps = [] := h; exact ⟨Int.le_refl _, fun _ hb => hb⟩
 | l :: ls, R, ps, h => by
  obtain ⟨p, q, rfl, h⟩ := h; have B := onP_is tm ws of_ l ls R; rcases h with ⟨rfl, hr⟩ | ⟨i, rfl, hf, hr⟩
  ·obtain ⟨i1, i2⟩ := plan_best ls R q hr; have b1 := B.no; rw [← onP_best] at b1; rw [valL_no]
   refine ⟨by omega, fun e => ?_⟩
   have b2 := B.no_eq; rw [← onP_best] at b2; have b3 := b2 (by omega)
   rw [planL_cons, b3]; rintro (hb | ⟨-, hb⟩)
   ·omega
   ·refine i2 (by omega) ?_
    unfold nextR at hb; rw [if_neg (by omega)] at hb
    exact hb
  ·obtain ⟨w, hw, hb0⟩ := fitsW_is tm ws hf; have hi : i < ws.length := (List.getElem?_eq_some_iff.1 hw).1; obtain ⟨i1, i2⟩ := plan_best ls _ q hr; have b1 := B.on i w hi hw hb0; rw [← onP_best] at b1; rw [valL_on ws of_ l ls hw]
   refine ⟨by omega, fun e => ?_⟩
   have b2 := B.on_eq i w hi hw hb0; rw [← onP_best] at b2; have b3 := b2 (by omega)
   rw [planL_cons]; rintro (hb | ⟨he, hb⟩)
   ·omega
   ·refine i2 (by omega) ?_
    rw [← he] at hb; unfold nextR at hb; rw [if_pos (by omega), Int.toNat_natCast] at hb
    exact hb
theorem plan_right : ∀ (ls : List ILot) (R : Rm), rightL tm ws ls (planL tm ws of_ ls R) R
 | [], _ => rfl
 | l :: ls, R => by
  rw [planL_cons]; have h := (onP_is tm ws of_ l ls R).is; rw [← onP_best] at h; refine ⟨_, _, rfl, ?_⟩; rcases h with ⟨h1, h2⟩ | ⟨i, w, hi, hw, hf, h1, h2⟩
  ·refine .inl ⟨h1, ?_⟩; rw [h1]; unfold nextR; rw [if_neg (by omega)]
   exact plan_right ls R
  ·refine .inr ⟨i, h1, by rw [fitsW_some tm ws hw, hf]; rfl, ?_⟩
   rw [h1]; unfold nextR; rw [if_pos (by omega), Int.toNat_natCast]
   exact plan_right ls _
end
end Go.Proofs.YtgmfhngcehkibaaGreat
namespace Go.Proofs.YtgmfhngcehkibaaGreat
open Go.RowKit Go.Hav Go.Shelf Go.Sq
attribute [local go_sem] Oper.semAt_some
section
variable {fa la wa ta : Option Addr} {fl fc ll lc wn wc tn tc : Nat} {c : ICart}
variable {w : World}
theorem openE_true (h : openE c true = 0) : okC c = true ∧ truthsA c.riv.nat ≠ [] := by
 obtain ⟨h1, -, h3⟩ := openE_zero h; exact ⟨h1, by unfold hasT at h3; simpa using h3⟩
end
end Go.Proofs.YtgmfhngcehkibaaGreat
namespace Go.Proofs.YtgmfhngcehkibaaGreat
section
variable {tm : IWag → Nat} {ws : List IWag}
theorem plansN_mem {on : Rm → List (List Int)} {l : ILot} {R : Rm} {q : List Int} : ∀ {n : Nat}, q ∈ plansN tm ws on l R n ↔ ∃ i, i < n ∧ fitsW tm ws l i R = true ∧ ∃ r ∈ on (takeR R i l.bales), q = (i : Int) :: r
 | 0 => by simp [plansN]
 | n + 1 => by
  rw [plansN, List.mem_append, plansN_mem (n := n)]; constructor
  ·rintro (⟨i, h1, h2⟩ | h)
   ·exact ⟨i, by omega, h2⟩
   ·split at h
    ·rename_i hf
     obtain ⟨r, hr, rfl⟩ := List.mem_map.1 h; exact ⟨n, by omega, hf, r, hr, rfl⟩
    ·cases h
  ·rintro ⟨i, h1, hf, r, hr, rfl⟩
   by_cases e : i = n
   ·subst e; exact .inr (by rw [if_pos hf]; exact List.mem_map.2 ⟨r, hr, rfl⟩)
   ·exact .inl ⟨i, by omega, hf, r, hr, rfl⟩
theorem fitsW_lt {l : ILot} {i : Nat} {R : Rm} (h : fitsW tm ws l i R = true) : i < ws.length := by
 obtain ⟨w, hw, _⟩ := fitsW_is tm ws h; exact (List.getElem?_eq_some_iff.1 hw).1
theorem plansL_mem : ∀ {ls : List ILot} {R : Rm} {q : List Int}, q ∈ plansL tm ws ls R ↔ rightL tm ws ls q R
 | [], R, q => by simp [plansL, rightL]
 | l :: ls, R, q => by
  rw [plansL, List.mem_append, plansN_mem]; unfold rightL; constructor
  ·rintro (h | ⟨i, h1, hf, r, hr, rfl⟩)
   ·obtain ⟨r, hr, rfl⟩ := List.mem_map.1 h; exact ⟨-1, r, rfl, .inl ⟨rfl, plansL_mem.1 hr⟩⟩
   ·exact ⟨i, r, rfl, .inr ⟨i, rfl, hf, plansL_mem.1 hr⟩⟩
  ·rintro ⟨p, r, rfl, ⟨rfl, hr⟩ | ⟨i, rfl, hf, hr⟩⟩
   ·exact .inl (List.mem_map.2 ⟨r, plansL_mem.2 hr, rfl⟩)
   ·exact .inr ⟨i, fitsW_lt hf, hf, r, plansL_mem.2 hr, rfl⟩
end
section
variable {tm : IWag → Nat} {ws : List IWag}
theorem checkL_none : ∀ {ls : List ILot} {ps : List Int} {R : Rm} {k : Nat}, ps.length = ls.length → (∀ p ∈ ps, p = -1 ∨ (0 ≤ p ∧ p < ws.length)) → (checkL tm ws k ls ps R = none ↔ rightL tm ws ls ps R)
 | [], [], R, k, _, _ => by simp [checkL, rightL]
 | [], _ :: _, _, _, h, _ => by simp at h
 | _ :: _, [], _, _, h, _ => by simp at h
 | l :: ls, p :: ps, R, k, hlen, hp => by
  have hp' : ∀ q ∈ ps, q = -1 ∨ (0 ≤ q ∧ q < ws.length) := fun q hq => hp q (List.mem_cons_of_mem _ hq)
  have hl' : ps.length = ls.length := by simpa using hlen
  rw [checkL]; unfold rightL; rcases hp p List.mem_cons_self with rfl | ⟨h0, h1⟩
  ·rw [if_pos (by omega), checkL_none hl' hp']
   refine ⟨fun h => ⟨-1, ps, rfl, .inl ⟨rfl, h⟩⟩, ?_⟩
   rintro ⟨p', q', e, ⟨-, h⟩ | ⟨i, e2, -⟩⟩
   ·cases e; exact h
   ·cases e; omega
  ·obtain ⟨i, rfl⟩ : ∃ i : Nat, p = i := ⟨p.toNat, by omega⟩
   obtain ⟨g, hg⟩ : ∃ g, ws[i]? = some g := ⟨_, List.getElem?_eq_getElem (by omega)⟩
   rw [if_neg (by omega), Int.toNat_natCast, hg]
   simp only
   by_cases a : brokenW (tm g) l g (R i) = 0
   ·rw [if_pos a, checkL_none hl' hp']
    refine ⟨fun h => ⟨i, ps, rfl, .inr ⟨i, rfl, by rw [fitsW_some tm ws hg, a]; rfl, h⟩⟩, ?_⟩
    rintro ⟨p', q', e, ⟨e2, -⟩ | ⟨j, e2, -, h⟩⟩
    ·cases e; omega
    ·cases e; obtain rfl : i = j := by omega
     exact h
   ·rw [if_neg a]
    refine ⟨fun h => (by cases h), ?_⟩
    rintro ⟨p', q', e, ⟨e2, -⟩ | ⟨j, e2, hf, -⟩⟩
    ·cases e; omega
    ·cases e; obtain rfl : i = j := by omega
     rw [fitsW_some tm ws hg] at hf; exact absurd (by simpa using hf) a
theorem rightL_len : ∀ {ls : List ILot} {q : List Int} {R : Rm}, rightL tm ws ls q R → q.length = ls.length
 | [], _, _, h => by unfold rightL at h; rw [h]; rfl
 | l :: ls, q, R, h => by
  obtain ⟨p, r, rfl, ⟨-, hr⟩ | ⟨i, -, -, hr⟩⟩ := h
  ·simp [rightL_len hr]
  ·simp [rightL_len hr]
theorem rightL_ok : ∀ {ls : List ILot} {q : List Int} {R : Rm}, rightL tm ws ls q R → ∀ p ∈ q, p = -1 ∨ (0 ≤ p ∧ p < ws.length)
 | [], _, _, h => by unfold rightL at h; rw [h]; simp
 | l :: ls, q, R, h => by
  obtain ⟨p, r, rfl, h⟩ := h; intro p' hp'; rcases h with ⟨rfl, hr⟩ | ⟨i, rfl, hf, hr⟩
  ·rcases List.mem_cons.1 hp' with rfl | hp'
   ·exact .inl rfl
   ·exact rightL_ok hr p' hp'
  ·rcases List.mem_cons.1 hp' with rfl | hp'
   ·have := fitsW_lt hf; exact .inr ⟨by omega, by omega⟩
   ·exact rightL_ok hr p' hp'
theorem fitsW_iff {l : ILot} {i : Nat} {R : Rm} : fitsW tm ws l i R = true ↔ ∃ g, ws[i]? = some g ∧ l.from_ ≤ g.leaves ∧ l.bales ≤ R i ∧ tm g = 2 := by
 constructor
 ·intro h; obtain ⟨g, hg, hb⟩ := fitsW_is tm ws h; exact ⟨g, hg, brokenW_zero.1 hb⟩
 ·rintro ⟨g, hg, hb⟩; rw [fitsW_some tm ws hg, brokenW_zero.2 hb]
  rfl
theorem fits_mono {l : ILot} {i : Nat} {R R' : Rm} (h : fitsW tm ws l i R = true) (hr : R i ≤ R' i) : fitsW tm ws l i R' = true := by
 obtain ⟨g, hg, h1, h2, h3⟩ := fitsW_iff.1 h; exact fitsW_iff.2 ⟨g, hg, h1, by omega, h3⟩
theorem sent_fits : ∀ {ls : List ILot} {q : List Int} {R : Rm} {i : Nat} {l : ILot} {p : Int}, (∀ l ∈ ls, 0 ≤ l.bales) → rightL tm ws ls q R → ls[i]? = some l → q[i]? = some p → 0 ≤ p → fitsW tm ws l p.toNat R = true
 | [], _, _, _, _, _, _, _, h, _, _ => by simp at h
 | m :: ls, q, R, i, l, p, hb, h, hl, hq, hp => by
  obtain ⟨p0, r, rfl, h⟩ := h
  cases i with
  | zero =>
   simp at hl hq; subst hl hq; rcases h with ⟨e, -⟩ | ⟨j, rfl, hf, -⟩
   ·omega
   ·simpa using hf
  | succ i =>
   simp only [List.getElem?_cons_succ] at hl hq
   have hb' : ∀ l ∈ ls, 0 ≤ l.bales := fun l h => hb l (List.mem_cons_of_mem _ h)
   rcases h with ⟨-, hr⟩ | ⟨j, -, -, hr⟩
   ·exact sent_fits hb' hr hl hq hp
   ·refine fits_mono (sent_fits hb' hr hl hq hp) ?_; unfold takeR; have := hb m List.mem_cons_self
    split <;> omega
theorem right_none : ∀ (ls : List ILot) (R : Rm), rightL tm ws ls (List.replicate ls.length (-1)) R
 | [], _ => rfl
 | _ :: ls, R => ⟨-1, List.replicate ls.length (-1), rfl, .inl ⟨rfl, right_none ls R⟩⟩
theorem right_alone : ∀ {ls : List ILot} {R : Rm} {i k : Nat} {l : ILot}, ls[i]? = some l → (rightL tm ws ls ((List.replicate ls.length (-1)).set i (k : Int)) R ↔ fitsW tm ws l k R = true)
 | [], _, _, _, _, h => by simp at h
 | m :: ls, R, i, k, l, h => by
  rw [List.length_cons, List.replicate_succ]
  cases i with
  | zero =>
   simp at h; subst h; rw [List.set_cons_zero]; unfold rightL; constructor
   ·rintro ⟨p, q, e, ⟨e2, -⟩ | ⟨j, e2, hf, -⟩⟩
    ·cases e; omega
    ·cases e; obtain rfl : k = j := by omega
     exact hf
   ·intro hf; exact ⟨k, _, rfl, .inr ⟨k, rfl, hf, right_none ls _⟩⟩
  | succ i =>
   simp only [List.getElem?_cons_succ] at h; rw [List.set_cons_succ]; unfold rightL; constructor
   ·rintro ⟨p, q, e, ⟨e2, hr⟩ | ⟨j, e2, hf, -⟩⟩
    ·cases e; exact (right_alone h).1 hr
    ·cases e; omega
   ·intro hf; exact ⟨-1, _, rfl, .inl ⟨rfl, (right_alone h).2 hf⟩⟩
theorem alone_at {ls : List ILot} {i k : Nat} (hi : i < ls.length) : ((List.replicate ls.length (-1)).set i (k : Int))[i]? = some (k : Int) := by
 rw [List.getElem?_set_self (by simpa using hi)]
theorem sent_iff {ls : List ILot} {R : Rm} (hb : ∀ l ∈ ls, 0 ≤ l.bales) {i : Nat} {l : ILot} (hl : ls[i]? = some l) :
  (∃ q ∈ plansL tm ws ls R, ∃ p, q[i]? = some p ∧ 0 ≤ p) ↔ ∃ k, fitsW tm ws l k R = true := by
 constructor
 ·rintro ⟨q, hq, p, hp, h0⟩; exact ⟨_, sent_fits hb (plansL_mem.1 hq) hl hp h0⟩
 ·rintro ⟨k, hf⟩; exact ⟨_, plansL_mem.2 ((right_alone hl).2 hf), k, alone_at (List.getElem?_eq_some_iff.1 hl).1, by omega⟩
end
end Go.Proofs.YtgmfhngcehkibaaGreat
namespace Go.Proofs.YtgmfhngcehkibaaGreat
open Go.RowKit Go.Hav Go.Shelf Go.Sq
attribute [local go_sem] Oper.semAt_some
section
variable {ws : List IWag} {of_ : ILot → IWag → Int}
theorem valL_take : ∀ {ls : List ILot} {ps : List Int} {j : Nat} {l : ILot} {p : Int}, ls[j]? = some l → ps[j]? = some p →
  valL ws of_ (ls.take (j + 1)) (ps.take (j + 1)) = valL ws of_ (ls.take j) (ps.take j) + (if p < 0 then 0 else match ws[p.toNat]? with | some w => of_ l w | none => 0)
 | l0 :: ls, p0 :: ps, 0, l, p, h1, h2 => by
  obtain rfl : l0 = l := by simpa using h1
  obtain rfl : p0 = p := by simpa using h2
  simp [valL] <;> rfl
 | l0 :: ls, p0 :: ps, j + 1, l, p, h1, h2 => by
  simp only [List.take_succ_cons, valL]; rw [valL_take (j := j) (l := l) (p := p) (by simpa using h1) (by simpa using h2)]
  omega
 | [], _, _, _, _, h1, _ => by simp at h1
 | _ :: _, [], _, _, _, _, h2 => by simp at h2
end
theorem bring_val (ws : List IWag) (f : IWag → Int) : ∀ (ls : List ILot) (ps : List Int), sumL (bringL ws f ls ps) = valL ws (fun l g => bringsP l (f g)) ls ps
 | l :: ls, p :: ps => by
  have ih := bring_val ws f ls ps; rw [bringL, valL, ← ih]
  by_cases hp : p < 0
  ·rw [if_pos hp, if_pos hp]; simp [sumL]
  ·rw [if_neg hp, if_neg hp]; cases h : ws[p.toNat]? <;> simp [sumL]
 | [], ps => by cases ps <;> simp [bringL, valL, sumL]
 | l :: ls, [] => by simp [bringL, valL, sumL]
def ofHigh (l : ILot) (g : IWag) : Int := bringsP l (comesP g).1
theorem worthS_val (c : ICart) (ps : List Int) : worthS c ps = (valL c.wg ofBest c.lt ps, valL c.wg ofHigh c.lt ps) := by
 unfold worthS; rw [bring_val, bring_val]
 rfl
section
variable {fa la wa ta : Option Addr} {fl fc ll lc wn wc tn tc : Nat} {c : ICart}
variable {w : World}
theorem madeL_ok (c : ICart) (by_ : List Nat) : ∀ p ∈ madeL c by_, p = -1 ∨ (0 ≤ p ∧ p < c.wg.length) := fun p hp => by
 obtain ⟨i, -, rfl⟩ := List.mem_map.1 hp; have := Nat.mod_lt (if by_.length = 0 then 0 else by_[i % by_.length]?.getD 0) (show 0 < c.wg.length + 1 by omega)
 omega
theorem madeL_plan (c : ICart) (by_ : List Nat) : planB c (madeL c by_) = true := by
 unfold planB; rw [madeL_len, decide_eq_true rfl, Bool.true_and, List.all_eq_true]; intro p hp; rcases madeL_ok c by_ p hp with rfl | ⟨h1, h2⟩
 ·rfl
 ·rw [Bool.or_eq_true]; exact .inr (inB_iff.2 ⟨h1, by omega⟩)
end
end Go.Proofs.YtgmfhngcehkibaaGreat
namespace Go.Proofs.YtgmfhngcehkibaaGreat
open Go.RowKit Go.Hav Go.ChangeShapes Go.WideShapes Go.Deep
theorem list_of {α : Type} (P : Nat → α → Prop) : ∀ n : Nat, (∀ i, i < n → ∃ x, P i x) → ∃ l : List α, l.length = n ∧ ∀ i x, l[i]? = some x → P i x := by
 intro n
 induction n with
 | zero => intro _; exact ⟨[], rfl, fun i x h => by simp at h⟩
 | succ n ih =>
  intro h
  obtain ⟨l, hl, hp⟩ := ih (fun i hi => h i (by omega))
  obtain ⟨x, hx⟩ := h n (by omega)
  refine ⟨l ++ [x], by simp [hl], fun i y hy => ?_⟩
  rcases Nat.lt_or_ge i n with hi | hi
  ·rw [List.getElem?_append_left (by omega)] at hy
   exact hp i y hy
  ·rw [List.getElem?_append_right (by omega)] at hy
   by_cases e : i = n
   ·subst e; rw [hl, Nat.sub_self] at hy; obtain rfl : x = y := by simpa using hy
    exact hx
   ·rw [hl, List.getElem?_eq_none (by simp; omega)] at hy
    cases hy
section
variable {H : Type} {enc : TypeId × Value → H} {W : World} {base : Nat} {spare : Nat → Bool} {held : Bool}
theorem open_rows {t e : TypeId} {fuel sz : Nat} {c : Value} {x : DataW H × List MemPlace} (ht : Tryz.prog.underlying t = some (.slice e)) (hc : Tryz.prog.cellsOf e = sz) (h0 : 0 < sz) (h : DataW.trod enc Tryz.prog W base spare held fuel t [c] = some x) :
  ∃ (A : Option Addr) (len cap : Nat), c = .slice A len cap ∧ len ≤ maxLen ∧ ∀ i, i < len → ∃ (b off n : Nat) (cs : List Value) (y : DataW H × List MemPlace), A = some ⟨b, off, none⟩ ∧ cs.length = sz ∧ (∀ j v, cs[j]? = some v → W.cell? ⟨b, off + (i * sz + j), none⟩ = some v) ∧ DataW.trod enc Tryz.prog W base spare held n e cs = some y := by
 rcases open_slice ht h with ⟨e1, _⟩ | ⟨a, len, cap, m, n, D, Pl, e1, _, hl, hm, hmm, _, hi⟩
 ·obtain rfl : c = .slice none 0 0 := by simpa using e1
  exact ⟨none, 0, 0, rfl, Nat.zero_le _, fun i hi => by omega⟩
 ·obtain rfl : c = .slice (some a) len cap := by simpa using e1
  refine ⟨some a, len, cap, rfl, Nat.le_trans hl hm, fun i hlt => ?_⟩
  obtain ⟨cs, hcs, ht⟩ := hi i (by rw [hmm]; split <;> omega)
  rw [hc] at hcs; obtain ⟨_, hlen, hat⟩ := World.cells?_some hcs
  -- the address has no spot
  obtain ⟨cs0, hcs0, _⟩ := hi 0 (by rw [hmm]; split <;> omega)
  rw [hc, Nat.zero_mul] at hcs0; obtain ⟨_, hlen0, hat0⟩ := World.cells?_some hcs0; have h00 := hat0 0 h0; rw [List.getElem?_eq_getElem (by omega)] at h00
  have hs : a.spot = none := by
   have := World.cell?_spot h00
   simpa [Addr.add] using this
  obtain ⟨b, off, spot⟩ := a; simp only at hs; subst hs
  refine ⟨b, off, n, cs, _, rfl, hlen, fun j v hv => ?_, ht⟩
  have hj : j < sz := by rw [← hlen]; exact (List.getElem?_eq_some_iff.1 hv).1
  have h1 := hat j hj; rw [hv] at h1; rw [← h1]
  congr 1
  unfold Addr.add
  split <;> split <;> simp_all <;> omega
theorem one_int {n : Nat} {cs : List Value} {y : DataW H × List MemPlace} (h : DataW.trod enc Tryz.prog W base spare held n 3 cs = some y) : ∃ a, cs = [.int .i64 a] := by
 obtain ⟨a, e, _⟩ := DataW.trod_int Tryz.underlying3 h; exact ⟨a, e⟩
theorem two_ints {n : Nat} {cs : List Value} {y : DataW H × List MemPlace} (h : DataW.trod enc Tryz.prog W base spare held n 23 cs = some y) : ∃ a b, cs = [.int .i64 a, .int .i64 b] := by
 have c3 : Tryz.prog.cellsOf 3 = 1 := by kernel_rfl
 have c23 : Tryz.prog.cellsOf 23 = 2 := by kernel_rfl
 obtain ⟨xs, m, _, _, hlen, hx, hf⟩ := DataW.trod_struct Tryz.underlying23 h; rw [c23] at hlen
 match cs, hlen with
 | [u, v], _ =>
  match xs, hx with
  | [x0, x1], _ =>
   obtain ⟨a, ha⟩ := one_int (hf 0 _ rfl); obtain ⟨b, hb⟩ := one_int (hf 1 _ rfl)
   simp [c3] at ha hb
   exact ⟨a, b, by rw [ha, hb]⟩
theorem fr_cells {n : Nat} {cs : List Value} {y : DataW H × List MemPlace} (h : DataW.trod enc Tryz.prog W base spare held n 59 cs = some y) : ∃ c : IFr, cs = frI c := by
 have c23 : Tryz.prog.cellsOf 23 = 2 := by kernel_rfl
 have c59 : Tryz.prog.cellsOf 59 = 4 := by kernel_rfl
 obtain ⟨xs, m, _, _, hlen, hx, hf⟩ := DataW.trod_struct Tryz.underlying59 h; rw [c59] at hlen
 match cs, hlen with
 | [u0, u1, u2, u3], _ =>
  match xs, hx with
  | [x0, x1], _ =>
   obtain ⟨c, d, hcd⟩ := two_ints (hf 0 _ rfl); obtain ⟨a, b, hab⟩ := two_ints (hf 1 _ rfl)
   simp [c23] at hab hcd
   exact ⟨⟨⟨c, d⟩, ⟨a, b⟩⟩, by simp [frI, hab, hcd]⟩
theorem lk_cells {n : Nat} {cs : List Value} {y : DataW H × List MemPlace} (h : DataW.trod enc Tryz.prog W base spare held n 61 cs = some y) : ∃ c : ILk, cs = lkI c := by
 have c3 : Tryz.prog.cellsOf 3 = 1 := by kernel_rfl
 have c23 : Tryz.prog.cellsOf 23 = 2 := by kernel_rfl
 have c61 : Tryz.prog.cellsOf 61 = 3 := by kernel_rfl
 obtain ⟨xs, m, _, _, hlen, hx, hf⟩ := DataW.trod_struct Tryz.underlying61 h; rw [c61] at hlen
 match cs, hlen with
 | [u0, u1, u2], _ =>
  match xs, hx with
  | [x0, x1], _ =>
   obtain ⟨a, ha⟩ := one_int (hf 0 _ rfl); obtain ⟨c, d, hcd⟩ := two_ints (hf 1 _ rfl)
   simp [c3, c23] at ha hcd
   exact ⟨⟨a, ⟨c, d⟩⟩, by simp [lkI, ha, hcd]⟩
theorem rows_list {α : Type} {f : α → List Value} {A : Option Addr} {len sz : Nat} {e : TypeId} (he : ∀ (n : Nat) (cs : List Value) (y : DataW H × List MemPlace), DataW.trod enc Tryz.prog W base spare held n e cs = some y → ∃ x, cs = f x) (hf0 : ∀ x, 0 < (f x).length)
  (h : ∀ i, i < len → ∃ (b off n : Nat) (cs : List Value) (y : DataW H × List MemPlace), A = some ⟨b, off, none⟩ ∧ cs.length = sz ∧ (∀ j v, cs[j]? = some v → W.cell? ⟨b, off + (i * sz + j), none⟩ = some v) ∧ DataW.trod enc Tryz.prog W base spare held n e cs = some y) :
  ∃ l : List α, l.length = len ∧ RdG f sz W W.heap.size A l := by
 obtain ⟨l, hl, hp⟩ := list_of (fun i x => ∃ b off, A = some ⟨b, off, none⟩ ∧ b < W.heap.size ∧ ∀ j u, (f x)[j]? = some u → W.cell? ⟨b, off + (i * sz + j), none⟩ = some u) len (fun i hi => by
  obtain ⟨b, off, n, cs, y, e1, _, hc, ht⟩ := h i hi; obtain ⟨x, rfl⟩ := he n cs y ht; refine ⟨x, b, off, e1, ?_, hc⟩; have h0 := hc 0 _ (List.getElem?_eq_getElem (hf0 x)); rcases Nat.lt_or_ge b W.heap.size with hlt | hge
  ·exact hlt
  ·unfold World.cell? at h0
   simp [Array.getElem?_eq_none hge] at h0)
 exact ⟨l, hl, fun k x hx => hp k x hx⟩
theorem wg_cells {n : Nat} {cs : List Value} {y : DataW H × List MemPlace} (h : DataW.trod enc Tryz.prog W base spare held n 65 cs = some y) : ∃ c : IWag, cs = wgI c := by
 have c3 : Tryz.prog.cellsOf 3 = 1 := by kernel_rfl
 have c23 : Tryz.prog.cellsOf 23 = 2 := by kernel_rfl
 have c65 : Tryz.prog.cellsOf 65 = 4 := by kernel_rfl
 obtain ⟨xs, m, _, _, hlen, hx, hf⟩ := DataW.trod_struct Tryz.underlying65 h; rw [c65] at hlen
 match cs, hlen with
 | [u0, u1, u2, u3], _ =>
  match xs, hx with
  | [x0, x1, x2], _ =>
   obtain ⟨a, ha⟩ := one_int (hf 0 _ rfl); obtain ⟨b, d, hb⟩ := two_ints (hf 1 _ rfl); obtain ⟨e, he⟩ := one_int (hf 2 _ rfl)
   simp [c3, c23] at ha hb he
   exact ⟨⟨a, ⟨b, d⟩, e⟩, by simp [wgI, ha, hb, he]⟩
theorem lt_cells {n : Nat} {cs : List Value} {y : DataW H × List MemPlace} (h : DataW.trod enc Tryz.prog W base spare held n 68 cs = some y) : ∃ c : ILot, cs = ltI c := by
 have c3 : Tryz.prog.cellsOf 3 = 1 := by kernel_rfl
 have c68 : Tryz.prog.cellsOf 68 = 5 := by kernel_rfl
 obtain ⟨xs, m, _, _, hlen, hx, hf⟩ := DataW.trod_struct Tryz.underlying68 h; rw [c68] at hlen
 match cs, hlen with
 | [u0, u1, u2, u3, u4], _ =>
  match xs, hx with
  | [x0, x1, x2, x3, x4], _ =>
   obtain ⟨a0, h0⟩ := one_int (hf 0 _ rfl); obtain ⟨a1, h1⟩ := one_int (hf 1 _ rfl); obtain ⟨a2, h2⟩ := one_int (hf 2 _ rfl); obtain ⟨a3, h3⟩ := one_int (hf 3 _ rfl); obtain ⟨a4, h4⟩ := one_int (hf 4 _ rfl)
   simp [c3] at h0 h1 h2 h3 h4
   exact ⟨⟨a0, a1, a2, a3, a4⟩, by simp [ltI, h0, h1, h2, h3, h4]⟩
theorem riv_cells {n : Nat} {u0 u1 u2 u3 u4 u5 u6 : Value} {y : DataW H × List MemPlace} (h : DataW.trod enc Tryz.prog W base spare held n 27 [u0, u1, u2, u3, u4, u5, u6] = some y) :
  ∃ (fa la : Option Addr) (fl fc ll lc : Nat) (q : IRiv), [u0, u1, u2, u3, u4, u5, u6] = [.int .i64 q.depth.lo, .int .i64 q.depth.hi, .int .i64 q.fall.lo, .int .i64 q.fall.hi, .int .i64 q.days, .slice fa fl fc, .slice la ll lc] ∧ RvIn W W.heap.size fa fl la ll q := by
 have c3 : Tryz.prog.cellsOf 3 = 1 := by kernel_rfl
 have c23 : Tryz.prog.cellsOf 23 = 2 := by kernel_rfl
 have c24 : Tryz.prog.cellsOf 24 = 1 := by kernel_rfl
 have c25 : Tryz.prog.cellsOf 25 = 1 := by kernel_rfl
 obtain ⟨xs, m, _, _, _, hx, hg⟩ := DataW.trod_struct Tryz.underlying27 h
 match xs, hx with
 | [x0, x1, x2, x3, x4], _ =>
  have g0 := hg 0 _ rfl; have g1 := hg 1 _ rfl; have g2 := hg 2 _ rfl; have g3 := hg 3 _ rfl; have g4 := hg 4 _ rfl
  simp [c3, c23, c24, c25] at g0 g1 g2 g3 g4
  obtain ⟨d0, d1, e0⟩ := two_ints g0; obtain ⟨f0, f1, e1⟩ := two_ints g1; obtain ⟨days, e2⟩ := one_int g2; obtain ⟨rfl, rfl⟩ : u0 = .int .i64 d0 ∧ u1 = .int .i64 d1 := by simpa using e0
  obtain ⟨rfl, rfl⟩ : u2 = .int .i64 f0 ∧ u3 = .int .i64 f1 := by simpa using e1
  obtain rfl : u4 = .int .i64 days := by simpa using e2
  obtain ⟨fa, fl, fc, rfl, m0, h0⟩ := open_rows (sz := 4) Tryz.underlying24 (by kernel_rfl) (by decide) g3
  obtain ⟨la, ll, lc, rfl, m4, h4⟩ := open_rows (sz := 3) Tryz.underlying25 (by kernel_rfl) (by decide) g4
  obtain ⟨frs, k0, r0⟩ := rows_list (f := frI) (fun n cs y h => fr_cells h) (fun x => by simp [frI]) h0
  obtain ⟨lks, k4, r4⟩ := rows_list (f := lkI) (fun n cs y h => lk_cells h) (fun x => by simp [lkI]) h4
  unfold maxLen at m0 m4; exact ⟨fa, la, fl, fc, ll, lc, ⟨⟨d0, d1⟩, ⟨f0, f1⟩, days, frs, lks⟩, rfl, k0, k4, r0, r4, by omega, by omega⟩
theorem open_cart {r : Reach} {b0 : Nat} {v : Value} {d : DataW H} {p : List MemPlace} (hv : Value.okWide Tryz.prog W r b0 31 v) (h : DataW.Trod enc Tryz.prog W base spare held 31 v d p) :
  ∃ (fa la wa ta : Option Addr) (fl fc ll lc wn wc tn tc : Nat) (c : ICart), v = (.agg #[.int .i64 c.riv.depth.lo, .int .i64 c.riv.depth.hi, .int .i64 c.riv.fall.lo, .int .i64 c.riv.fall.hi, .int .i64 c.riv.days, .slice fa fl fc, .slice la ll lc, .int .i64 c.draws, .slice wa wn wc, .slice ta tn tc]) ∧ CtIn W W.heap.size fa fl la ll wa wn ta tn c := by
 have c3 : Tryz.prog.cellsOf 3 = 1 := by kernel_rfl
 have c27 : Tryz.prog.cellsOf 27 = 7 := by kernel_rfl
 have c28 : Tryz.prog.cellsOf 28 = 1 := by kernel_rfl
 have c29 : Tryz.prog.cellsOf 29 = 1 := by kernel_rfl
 have c31 : Tryz.prog.cellsOf 31 = 10 := by kernel_rfl
 obtain ⟨cs, rfl, hsz⟩ := okWide_struct Tryz.underlying31 hv; rw [c31] at hsz; obtain ⟨l⟩ := cs
 match l, hsz with
 | [u0, u1, u2, u3, u4, u5, u6, u7, u8, u9], _ =>
  obtain ⟨fuel, hf⟩ := h; obtain ⟨xs, m, _, _, _, hx, hg⟩ := DataW.trod_struct Tryz.underlying31 hf
  match xs, hx with
  | [x0, x1, x2, x3], _ =>
   have g0 := hg 0 _ rfl; have g1 := hg 1 _ rfl; have g2 := hg 2 _ rfl; have g3 := hg 3 _ rfl
   simp [Value.cells, c3, c27, c28, c29] at g0 g1 g2 g3
   obtain ⟨fa, la, fl, fc, ll, lc, q, e0, hR⟩ := riv_cells g0; obtain ⟨dr, e1⟩ := one_int g1; obtain rfl : u7 = .int .i64 dr := by simpa using e1
   obtain ⟨wa, wn, wc, rfl, m2, h2⟩ := open_rows (sz := 4) Tryz.underlying28 (by kernel_rfl) (by decide) g2
   obtain ⟨ta, tn, tc, rfl, m3, h3⟩ := open_rows (sz := 5) Tryz.underlying29 (by kernel_rfl) (by decide) g3
   obtain ⟨wgs, k2, r2⟩ := rows_list (f := wgI) (fun n cs y h => wg_cells h) (fun x => by simp [wgI]) h2
   obtain ⟨lts, k3, r3⟩ := rows_list (f := ltI) (fun n cs y h => lt_cells h) (fun x => by simp [ltI]) h3
   obtain ⟨rfl, rfl, rfl, rfl, rfl, rfl, rfl⟩ : u0 = .int .i64 q.depth.lo ∧ u1 = .int .i64 q.depth.hi ∧ u2 = .int .i64 q.fall.lo ∧ u3 = .int .i64 q.fall.hi ∧ u4 = .int .i64 q.days ∧ u5 = .slice fa fl fc ∧ u6 = .slice la ll lc := by simpa using e0
   unfold maxLen at m2 m3; exact ⟨fa, la, wa, ta, fl, fc, ll, lc, wn, wc, tn, tc, ⟨q, dr, wgs, lts⟩, rfl, hR, k2, k3, r2, r3, by omega, by omega⟩
end
theorem u8_wf {a : Int} (h : (Lit.int .u8 a).wf = true) : 0 ≤ a ∧ a ≤ 255 := by
 simp [Lit.wf, IntKind.min, IntKind.max, IntKind.signed, IntKind.bits] at h
 omega
section
variable {H : Type} {enc : TypeId × Value → H} {W : World} {base : Nat} {spare : Nat → Bool} {held : Bool}
theorem open_u8s {r : Reach} {b0 : Nat} {v : Value} {d : DataW H} {p : List MemPlace} (hv : Value.okWide Tryz.prog W r b0 53 v) (h : DataW.Trod enc Tryz.prog W base spare held 53 v d p) :
  ∃ (A : Option Addr) (al ac : Nat) (us : List Nat), v = .slice A al ac ∧ us.length = al ∧ (∀ x ∈ us, x ≤ 255) ∧ al ≤ 9223372036854775807 ∧ RdG byF 1 W W.heap.size A us := by
 obtain ⟨A, al, ac, rfl⟩ := okWide_slice Tryz.underlying53 hv; obtain ⟨fuel, hf⟩ := h; obtain ⟨A', al', ac', e, hm, hi⟩ := open_rows (sz := 1) (c := .slice A al ac) Tryz.underlying53 (by kernel_rfl) (by decide) (by simpa [Value.cells] using hf)
 obtain ⟨rfl, rfl, rfl⟩ : A = A' ∧ al = al' ∧ ac = ac' := by simpa using e
 obtain ⟨l, hl, hp⟩ := list_of (fun i (x : Nat) => x ≤ 255 ∧ ∃ b off, A = some ⟨b, off, none⟩ ∧ b < W.heap.size ∧ ∀ j u, (byF x)[j]? = some u → W.cell? ⟨b, off + (i * 1 + j), none⟩ = some u) al (fun i hlt => by
  obtain ⟨b, off, n, cs, y, e1, _, hc, ht⟩ := hi i hlt; obtain ⟨a, e2, _, hw⟩ := DataW.trod_int Tryz.underlying5 ht; subst e2; have hb := u8_wf hw; have h0 := hc 0 (.int .u8 a) (by rfl)
  obtain ⟨m, rfl⟩ : ∃ m : Nat, a = m := ⟨a.toNat, by omega⟩
  refine ⟨m, by omega, b, off, e1, ?_, hc⟩
  rcases Nat.lt_or_ge b W.heap.size with hlt | hge
  ·exact hlt
  ·unfold World.cell? at h0
   simp [Array.getElem?_eq_none hge] at h0)
 refine ⟨A, al, ac, l, rfl, hl, fun x hx => ?_, by unfold maxLen at hm; omega, fun k x hx => (hp k x hx).2⟩
 obtain ⟨k, hk⟩ := List.getElem?_of_mem hx; exact (hp k x hk).1
end
theorem rowOwn : ownKnob Tryz.prog.godebug = none := by kernel_rfl
theorem rowLaidOut : laidOutB Tryz.prog = true := by kernel_rfl
end Go.Proofs.YtgmfhngcehkibaaGreat
namespace Go.Proofs.YtgmfhngcehkibaaGreat
open Go.RowKit Go.Hav Go.Shelf Go.Sq
attribute [local go_sem] Oper.semAt_some
theorem and_bit (S d : Nat) (hS : S < 4611686018427387904) : bits BinOp.and IntKind.i64 ((S : Int) / 2 ^ d) 1 = if S.testBit d then 1 else 0 := and_one _ (.inr rfl) S d (by omega)
theorem ints_rd {w : World} {q : Nat} {l : List Int} (h : Blk w q 3 (intsA l)) : RdG inI 1 w w.heap.size (some ⟨q, 0, none⟩) l := by
 refine RdG.of_blk (f := inI) (sz := 1) (t := 3) (fun _ => rfl) ?_ h.lt
 have e : (l.flatMap inI).toArray = intsA l := by
  unfold intsA
  congr 1
  exact flat_one (fun x => Value.int .i64 x) l
 rw [e]; exact h
end Go.Proofs.YtgmfhngcehkibaaGreat
namespace Go.Proofs.YtgmfhngcehkibaaGreat
section
variable {c : ICart}
theorem fits_lt {l : ILot} : ∀ n, fitsAny c l n = true ↔ ∃ k, k < n ∧ fitsW c.tm c.wg l k (roomP c.wg) = true
 | 0 => by simp [fitsAny]
 | n + 1 => by
  rw [fitsAny, Bool.or_eq_true, fits_lt n]; constructor
  ·rintro (⟨k, h, hf⟩ | h)
   ·exact ⟨k, by omega, hf⟩
   ·exact ⟨n, by omega, h⟩
  ·rintro ⟨k, h, hf⟩
   by_cases he : k = n
   ·subst he; exact .inr hf
   ·exact .inl ⟨k, by omega, hf⟩
theorem fits_some {l : ILot} : fitsAny c l c.wg.length = true ↔ ∃ k, fitsW c.tm c.wg l k (roomP c.wg) = true :=
 (fits_lt _).trans ⟨fun ⟨k, _, h⟩ => ⟨k, h⟩, fun ⟨k, h⟩ => ⟨k, fitsW_lt h, h⟩⟩
theorem lot_pos (hok : okC c = true) : ∀ l ∈ c.lt, 1 ≤ l.bales := fun l hl => (lotB_iff.1 ((okC_parts hok).2.2.2.2.2 l hl)).2.2.1
theorem lot_nn (hok : okC c = true) : ∀ l ∈ c.lt, 0 ≤ l.bales := fun l hl => by have := lot_pos hok l hl; omega
theorem check_pos : ∀ {ls : List ILot} {ps : List Int} {R : Rm} {k : Nat} {v : Nat × Nat}, checkL c.tm c.wg k ls ps R = some v → v.2 ≠ 0
 | [], _, _, _, _, h => by simp [checkL] at h
 | _ :: _, [], _, _, _, h => by simp [checkL] at h
 | l :: ls, p :: ps, R, k, v, h => by
  rw [checkL] at h
  repeat' split at h
  all_goals first | exact check_pos h | (cases h; assumption) | (cases h; done)
theorem plan_stays {of_ : ILot → IWag → Int} (hok : okC c = true) {i : Nat} {l : ILot} (hl : c.lt[i]? = some l) (h : fitsAny c l c.wg.length = false) {p : Int} (hp : (planL c.tm c.wg of_ c.lt (roomP c.wg))[i]? = some p) : p < 0 := by
 by_cases h0 : 0 ≤ p
 ·have := fits_some.2 ((sent_iff (R := roomP c.wg) (lot_nn hok) hl).1 ⟨_, plansL_mem.2 (plan_right c.tm c.wg of_ c.lt (roomP c.wg)), p, hp, h0⟩); rw [h] at this; cases this
 ·omega
end
section
variable {c : ICart} {L : List Int}
theorem right_plan (h : rightL c.tm c.wg c.lt L (roomP c.wg)) : planB c L = true := by
 unfold planB; rw [rightL_len h, decide_eq_true rfl, Bool.true_and, List.all_eq_true]; intro p hp; rcases rightL_ok h p hp with rfl | ⟨h1, h2⟩
 ·rfl
 ·rw [Bool.or_eq_true]; exact .inr (inB_iff.2 ⟨h1, by omega⟩)
theorem check_right (hL : planB c L = true) : (checkV c L).2 = 0 ↔ rightL c.tm c.wg c.lt L (roomP c.wg) := by
 rw [← checkL_none (k := 0) (planB_parts hL).1 (planB_parts hL).2]; unfold checkV
 cases e : checkL c.tm c.wg 0 c.lt L (roomP c.wg) with
 | none => simp
 | some v => simp [check_pos e]
theorem right_all (hv : openE c true = 0) (h : rightL c.tm c.wg c.lt L (roomP c.wg)) : checkE c L = 4 ∧ checkW c L = (0, 0) ∧ worthE c L = 0 ∧ worthV c L = (valL c.wg ofBest c.lt L, valL c.wg ofHigh c.lt L) := by
 have hL := right_plan h; have hx := (check_right hL).2 h; have h1 : checkE c L = 4 := by unfold checkE; rw [hL, if_pos hv, if_pos hx]
 have h2 : worthE c L = 0 := by unfold worthE; rw [hL, if_pos hv, if_pos hx]
 exact ⟨h1, by unfold checkW; rw [h1]; rfl, h2, by unfold worthV; rw [if_pos h2, worthS_val]⟩
theorem wrong_all (hv : openE c true = 0) (hL : planB c L = true) (h : ¬ rightL c.tm c.wg c.lt L (roomP c.wg)) : worthE c L = 11 ∧ worthV c L = (0, 0) := by
 have h2 : worthE c L = 11 := by unfold worthE; rw [hL, if_pos hv, if_neg (fun e => h ((check_right hL).1 e))]
 exact ⟨h2, by unfold worthV; rw [if_neg (by omega)]⟩
def sentN (c : ICart) (L : List Int) (n : Nat) : Int := valL c.wg ofMost (c.lt.take n) (L.take n)
theorem sentN_zero : sentN c L 0 = 0 := by unfold sentN; simp [valL]
theorem sentN_neg {n : Nat} {l : ILot} {p : Int} (hl : c.lt[n]? = some l) (hp : L[n]? = some p) (h : p < 0) : sentN c L (n + 1) = sentN c L n := by
 unfold sentN; rw [valL_take hl hp, if_pos h, Int.add_zero]
theorem sentN_on {n : Nat} {l : ILot} {p : Int} (hL : planB c L = true) (hl : c.lt[n]? = some l) (hp : L[n]? = some p) (h : ¬ p < 0) : sentN c L (n + 1) = sentN c L n + l.bales := by
 have h2 := (planB_parts hL).2 p (List.mem_of_getElem? hp); obtain ⟨g, hg⟩ : ∃ g, c.wg[p.toNat]? = some g := ⟨_, List.getElem?_eq_getElem (by omega)⟩
 unfold sentN; rw [valL_take hl hp, if_neg h, hg]
 rfl
theorem sentN_all (hL : planB c L = true) : sentN c L c.lt.length = valL c.wg ofMost c.lt L := by
 unfold sentN; rw [List.take_of_length_le (Nat.le_refl _), List.take_of_length_le (by have := (planB_parts hL).1; omega)]
theorem sentN_bd (hok : okC c = true) (hL : planB c L = true) : ∀ n, n ≤ c.lt.length → 0 ≤ sentN c L n ∧ sentN c L n ≤ 20 * n
 | 0, _ => by rw [sentN_zero]; simp
 | n + 1, hn => by
  have ih := sentN_bd hok hL n (by omega)
  obtain ⟨l, hl⟩ : ∃ l, c.lt[n]? = some l := ⟨_, List.getElem?_eq_getElem (by omega)⟩
  obtain ⟨p, hp⟩ : ∃ p, L[n]? = some p := ⟨_, List.getElem?_eq_getElem (by have := (planB_parts hL).1; omega)⟩
  have hb := lotB_iff.1 ((okC_parts hok).2.2.2.2.2 l (List.mem_of_getElem? hl))
  by_cases h : p < 0
  ·rw [sentN_neg hl hp h]; omega
  ·rw [sentN_on hL hl hp h]; omega
def canN (c : ICart) : Nat → Int
 | 0 => 0
 | n + 1 => canN c n + (if staysB c n = true then 0 else match c.lt[n]? with | some l => l.bales | none => 0)
theorem canN_bd (hok : okC c = true) : ∀ n, 0 ≤ canN c n ∧ canN c n ≤ 20 * n
 | 0 => by simp [canN]
 | n + 1 => by
  have ih := canN_bd hok n; rw [canN]
  have : ∀ x : Int, 0 ≤ x ∧ x ≤ 20 → 0 ≤ canN c n + x ∧ canN c n + x ≤ 20 * ((n + 1 : Nat) : Int) := fun x hx => by omega
  apply this
  split
  ·omega
  ·cases e : c.lt[n]? with
   | none => simp
   | some l => have := lotB_iff.1 ((okC_parts hok).2.2.2.2.2 l (List.mem_of_getElem? e)); simp only; omega
theorem sent_can (hok : okC c = true) (of_ : ILot → IWag → Int) : ∀ n, n ≤ c.lt.length → sentN c (planL c.tm c.wg of_ c.lt (roomP c.wg)) n ≤ canN c n
 | 0, _ => by rw [sentN_zero]; simp [canN]
 | n + 1, hn => by
  have ih := sent_can hok of_ n (by omega)
  have hr := plan_right c.tm c.wg of_ c.lt (roomP c.wg); obtain ⟨l, hl⟩ : ∃ l, c.lt[n]? = some l := ⟨_, List.getElem?_eq_getElem (by omega)⟩
  obtain ⟨p, hp⟩ : ∃ p, (planL c.tm c.wg of_ c.lt (roomP c.wg))[n]? = some p := ⟨_, List.getElem?_eq_getElem (by have := rightL_len hr; omega)⟩
  have hb := lotB_iff.1 ((okC_parts hok).2.2.2.2.2 l (List.mem_of_getElem? hl)); rw [canN, hl]
  by_cases h : p < 0
  ·rw [sentN_neg hl hp h]
   split
   ·omega
   ·show _ ≤ canN c n + l.bales
    omega
  ·rw [sentN_on (right_plan hr) hl hp h]
   have hs : staysB c n = false := by
    unfold staysB; rw [hl]
    cases e : fitsAny c l c.wg.length
    ·exact absurd (plan_stays hok hl e hp) h
    ·simp only [e]; rfl
   rw [hs, if_neg (by simp)]
   simp only
   omega
theorem most_can (hok : okC c = true) : (onP c.tm c.wg ofMost c.lt (roomP c.wg)).1 ≤ canN c c.lt.length := by
 have h := sent_can hok ofMost c.lt.length (Nat.le_refl _); rw [sentN_all (right_plan (plan_right c.tm c.wg ofMost c.lt (roomP c.wg))), plan_val] at h; exact h
end
def beforeB : List Int → List Int → Bool
 | a :: p, b :: q => decide (a < b) || (decide (a = b) && beforeB p q)
 | _, _ => false
theorem beforeB_iff : ∀ {p q : List Int}, beforeB p q = true ↔ beforeL p q
 | a :: p, b :: q => by
  rw [beforeB, beforeL, Bool.or_eq_true, Bool.and_eq_true, decide_eq_true_iff, decide_eq_true_iff, beforeB_iff]
 | [], _ => by simp [beforeB, beforeL]
 | _ :: _, [] => by simp [beforeB, beforeL]
theorem before_ne : ∀ {n : Nat} {L M : List Int} {a b : Int}, (∀ i, i < n → L[i]? = M[i]?) → L[n]? = some a → M[n]? = some b → a ≠ b → beforeB L M = decide (a < b)
 | 0, x :: L, y :: M, a, b, _, h1, h2, hn => by
  obtain rfl : x = a := by simpa using h1
  obtain rfl : y = b := by simpa using h2
  rw [beforeB, decide_eq_false hn, Bool.false_and, Bool.or_false]
 | n + 1, x :: L, y :: M, a, b, h, h1, h2, hn => by
  obtain rfl : x = y := by simpa using h 0 (by omega)
  have ih := before_ne (n := n) (L := L) (M := M) (fun i hi => by simpa using h (i + 1) (by omega)) (by simpa using h1) (by simpa using h2) hn
  rw [beforeB, ih, decide_eq_false (Int.lt_irrefl x), decide_eq_true rfl, Bool.false_or, Bool.true_and]
 | _, [], _, _, _, _, h1, _, _ => by simp at h1
 | _, _ :: _, [], _, _, _, _, h2, _ => by simp at h2
theorem before_eq : ∀ {L M : List Int}, L.length = M.length → (∀ i, i < M.length → L[i]? = M[i]?) → beforeB L M = false
 | [], [], _, _ => rfl
 | x :: L, y :: M, hl, h => by
  obtain rfl : x = y := by simpa using h 0 (by simp)
  rw [beforeB, before_eq (by simpa using hl) (fun i hi => by simpa using h (i + 1) (by simpa using hi)), decide_eq_false (Int.lt_irrefl x), Bool.and_false]
  rfl
 | [], _ :: _, h, _ => by simp at h
 | _ :: _, [], h, _ => by simp at h
section
variable {c : ICart} {L : List Int}
theorem none_better (of_ : ILot → IWag → Int) (h : rightL c.tm c.wg c.lt L (roomP c.wg)) : valL c.wg of_ c.lt L ≤ (onP c.tm c.wg of_ c.lt (roomP c.wg)).1 ∧
  (¬ valL c.wg of_ c.lt L < (onP c.tm c.wg of_ c.lt (roomP c.wg)).1 → beforeB L (planL c.tm c.wg of_ c.lt (roomP c.wg)) = false) := by
 obtain ⟨h1, h2⟩ := plan_best c.tm c.wg of_ c.lt (roomP c.wg) L h
 refine ⟨h1, fun hn => ?_⟩
 cases e : beforeB L (planL c.tm c.wg of_ c.lt (roomP c.wg))
 ·rfl
 ·exact absurd (beforeB_iff.1 e) (h2 (by omega))
end
end Go.Proofs.YtgmfhngcehkibaaGreat
namespace Go.Proofs.YtgmfhngcehkibaaGreat
open Go.RowKit Go.Hav Go.Shelf Go.Sq
attribute [local go_sem] Oper.semAt_some
section
variable {fa la wa ta : Option Addr} {fl fc ll lc wn wc tn tc : Nat} {c : ICart}
variable {A A2 : Option Addr} {cp cp2 b1 p5 : Nat} {L M : List Int}
theorem sent40_any (hok : okC c = true) (hpb : planB c L = true) (w : World) (hP : CtIn w w.heap.size fa fl la ll wa wn ta tn c) (hb : Blk w b1 31 #[.int .i64 c.riv.depth.lo, .int .i64 c.riv.depth.hi, .int .i64 c.riv.fall.lo, .int .i64 c.riv.fall.hi, .int .i64 c.riv.days, .slice fa fl fc, .slice la ll lc, .int .i64 c.draws, .slice wa wn wc, .slice ta tn tc]) (hL : PlIn w w.heap.size A tn L) : Calls Tryz.prog 40 #[.slice A tn cp, .pointer (some ⟨b1, 0, none⟩)] w fun e w' => e = .returned (.int .i64 (sentN c L tn)) ∧ Below w.heap.size w w' := by
 have HP := Lib.hid hP; have HET := Lib.hid hP.etn; have HK := Lib.hid hb; have HPL := Lib.hid hL; have HOK := Lib.hid hok; have HPB := Lib.hid hpb; have ht5 : tn ≤ 5 := by have := (okC_parts hok).2.2.2.1; rw [HET.out] at this; exact this
 clear hP hb hL hok hpb
 go_enter Tryz.func40, Tryz.ntmps40
 go_upto_region 2 with (fail)
 go_loopw [3, 8] (fun s i wr => ∃ j : Nat, j ≤ tn ∧ i = .int .i64 j ∧ s = .int .i64 (sentN c L j) ∧ Hid (Below w.heap.size w wr)) (fun _ i _ => tn - (intOf i).toNat)
 case atStart => exact ⟨0, Nat.zero_le _, rfl, by rw [sentN_zero], Below.refl _ _⟩
 case round =>
  obtain ⟨j, hj, rfl, rfl, HBR⟩ := hrel
  by_cases hlt : j < tn
  ·obtain ⟨l, hl⟩ : ∃ l, c.lt[j]? = some l := ⟨c.lt[j]'(by have := HET.out; omega), by simp⟩
   obtain ⟨p, hp⟩ : ∃ p, L[j]? = some p := ⟨L[j]'(by have := HPL.out.len; omega), by simp⟩
   obtain ⟨ab, ao, hA, hab, A0⟩ := rd_in (HPL.out.grow HBR.out).row j p hp; subst hA; have hjt : (j : Int) < tn := by omega
   by_cases hp0 : p < 0
   ·have HN := Lib.hid (sentN_neg hl hp hp0); have hq : decide (0 ≤ p) = false := decide_eq_false (by omega)
    have hq2 : ¬ (0 ≤ p) := by omega
    clear hl hp hp0; go_wp2; go_roundw
    case rel => exact ⟨j + 1, by omega, by go_num, by rw [HN.out], HBR⟩
    case measure => simp [intOf]; omega
   ·have HN := Lib.hid (sentN_on HPB.out hl hp hp0); have hq : decide (0 ≤ p) = true := decide_eq_true (by omega)
    have hq2 : 0 ≤ p := by omega
    have hsb := sentN_bd HOK.out HPB.out j (by have := HET.out; omega)
    have hlb := lotB_iff.1 ((okC_parts HOK.out).2.2.2.2.2 l (List.mem_of_getElem? hl)); obtain ⟨bl, ol, hta, hbl, L0, L1, L2, L3, L4⟩ := rd_lt (HP.out.grow HBR.out).hlt j l hl; obtain ⟨l0, l1, l2, l3, l4⟩ := l; simp only at L0 L1 L2 L3 L4 hlb HN; obtain ⟨S, hS⟩ : ∃ S, sentN c L j = S := ⟨_, rfl⟩; rw [hS] at HN hsb ⊢; have hw : IntKind.i64.wrap (S + l1) = S + l1 := IntWalk.i64_in _ (by omega)
    have hx := HK.out.below HBR.out HK.out.lt; obtain ⟨q0, q1, q2, q3, q4, q5, q6, q7, q8, q9, ql⟩ := cx31 hx; clear hx hl hp hp0 hS hsb hlb; rw [hta] at q9; clear hta; go_wp2; go_roundw
    case rel => exact ⟨j + 1, by omega, by go_num, by rw [HN.out], HBR⟩
    case measure => simp [intOf]; omega
  ·obtain rfl : tn = j := by omega
   go_wp2; go_ret
   exact ⟨rfl, HBR.out⟩
theorem before41_any (ht5 : tn ≤ 5) (w : World) (hb : Blk w p5 32 #[.slice A2 tn cp2]) (hO : PlIn w w.heap.size A2 tn L) (hL : PlIn w w.heap.size A tn M) : Calls Tryz.prog 41 #[.slice A tn cp, .pointer (some ⟨p5, 0, none⟩)] w fun e w' => e = .returned (.bool (beforeB L M)) ∧ Below w.heap.size w w' := by
 have HK := Lib.hid hb; have HO := Lib.hid hO; have HPL := Lib.hid hL; obtain ⟨B, hB⟩ : ∃ B, beforeB L M = B := ⟨_, rfl⟩; have HB := Lib.hid hB; rw [hB]; clear hb hO hL hB
 go_enter Tryz.func41, Tryz.ntmps41
 go_upto_region 2 with (fail)
 go_loopw [7] (fun i wr => ∃ j : Nat, j ≤ tn ∧ i = .int .i64 j ∧ Hid (∀ i, i < j → L[i]? = M[i]?) ∧ Hid (Below w.heap.size w wr)) (fun i _ => tn - (intOf i).toNat)
 case atStart => exact ⟨0, Nat.zero_le _, rfl, (fun i h => by omega : Hid (∀ i, i < 0 → L[i]? = M[i]?)), Below.refl _ _⟩
 case round =>
  obtain ⟨j, hj, rfl, HEQ, HBR⟩ := hrel
  by_cases hlt : j < tn
  ·obtain ⟨a, ha⟩ : ∃ p, L[j]? = some p := ⟨L[j]'(by have := HO.out.len; omega), by simp⟩
   obtain ⟨b, hb⟩ : ∃ p, M[j]? = some p := ⟨M[j]'(by have := HPL.out.len; omega), by simp⟩
   obtain ⟨ab, ao, hA, hab, A0⟩ := rd_in (HPL.out.grow HBR.out).row j b hb; obtain ⟨ob, oo, hO, hob, O0⟩ := rd_in (HO.out.grow HBR.out).row j a ha; subst hA; subst hO; have HA := Lib.hid ha; have HB2 := Lib.hid hb; have hjt : (j : Int) < tn := by omega
   have hkb := HK.out.below HBR.out HK.out.lt; have k0 := hkb.cell 0; have kl := hkb.lt; simp at k0; clear hkb ha hb; have habw : ab < wr.heap.size := hab; have hobw : ob < wr.heap.size := hob; clear hab hob; go_upto_region 4 with (fail)
   refine wp_region_havoc [(0,false),(1,false),(2,false),(3,false),(4,false),(5,false),(6,false),(7,false),(8,false)] [] (fun _ _ => False) (by kernel_rfl) (by kernel_rfl) (fun _ _ _ _ h => h.elim) ?_
   (apply hav_same (by exact ho rfl) (by kernel_rfl); (focus (intro wv hgv _; have hcv := cvB hgv; (try go_simp); try rfl; done)); simp only [Act.put, List.setIfInBounds_toArray, List.set_cons_succ, List.set_cons_zero])
   iterate 8 (apply hav_same (by exact ho rfl) (by kernel_rfl); (focus (intro wv hgv _; have hcv := cvB hgv; (try go_simp); try rfl; done)); simp only [Act.put, List.setIfInBounds_toArray, List.set_cons_succ, List.set_cons_zero])
   refine hav_end (fun X hgX _ => ?_)
   simp only [List.filterMap]; have HBX : Hid (Below w.heap.size w X) := HBR.out.trans (Below.mono hgX HBR.out.size); have c0 : X.cell? ⟨p5, 0, none⟩ = _ := (cvB hgX _ _ kl).trans k0; have c1 : X.cell? ⟨ab, ao + j, none⟩ = _ := (cvB hgX _ _ habw).trans A0; have c2 : X.cell? ⟨ob, oo + j, none⟩ = _ := (cvB hgX _ _ hobw).trans O0; have z1 : ab < X.heap.size := Nat.lt_of_lt_of_le habw hgX.size; have z2 : ob < X.heap.size := Nat.lt_of_lt_of_le hobw hgX.size; have z3 : p5 < X.heap.size := Nat.lt_of_lt_of_le kl hgX.size; clear hgX k0 kl A0 O0 habw hobw
   by_cases he : a = b
   ·have hq : (a != b) = false := by simp [he]
    have HEQ2 : Hid (∀ i, i < j + 1 → L[i]? = M[i]?) := fun i hi => by
     by_cases e : i = j
     ·rw [e, HA.out, HB2.out, he]
     ·exact HEQ.out i (by omega)
    clear he c0 c1 c2; go_wp2; go_roundw
    case rel => exact ⟨j + 1, by omega, by go_num, HEQ2, HBX⟩
    case measure => simp [intOf]; omega
   ·have hq : (a != b) = true := by simp [he]
    have HBV : Hid (B = decide (a < b)) := by show _ = _; rw [← HB.out]; exact before_ne HEQ.out HA.out HB2.out he
    clear he; go_upto_region 5 with (fail)
    refine wp_region_havoc [(0,false),(1,false),(2,false),(3,false),(4,false),(5,false),(6,false),(7,false),(8,false),(9,false)] [] (fun _ _ => False) (by kernel_rfl) (by kernel_rfl) (fun _ _ _ _ h => h.elim) ?_
    (apply hav_same (by exact ho rfl) (by kernel_rfl); (focus (intro wv hgv _; have hcv := cvB hgv; (try go_simp); try rfl; done)); simp only [Act.put, List.setIfInBounds_toArray, List.set_cons_succ, List.set_cons_zero])
    iterate 9 (apply hav_same (by exact ho rfl) (by kernel_rfl); (focus (intro wv hgv _; have hcv := cvB hgv; (try go_simp); try rfl; done)); simp only [Act.put, List.setIfInBounds_toArray, List.set_cons_succ, List.set_cons_zero])
    refine hav_end (fun Y hgY _ => ?_)
    simp only [List.filterMap]; have HBY : Hid (Below w.heap.size w Y) := HBX.out.trans (Below.mono hgY HBX.out.size); clear hgY c0 c1 c2; go_wp2; go_ret
    exact ⟨by rw [HBV.out]; rfl, HBY.out⟩
  ·obtain rfl : tn = j := by omega
   have HBV : Hid (B = false) := by
    show _ = _; rw [← HB.out]; have h1 := HO.out.len; have h2 := HPL.out.len
    exact before_eq (by omega) (fun i hi => HEQ.out i (by omega))
   go_wp2; go_ret
   exact ⟨by rw [HBV.out]; rfl, HBR.out⟩
theorem cartMost_any {ba : Option Addr} {bn bc : Nat} {by_ : List Nat} (hbn : by_.length = bn) (h255 : ∀ x ∈ by_, x ≤ 255) (hbm : bn ≤ 9223372036854775807) (w : World) (hP : CtIn w w.heap.size fa fl la ll wa wn ta tn c) (hR : RdG byF 1 w w.heap.size ba by_) : Calls Tryz.prog 9 #[(.agg #[.int .i64 c.riv.depth.lo, .int .i64 c.riv.depth.hi, .int .i64 c.riv.fall.lo, .int .i64 c.riv.fall.hi, .int .i64 c.riv.days, .slice fa fl fc, .slice la ll lc, .int .i64 c.draws, .slice wa wn wc, .slice ta tn tc]), .slice ba bn bc] w fun e w' => e = .returned (.bool true) ∧ Below w.heap.size w w' := by
 have HP := Lib.hid hP; have HR := Lib.hid hR; have HBN := Lib.hid hbn; have HBM := Lib.hid hbm; have H255 := Lib.hid h255; have HEW := Lib.hid hP.ewn; have HET := Lib.hid hP.etn; clear hP hR hbn hbm h255; obtain ⟨W, hW⟩ : ∃ W, W = w.alloc (.cells #[.int .i64 c.riv.depth.lo, .int .i64 c.riv.depth.hi, .int .i64 c.riv.fall.lo, .int .i64 c.riv.fall.hi, .int .i64 c.riv.days, .slice fa fl fc, .slice la ll lc, .int .i64 c.draws, .slice wa wn wc, .slice ta tn tc] 31) := ⟨_, rfl⟩; obtain ⟨b1, hb1⟩ : ∃ b, b = w.heap.size := ⟨_, rfl⟩; have HK0 : Hid (Blk W b1 31 #[.int .i64 c.riv.depth.lo, .int .i64 c.riv.depth.hi, .int .i64 c.riv.fall.lo, .int .i64 c.riv.fall.hi, .int .i64 c.riv.days, .slice fa fl fc, .slice la ll lc, .int .i64 c.draws, .slice wa wn wc, .slice ta tn tc]) := by rw [hW, hb1]; exact Blk.new w 31 _
 have HB0 : Hid (Below w.heap.size w W) := by rw [hW]; exact (Below.refl _ _).alloc (Nat.le_refl _) _
 go_enter Tryz.func9, Tryz.ntmps9
 go_upto_region 1 with (fail); rw [← hW, ← hb1]; clear hW hb1; have hx := HK0.out; obtain ⟨q0, q1, q2, q3, q4, q5, q6, q7, q8, q9, ql⟩ := cx31 hx; clear hx; go_wp2_with fail; refine (fine_any (fa := fa) (fl := fl) (fc := fc) (la := la) (ll := ll) (lc := lc) (wa := wa) (wn := wn) (wc := wc) (ta := ta) (tn := tn) (tc := tc) W (HP.out.grow HB0.out)).mono ?_; rintro e v1 ⟨⟨b, rfl, hl⟩, hb⟩; have HB1 : Hid (Below w.heap.size w v1) := HB0.out.trans (hb.mono HB0.out.size); have HK1 := Lib.hid (HK0.out.below hb HK0.out.lt); clear hb; clear q0 q1 q2 q3 q4 q5 q6 q7 q8 q9 ql; have HLN := Lib.hid hl; clear hl; cases b
 case false =>
  go_wp2_with fail; refine (alive_any _).mono ?_
  rintro e v2 ⟨rfl, hb⟩; have HB2 : Hid (Below w.heap.size w v2) := HB1.out.trans (hb.mono HB1.out.size); have HK2 := Lib.hid (HK1.out.below hb HK1.out.lt); clear hb; go_wp2; go_ret
  exact ⟨rfl, HB2.out⟩
 have HV : Hid (openE c true = 0) := HLN.out rfl; have HOK : Hid (okC c = true) := (openE_true HV.out).1; have ht5 : tn ≤ 5 := by have := (okC_parts HOK.out).2.2.2.1; rw [HET.out] at this; exact this
 have hw3 : wn ≤ 3 := by have := (okC_parts HOK.out).2.2.1; rw [HEW.out] at this; exact this
 obtain ⟨L, hL⟩ : ∃ L, madeL c by_ = L := ⟨_, rfl⟩; have HPB : Hid (planB c L = true) := by rw [← hL]; exact madeL_plan c by_
 have HL := Lib.hid hL; clear hL; have HSE : Hid (stayE c = 0) := HV.out; have HSVV : Hid (stayV c = stayP c) := by show _ = _; unfold stayV; rw [if_pos HSE.out]
 obtain ⟨S, hS⟩ : ∃ S, stayP c = S := ⟨_, rfl⟩; have HS := Lib.hid hS; have HSB : Hid (S < 2 ^ tn) := by show _ < _; rw [← hS, ← HET.out]; exact setN_lt _ _
 clear hS; have HCB := Lib.hid (most_can HOK.out); obtain ⟨P1, hP1⟩ : ∃ P, planL c.tm c.wg ofMost c.lt (roomP c.wg) = P := ⟨_, rfl⟩; obtain ⟨P2, hP2⟩ : ∃ P, planL c.tm c.wg ofBest c.lt (roomP c.wg) = P := ⟨_, rfl⟩; obtain ⟨n1, hn1⟩ : ∃ n, (onP c.tm c.wg ofMost c.lt (roomP c.wg)).1 = n := ⟨_, rfl⟩; obtain ⟨n2, hn2⟩ : ∃ n, (onP c.tm c.wg ofBest c.lt (roomP c.wg)).1 = n := ⟨_, rfl⟩; have HR1 : Hid (rightL c.tm c.wg c.lt P1 (roomP c.wg)) := by rw [← hP1]; exact plan_right c.tm c.wg ofMost c.lt (roomP c.wg)
 have HR2 : Hid (rightL c.tm c.wg c.lt P2 (roomP c.wg)) := by rw [← hP2]; exact plan_right c.tm c.wg ofBest c.lt (roomP c.wg)
 have HV1 : Hid (valL c.wg ofMost c.lt P1 = n1) := by rw [← hP1, ← hn1]; exact plan_val c.tm c.wg ofMost c.lt (roomP c.wg)
 have HV2 : Hid (valL c.wg ofBest c.lt P2 = n2) := by rw [← hP2, ← hn2]; exact plan_val c.tm c.wg ofBest c.lt (roomP c.wg)
 have HNB1 := Lib.hid (fun (h : rightL c.tm c.wg c.lt L (roomP c.wg)) => none_better ofMost h)
 have HNB2 := Lib.hid (fun (h : rightL c.tm c.wg c.lt L (roomP c.wg)) => none_better ofBest h)
 rw [hP1, hn1] at HNB1; rw [hP2, hn2] at HNB2; rw [hn1, HET.out] at HCB; have HP1 := Lib.hid hP1; have HP2 := Lib.hid hP2; have HN1 := Lib.hid hn1; have HN2 := Lib.hid hn2; clear hP1 hP2 hn1 hn2; have HC1 := Lib.hid (right_all HV.out HR1.out); have HC2 := Lib.hid (right_all HV.out HR2.out); rw [HV2.out] at HC2; obtain ⟨s2, hs2⟩ : ∃ s, valL c.wg ofHigh c.lt P2 = s := ⟨_, rfl⟩; rw [hs2] at HC2; clear hs2; have HLE1 : Hid (P1.length = tn ∧ P2.length = tn) := ⟨by rw [rightL_len HR1.out, HET.out], by rw [rightL_len HR2.out, HET.out]⟩
 have hmf := hmf0; have hx := HK1.out; obtain ⟨q0, q1, q2, q3, q4, q5, q6, q7, q8, q9, ql⟩ := cx31 hx; clear hx; go_wp2_with fail; refine (made_any (fa := fa) (fl := fl) (fc := fc) (la := la) (ll := ll) (lc := lc) (wa := wa) (wn := wn) (wc := wc) (ta := ta) (tn := tn) (tc := tc) (ba := ba) (bn := bn) (bc := bc) (by_ := by_) HOK.out HBN.out HBM.out H255.out v1 (HP.out.grow HB1.out) (HR.out.grow HB1.out)).mono ?_; rw [HL.out]; rintro e v3 ⟨A, cp, rfl, hpl, hb⟩; have HB3 : Hid (Below w.heap.size w v3) := HB1.out.trans (hb.mono HB1.out.size); have HK3 := Lib.hid (HK1.out.below hb HK1.out.lt); have HPL := Lib.hid hpl; clear hb hpl; clear q0 q1 q2 q3 q4 q5 q6 q7 q8 q9 ql; obtain ⟨V4, hV4⟩ : ∃ V, V = v3.alloc (.cells #[.slice A tn cp] 32) := ⟨_, rfl⟩; obtain ⟨pXO, hpXO⟩ : ∃ q, q = v3.heap.size := ⟨_, rfl⟩; have hw : Below v3.heap.size v3 V4 := by rw [hV4]; exact (Below.refl _ _).alloc (Nat.le_refl _) _
 have XO : Hid (Blk V4 pXO 32 #[.slice A tn cp]) := by rw [hV4, hpXO]; exact Blk.new v3 32 _
 have HB4 : Hid (Below w.heap.size w V4) := HB3.out.trans (hw.mono HB3.out.size); have HK4 := Lib.hid (HK3.out.below hw HK3.out.lt); have HPL4 := Lib.hid (HPL.out.grow hw); go_upto_region 4 with (fail); rw [← hpXO, ← hV4]; clear hV4 hpXO hw; have hx := HK4.out; obtain ⟨q0, q1, q2, q3, q4, q5, q6, q7, q8, q9, ql⟩ := cx31 hx; clear hx; go_wp2_with fail; refine (PMost_any (fa := fa) (fl := fl) (fc := fc) (la := la) (ll := ll) (lc := lc) (wa := wa) (wn := wn) (wc := wc) (ta := ta) (tn := tn) (tc := tc) (w := V4) (c := c) (HP.out.grow HB4.out)).mono ?_; rintro e v5 ⟨hb, (⟨h1, -⟩ | ⟨-, g1, rfl, -, hg⟩)⟩
 ·exact absurd HSE.out h1
 rw [HN1.out]; rw [HP1.out] at hg; have HB5 : Hid (Below w.heap.size w v5) := HB4.out.trans (hb.mono HB4.out.size); have HK5 := Lib.hid (HK4.out.below hb HK4.out.lt); have XO5 := Lib.hid (XO.out.below hb XO.out.lt); have HPL5 := Lib.hid (HPL4.out.grow hb); have HG1 := Lib.hid hg; clear hb hg; clear q0 q1 q2 q3 q4 q5 q6 q7 q8 q9 ql; have hx := HK5.out; obtain ⟨q0, q1, q2, q3, q4, q5, q6, q7, q8, q9, ql⟩ := cx31 hx; clear hx; go_wp2_with fail; refine (PBest_any (fa := fa) (fl := fl) (fc := fc) (la := la) (ll := ll) (lc := lc) (wa := wa) (wn := wn) (wc := wc) (ta := ta) (tn := tn) (tc := tc) (w := v5) (c := c) (HP.out.grow HB5.out)).mono ?_; rintro e v6 ⟨hb, (⟨h1, -⟩ | ⟨-, g2, rfl, -, hg⟩)⟩
 ·exact absurd HSE.out h1
 rw [HN2.out]; rw [HP2.out] at hg; have HB6 : Hid (Below w.heap.size w v6) := HB5.out.trans (hb.mono HB5.out.size); have HK6 := Lib.hid (HK5.out.below hb HK5.out.lt); have XO6 := Lib.hid (XO5.out.below hb XO5.out.lt); have HG16 := Lib.hid (HG1.out.below hb HG1.out.lt); have HPL6 := Lib.hid (HPL5.out.grow hb); have HG2 := Lib.hid hg; clear hb hg; clear q0 q1 q2 q3 q4 q5 q6 q7 q8 q9 ql; have hx := HK6.out; obtain ⟨q0, q1, q2, q3, q4, q5, q6, q7, q8, q9, ql⟩ := cx31 hx; clear hx; go_wp2_with fail; refine (PStay_any (fa := fa) (fl := fl) (fc := fc) (la := la) (ll := ll) (lc := lc) (wa := wa) (wn := wn) (wc := wc) (ta := ta) (tn := tn) (tc := tc) (w := v6) (c := c) (HP.out.grow HB6.out)).mono ?_; rw [HSVV.out, HSE.out, HS.out]; rintro e v7 ⟨rfl, hb⟩; have HB7 : Hid (Below w.heap.size w v7) := HB6.out.trans (hb.mono HB6.out.size); have HK7 := Lib.hid (HK6.out.below hb HK6.out.lt); have XO7 := Lib.hid (XO6.out.below hb XO6.out.lt); have HG17 := Lib.hid (HG16.out.below hb HG16.out.lt); have HG27 := Lib.hid (HG2.out.below hb HG2.out.lt); have HPL7 := Lib.hid (HPL6.out.grow hb); clear hb; clear q0 q1 q2 q3 q4 q5 q6 q7 q8 q9 ql; have hx := HK7.out; obtain ⟨q0, q1, q2, q3, q4, q5, q6, q7, q8, q9, ql⟩ := cx31 hx; clear hx; go_upto_region 9 with (fail); clear q0 q1 q2 q3 q4 q5 q6 q7 q8 q9 ql; have hx := HK7.out; obtain ⟨q0, q1, q2, q3, q4, q5, q6, q7, q8, q9, ql⟩ := cx31 hx; clear hx; go_wp2_with fail
 refine (PCheck_any (fa := fa) (fl := fl) (fc := fc) (la := la) (ll := ll) (lc := lc) (wa := wa) (wn := wn) (wc := wc) (ta := ta) (tn := tn) (tc := tc) (pa := some ⟨g1, 0, none⟩) (pn := tn) (pc := tn) (ps := P1) (w := v7) (c := c) (HP.out.grow HB7.out) ⟨HLE1.out.1, ints_rd HG17.out, by omega⟩).mono ?_
 rw [HC1.out.1, HC1.out.2.1]; rintro e v8 ⟨rfl, hb⟩; have HB8 : Hid (Below w.heap.size w v8) := HB7.out.trans (hb.mono HB7.out.size); have HK8 := Lib.hid (HK7.out.below hb HK7.out.lt); have XO8 := Lib.hid (XO7.out.below hb XO7.out.lt); have HG18 := Lib.hid (HG17.out.below hb HG17.out.lt); have HG28 := Lib.hid (HG27.out.below hb HG27.out.lt); have HPL8 := Lib.hid (HPL7.out.grow hb); clear hb; clear q0 q1 q2 q3 q4 q5 q6 q7 q8 q9 ql; have hx := HK8.out; obtain ⟨q0, q1, q2, q3, q4, q5, q6, q7, q8, q9, ql⟩ := cx31 hx; clear hx; go_wp2_with fail; refine (PWorth_any (fa := fa) (fl := fl) (fc := fc) (la := la) (ll := ll) (lc := lc) (wa := wa) (wn := wn) (wc := wc) (ta := ta) (tn := tn) (tc := tc) (pa := some ⟨g2, 0, none⟩) (pn := tn) (pc := tn) (ps := P2) (w := v8) (c := c) (HP.out.grow HB8.out) ⟨HLE1.out.2, ints_rd HG28.out, by omega⟩).mono ?_
 rw [HC2.out.2.2.1, HC2.out.2.2.2]; rintro e v9 ⟨rfl, hb⟩; have HB9 : Hid (Below w.heap.size w v9) := HB8.out.trans (hb.mono HB8.out.size); have HK9 := Lib.hid (HK8.out.below hb HK8.out.lt); have XO9 := Lib.hid (XO8.out.below hb XO8.out.lt); have HG19 := Lib.hid (HG18.out.below hb HG18.out.lt); have HG29 := Lib.hid (HG28.out.below hb HG28.out.lt); have HPL9 := Lib.hid (HPL8.out.grow hb); clear hb; clear q0 q1 q2 q3 q4 q5 q6 q7 q8 q9 ql; unfold spanV; obtain ⟨V10, hV10⟩ : ∃ V, V = v9.alloc (.cells #[.int .i64 n2, .int .i64 s2] 23) := ⟨_, rfl⟩; obtain ⟨pXS, hpXS⟩ : ∃ q, q = v9.heap.size := ⟨_, rfl⟩; have hw : Below v9.heap.size v9 V10 := by rw [hV10]; exact (Below.refl _ _).alloc (Nat.le_refl _) _
 have XS : Hid (Blk V10 pXS 23 #[.int .i64 n2, .int .i64 s2]) := by rw [hV10, hpXS]; exact Blk.new v9 23 _
 have HB10 : Hid (Below w.heap.size w V10) := HB9.out.trans (hw.mono HB9.out.size); have HK10 := Lib.hid (HK9.out.below hw HK9.out.lt); have XO10 := Lib.hid (XO9.out.below hw XO9.out.lt); have HG110 := Lib.hid (HG19.out.below hw HG19.out.lt); have HG210 := Lib.hid (HG29.out.below hw HG29.out.lt); have HPL10 := Lib.hid (HPL9.out.grow hw); go_upto_region 11 with (fail); rw [← hpXS, ← hV10]; clear hV10 hpXS hw; have x0 := XS.out.cell 0; have x1 := XS.out.cell 1; have xl := XS.out.lt; simp at x0 x1; have hnn : (n2 != n2) = false := by simp
 have hx := HK10.out; obtain ⟨q0, q1, q2, q3, q4, q5, q6, q7, q8, q9, ql⟩ := cx31 hx; clear hx; go_upto_region 16 with (fail); clear q0 q1 q2 q3 q4 q5 q6 q7 q8 q9 ql; clear x0 x1 xl hnn
 go_loopw [20, 106] (fun s i wr => ∃ j : Nat, j ≤ tn ∧ i = .int .i64 j ∧ s = .int .i64 (canN c j) ∧ Hid (Below V10.heap.size V10 wr)) (fun _ i _ => tn - (intOf i).toNat)
 case atStart => exact ⟨0, Nat.zero_le _, rfl, rfl, Below.refl _ _⟩
 case round =>
  obtain ⟨j, hj, rfl, rfl, HBX⟩ := hrel; have HB41 : Hid (Below w.heap.size w wr) := HB10.out.trans (HBX.out.mono HB10.out.size); have HK41 := Lib.hid (HK10.out.below HBX.out HK10.out.lt); have XO41 := Lib.hid (XO10.out.below HBX.out XO10.out.lt); have HG141 := Lib.hid (HG110.out.below HBX.out HG110.out.lt); have HG241 := Lib.hid (HG210.out.below HBX.out HG210.out.lt); have XS41 := Lib.hid (XS.out.below HBX.out XS.out.lt); have HPL41 := Lib.hid (HPL10.out.grow HBX.out)
  by_cases hlt : j < tn
  ·obtain ⟨l, hl⟩ : ∃ l, c.lt[j]? = some l := ⟨c.lt[j]'(by have := HET.out; omega), by simp⟩
   obtain ⟨bl, ol, hta, hbl, L0, L1, L2, L3, L4⟩ := rd_lt ((HP.out.grow HB41.out)).hlt j l hl; have hjt : (j : Int) < tn := by omega
   have hd64 : (j : Int) < 64 := by omega
   have hcb := canN_bd HOK.out j; have hlb := lotB_iff.1 ((okC_parts HOK.out).2.2.2.2.2 l (List.mem_of_getElem? hl)); have hS62 : S < 4611686018427387904 := Nat.lt_of_lt_of_le HSB.out (Nat.le_trans (Nat.pow_le_pow_right (n := 2) (by omega) (show tn ≤ 10 by omega)) (by omega))
   have htb : S.testBit j = staysB c j := by rw [← HS.out]; unfold stayP; rw [tb_setN, decide_eq_true (by have := HET.out; omega), Bool.true_and]
   have hab := and_bit S j hS62; rw [htb] at hab; have HCN : Hid (canN c (j + 1) = canN c j + (if staysB c j = true then 0 else l.bales)) := by show _ = _; rw [canN, hl]
   obtain ⟨sb, hsb⟩ : ∃ sb, staysB c j = sb := ⟨_, rfl⟩; rw [hsb] at hab HCN; obtain ⟨C, hC⟩ : ∃ C, canN c j = C := ⟨_, rfl⟩; rw [hC] at HCN hcb ⊢; obtain ⟨l0, l1, l2, l3, l4⟩ := l; simp only at L0 L1 L2 L3 L4 hlb HCN; have hblw : bl < wr.heap.size := hbl; have hw1 : IntKind.i64.wrap (C + l1) = C + l1 := IntWalk.i64_in _ (by omega)
   clear hl hbl htb hsb hC hcb hlb hS62; obtain ⟨W4, hW4⟩ : ∃ W4, W4 = wr.alloc (.cells #[.int .i64 l0, .int .i64 l1, .int .i64 l2, .int .i64 l3, .int .i64 l4] 68) := ⟨_, rfl⟩; obtain ⟨b8, hb8⟩ : ∃ b, b = wr.heap.size := ⟨_, rfl⟩; have hw4 : Below wr.heap.size wr W4 := by rw [hW4]; exact (Below.refl _ _).alloc (Nat.le_refl _) _
   have HX8 : Hid (Blk W4 b8 68 #[.int .i64 l0, .int .i64 l1, .int .i64 l2, .int .i64 l3, .int .i64 l4]) := by rw [hW4, hb8]; exact Blk.new wr 68 _
   have HBX4 : Hid (Below V10.heap.size V10 W4) := HBX.out.trans (hw4.mono HBX.out.size); simp only [hta]; clear hta hw4; go_upto_region 18 with (fail); rw [← hW4, ← hb8]; clear hW4 hb8 L0 L1 L2 L3 L4 hblw; have x1 := HX8.out.cell 1; have xl := HX8.out.lt; simp at x1; cases sb
   ·simp only [Bool.false_eq_true, if_false] at hab HCN; go_wp2; go_roundw
    case rel => exact ⟨j + 1, by omega, by go_num, by rw [HCN.out], HBX4⟩
    case measure => simp [intOf]; omega
   ·simp only [if_true, Int.add_zero] at hab HCN; go_wp2; go_roundw
    case rel => exact ⟨j + 1, by omega, by go_num, by rw [HCN.out], HBX4⟩
    case measure => simp [intOf]; omega
  ·obtain rfl : tn = j := by omega
   obtain ⟨C, hC⟩ : ∃ C, canN c tn = C := ⟨_, rfl⟩; rw [hC] at HCB ⊢; clear hC; have hcan : ¬ (C < n1) := by have := HCB.out; omega
   have hcq : decide (C < n1) = false := decide_eq_false hcan; have HS1 : Hid (sentN c P1 tn = n1) := by rw [← HET.out]; show _ = _; rw [sentN_all (right_plan HR1.out)]; exact HV1.out
   have hnn : (n1 != n1) = false := by simp
   go_wp2_with fail; refine (sent40_any (fa := fa) (fl := fl) (fc := fc) (la := la) (ll := ll) (lc := lc) (wa := wa) (wn := wn) (wc := wc) (ta := ta) (tn := tn) (tc := tc) (A := some ⟨g1, 0, none⟩) (cp := tn) (b1 := b1) (L := P1) HOK.out (right_plan HR1.out) wr (HP.out.grow HB41.out) HK41.out ⟨HLE1.out.1, ints_rd HG141.out, by omega⟩).mono ?_
   rw [HS1.out]; rintro e v42 ⟨rfl, hb⟩; have HB42 : Hid (Below w.heap.size w v42) := HB41.out.trans (hb.mono HB41.out.size); have HK42 := Lib.hid (HK41.out.below hb HK41.out.lt); have XO42 := Lib.hid (XO41.out.below hb XO41.out.lt); have HG142 := Lib.hid (HG141.out.below hb HG141.out.lt); have HG242 := Lib.hid (HG241.out.below hb HG241.out.lt); have XS42 := Lib.hid (XS41.out.below hb XS41.out.lt); have HPL42 := Lib.hid (HPL41.out.grow hb); clear hb; go_upto_region 24 with (fail); clear hcan hcq hnn; have o0 := XO42.out.cell 0; have ol := XO42.out.lt; simp at o0; obtain ⟨we, hwe⟩ : ∃ x, worthE c L = x := ⟨_, rfl⟩; obtain ⟨s3, hs3⟩ : ∃ x, (worthV c L).1 = x := ⟨_, rfl⟩; obtain ⟨s4, hs4⟩ : ∃ x, (worthV c L).2 = x := ⟨_, rfl⟩; have HC : Hid (worthE c L = we ∧ (worthV c L).1 = s3 ∧ (worthV c L).2 = s4) := ⟨hwe, hs3, hs4⟩; clear hwe hs3 hs4; have hx := HK42.out; obtain ⟨q0, q1, q2, q3, q4, q5, q6, q7, q8, q9, ql⟩ := cx31 hx; clear hx; go_wp2_with fail; refine (PWorth_any (fa := fa) (fl := fl) (fc := fc) (la := la) (ll := ll) (lc := lc) (wa := wa) (wn := wn) (wc := wc) (ta := ta) (tn := tn) (tc := tc) (pa := A) (pn := tn) (pc := cp) (ps := L) (w := v42) (c := c) (HP.out.grow HB42.out) HPL42.out).mono ?_; rw [HC.out.1]; rintro e v43 ⟨rfl, hb⟩; have HB43 : Hid (Below w.heap.size w v43) := HB42.out.trans (hb.mono HB42.out.size); have HK43 := Lib.hid (HK42.out.below hb HK42.out.lt); have XO43 := Lib.hid (XO42.out.below hb XO42.out.lt)
   have HG143 := Lib.hid (HG142.out.below hb HG142.out.lt); have HG243 := Lib.hid (HG242.out.below hb HG242.out.lt); have XS43 := Lib.hid (XS42.out.below hb XS42.out.lt); have HPL43 := Lib.hid (HPL42.out.grow hb); clear hb; clear q0 q1 q2 q3 q4 q5 q6 q7 q8 q9 ql; clear o0 ol; unfold spanV; rw [HC.out.2.1, HC.out.2.2]; obtain ⟨V44, hV44⟩ : ∃ V, V = v43.alloc (.cells #[.int .i64 s3, .int .i64 s4] 23) := ⟨_, rfl⟩; obtain ⟨pXT, hpXT⟩ : ∃ q, q = v43.heap.size := ⟨_, rfl⟩; have hw : Below v43.heap.size v43 V44 := by rw [hV44]; exact (Below.refl _ _).alloc (Nat.le_refl _) _
   have XT : Hid (Blk V44 pXT 23 #[.int .i64 s3, .int .i64 s4]) := by rw [hV44, hpXT]; exact Blk.new v43 23 _
   have HB44 : Hid (Below w.heap.size w V44) := HB43.out.trans (hw.mono HB43.out.size); have HK44 := Lib.hid (HK43.out.below hw HK43.out.lt); have XO44 := Lib.hid (XO43.out.below hw XO43.out.lt); have HG144 := Lib.hid (HG143.out.below hw HG143.out.lt); have HG244 := Lib.hid (HG243.out.below hw HG243.out.lt); have XS44 := Lib.hid (XS43.out.below hw XS43.out.lt); have HPL44 := Lib.hid (HPL43.out.grow hw); go_upto_region 25 with (fail); rw [← hpXT, ← hV44]; clear hV44 hpXT hw
   by_cases hr : rightL c.tm c.wg c.lt L (roomP c.wg)
   rotate_left
   ·obtain ⟨e1, -⟩ := wrong_all HV.out HPB.out hr; have f1 := HC.out.1; rw [e1] at f1; subst f1; clear e1 hr; go_wp2_with fail; refine (alive_any _).mono ?_; rintro e v45 ⟨rfl, hb⟩; have HB45 : Hid (Below w.heap.size w v45) := HB44.out.trans (hb.mono HB44.out.size); have HK45 := Lib.hid (HK44.out.below hb HK44.out.lt); have XO45 := Lib.hid (XO44.out.below hb XO44.out.lt); have HG145 := Lib.hid (HG144.out.below hb HG144.out.lt); have HG245 := Lib.hid (HG244.out.below hb HG244.out.lt); have XS45 := Lib.hid (XS44.out.below hb XS44.out.lt); have XT45 := Lib.hid (XT.out.below hb XT.out.lt); have HPL45 := Lib.hid (HPL44.out.grow hb); clear hb; go_wp2; go_ret
    exact ⟨rfl, HB45.out⟩
   obtain ⟨-, -, e3, e4⟩ := right_all HV.out hr; have f1 := HC.out.1; have f2 := HC.out.2.1; rw [e3] at f1; rw [e4] at f2; simp only at f2; subst f1; obtain ⟨m1, m2⟩ := HNB1.out hr; obtain ⟨m3, m4⟩ := HNB2.out hr; rw [f2] at m3 m4; obtain ⟨so, hso⟩ : ∃ x, valL c.wg ofMost c.lt L = x := ⟨_, rfl⟩; rw [hso] at m1 m2; have HSO : Hid (sentN c L tn = so) := by rw [← HET.out]; show _ = _; rw [sentN_all HPB.out]; exact hso
   have HM2 := Lib.hid m2; have HM4 := Lib.hid m4; clear e3 e4 f2 m2 m4 hso hr; have o0 := XO44.out.cell 0; have ol := XO44.out.lt; simp at o0; go_wp2_with fail; refine (sent40_any (fa := fa) (fl := fl) (fc := fc) (la := la) (ll := ll) (lc := lc) (wa := wa) (wn := wn) (wc := wc) (ta := ta) (tn := tn) (tc := tc) (A := A) (cp := cp) (b1 := b1) (L := L) HOK.out HPB.out V44 (HP.out.grow HB44.out) HK44.out HPL44.out).mono ?_; rw [HSO.out]; rintro e v46 ⟨rfl, hb⟩; have HB46 : Hid (Below w.heap.size w v46) := HB44.out.trans (hb.mono HB44.out.size); have HK46 := Lib.hid (HK44.out.below hb HK44.out.lt); have XO46 := Lib.hid (XO44.out.below hb XO44.out.lt); have HG146 := Lib.hid (HG144.out.below hb HG144.out.lt); have HG246 := Lib.hid (HG244.out.below hb HG244.out.lt); have XS46 := Lib.hid (XS44.out.below hb XS44.out.lt); have XT46 := Lib.hid (XT.out.below hb XT.out.lt); have HPL46 := Lib.hid (HPL44.out.grow hb); clear hb; clear o0 ol; have m1q : decide (so ≤ n1) = true := decide_eq_true m1; have m3q : decide (s3 ≤ n2) = true := decide_eq_true m3; have t0 := XT46.out.cell 0; have t1 := XT46.out.cell 1; have tl := XT46.out.lt; simp at t0 t1
   by_cases m5 : so < n1
   ·have m5q : decide (so < n1) = true := decide_eq_true m5
    by_cases m6 : s3 < n2
    ·have m6q : decide (s3 < n2) = true := decide_eq_true m6; go_wp2_with fail; refine (alive_any _).mono ?_; rintro e v47 ⟨rfl, hb⟩; have HB47 : Hid (Below w.heap.size w v47) := HB46.out.trans (hb.mono HB46.out.size); have HK47 := Lib.hid (HK46.out.below hb HK46.out.lt); have XO47 := Lib.hid (XO46.out.below hb XO46.out.lt); have HG147 := Lib.hid (HG146.out.below hb HG146.out.lt); have HG247 := Lib.hid (HG246.out.below hb HG246.out.lt); have XS47 := Lib.hid (XS46.out.below hb XS46.out.lt); have XT47 := Lib.hid (XT46.out.below hb XT46.out.lt); have HPL47 := Lib.hid (HPL46.out.grow hb); clear hb; clear t0 t1 tl; go_wp2; go_ret
     exact ⟨rfl, HB47.out⟩
    ·have m6q : decide (s3 < n2) = false := decide_eq_false m6; have HBF2 := Lib.hid (HM4.out (by omega))
     go_wp2_with fail; refine (before41_any (tn := tn) (A := some ⟨g2, 0, none⟩) (A2 := A) (cp := tn) (cp2 := cp) (p5 := pXO) (L := L) (M := P2) ht5 v46 XO46.out HPL46.out ⟨HLE1.out.2, ints_rd HG246.out, by omega⟩).mono ?_
     rw [HBF2.out]; rintro e v48 ⟨rfl, hb⟩; clear t0 t1 tl; have HB48 : Hid (Below w.heap.size w v48) := HB46.out.trans (hb.mono HB46.out.size); have HK48 := Lib.hid (HK46.out.below hb HK46.out.lt); have XO48 := Lib.hid (XO46.out.below hb XO46.out.lt); have HG148 := Lib.hid (HG146.out.below hb HG146.out.lt); have HG248 := Lib.hid (HG246.out.below hb HG246.out.lt); have XS48 := Lib.hid (XS46.out.below hb XS46.out.lt); have XT48 := Lib.hid (XT46.out.below hb XT46.out.lt); have HPL48 := Lib.hid (HPL46.out.grow hb); clear hb; have t0 := XT48.out.cell 0; have t1 := XT48.out.cell 1; have tl := XT48.out.lt; simp at t0 t1; go_wp2_with fail; refine (alive_any _).mono ?_; rintro e v49 ⟨rfl, hb⟩; have HB49 : Hid (Below w.heap.size w v49) := HB48.out.trans (hb.mono HB48.out.size); have HK49 := Lib.hid (HK48.out.below hb HK48.out.lt); have XO49 := Lib.hid (XO48.out.below hb XO48.out.lt); have HG149 := Lib.hid (HG148.out.below hb HG148.out.lt); have HG249 := Lib.hid (HG248.out.below hb HG248.out.lt); have XS49 := Lib.hid (XS48.out.below hb XS48.out.lt); have XT49 := Lib.hid (XT48.out.below hb XT48.out.lt); have HPL49 := Lib.hid (HPL48.out.grow hb); clear hb; clear t0 t1 tl; go_wp2; go_ret
     exact ⟨rfl, HB49.out⟩
   ·have m5q : decide (so < n1) = false := decide_eq_false m5; have HBF1 := Lib.hid (HM2.out (by omega))
    by_cases m6 : s3 < n2
    ·have m6q : decide (s3 < n2) = true := decide_eq_true m6; go_wp2_with fail; refine (before41_any (tn := tn) (A := some ⟨g1, 0, none⟩) (A2 := A) (cp := tn) (cp2 := cp) (p5 := pXO) (L := L) (M := P1) ht5 v46 XO46.out HPL46.out ⟨HLE1.out.1, ints_rd HG146.out, by omega⟩).mono ?_
     rw [HBF1.out]; rintro e v50 ⟨rfl, hb⟩; clear t0 t1 tl; have HB50 : Hid (Below w.heap.size w v50) := HB46.out.trans (hb.mono HB46.out.size); have HK50 := Lib.hid (HK46.out.below hb HK46.out.lt); have XO50 := Lib.hid (XO46.out.below hb XO46.out.lt); have HG150 := Lib.hid (HG146.out.below hb HG146.out.lt); have HG250 := Lib.hid (HG246.out.below hb HG246.out.lt); have XS50 := Lib.hid (XS46.out.below hb XS46.out.lt); have XT50 := Lib.hid (XT46.out.below hb XT46.out.lt); have HPL50 := Lib.hid (HPL46.out.grow hb); clear hb; have t0 := XT50.out.cell 0; have t1 := XT50.out.cell 1; have tl := XT50.out.lt; simp at t0 t1; go_wp2_with fail; refine (alive_any _).mono ?_; rintro e v51 ⟨rfl, hb⟩; have HB51 : Hid (Below w.heap.size w v51) := HB50.out.trans (hb.mono HB50.out.size); have HK51 := Lib.hid (HK50.out.below hb HK50.out.lt); have XO51 := Lib.hid (XO50.out.below hb XO50.out.lt); have HG151 := Lib.hid (HG150.out.below hb HG150.out.lt); have HG251 := Lib.hid (HG250.out.below hb HG250.out.lt); have XS51 := Lib.hid (XS50.out.below hb XS50.out.lt); have XT51 := Lib.hid (XT50.out.below hb XT50.out.lt); have HPL51 := Lib.hid (HPL50.out.grow hb); clear hb; clear t0 t1 tl; go_wp2; go_ret
     exact ⟨rfl, HB51.out⟩
    ·have m6q : decide (s3 < n2) = false := decide_eq_false m6; have HBF2 := Lib.hid (HM4.out (by omega))
     go_wp2_with fail; refine (before41_any (tn := tn) (A := some ⟨g1, 0, none⟩) (A2 := A) (cp := tn) (cp2 := cp) (p5 := pXO) (L := L) (M := P1) ht5 v46 XO46.out HPL46.out ⟨HLE1.out.1, ints_rd HG146.out, by omega⟩).mono ?_
     rw [HBF1.out]; rintro e v52 ⟨rfl, hb⟩; clear t0 t1 tl; have HB52 : Hid (Below w.heap.size w v52) := HB46.out.trans (hb.mono HB46.out.size); have HK52 := Lib.hid (HK46.out.below hb HK46.out.lt); have XO52 := Lib.hid (XO46.out.below hb XO46.out.lt); have HG152 := Lib.hid (HG146.out.below hb HG146.out.lt); have HG252 := Lib.hid (HG246.out.below hb HG246.out.lt); have XS52 := Lib.hid (XS46.out.below hb XS46.out.lt); have XT52 := Lib.hid (XT46.out.below hb XT46.out.lt); have HPL52 := Lib.hid (HPL46.out.grow hb); clear hb; have t0 := XT52.out.cell 0; have t1 := XT52.out.cell 1; have tl := XT52.out.lt; simp at t0 t1; go_wp2_with fail; refine (before41_any (tn := tn) (A := some ⟨g2, 0, none⟩) (A2 := A) (cp := tn) (cp2 := cp) (p5 := pXO) (L := L) (M := P2) ht5 v52 XO52.out HPL52.out ⟨HLE1.out.2, ints_rd HG252.out, by omega⟩).mono ?_
     rw [HBF2.out]; rintro e v53 ⟨rfl, hb⟩; clear t0 t1 tl; have HB53 : Hid (Below w.heap.size w v53) := HB52.out.trans (hb.mono HB52.out.size); have HK53 := Lib.hid (HK52.out.below hb HK52.out.lt); have XO53 := Lib.hid (XO52.out.below hb XO52.out.lt); have HG153 := Lib.hid (HG152.out.below hb HG152.out.lt); have HG253 := Lib.hid (HG252.out.below hb HG252.out.lt); have XS53 := Lib.hid (XS52.out.below hb XS52.out.lt); have XT53 := Lib.hid (XT52.out.below hb XT52.out.lt); have HPL53 := Lib.hid (HPL52.out.grow hb); clear hb; have t0 := XT53.out.cell 0; have t1 := XT53.out.cell 1; have tl := XT53.out.lt; simp at t0 t1; go_wp2_with fail; refine (alive_any _).mono ?_; rintro e v54 ⟨rfl, hb⟩; have HB54 : Hid (Below w.heap.size w v54) := HB53.out.trans (hb.mono HB53.out.size); have HK54 := Lib.hid (HK53.out.below hb HK53.out.lt); have XO54 := Lib.hid (XO53.out.below hb XO53.out.lt); have HG154 := Lib.hid (HG153.out.below hb HG153.out.lt); have HG254 := Lib.hid (HG253.out.below hb HG253.out.lt); have XS54 := Lib.hid (XS53.out.below hb XS53.out.lt); have XT54 := Lib.hid (XT53.out.below hb XT53.out.lt); have HPL54 := Lib.hid (HPL53.out.grow hb); clear hb; clear t0 t1 tl; go_wp2; go_ret
     exact ⟨rfl, HB54.out⟩
end
end Go.Proofs.YtgmfhngcehkibaaGreat
namespace Go.Proofs.YtgmfhngcehkibaaGreat
open Go.ChangeShapes Go.WideShapes Go.ChangeAt Go.RowKit
theorem cartMost_lifted (os : Os) (started : os.Started) (H : Type) (enc : TypeId × Value → H) :
  ReturnsInHanded {} Tryz.checked os 9 .any (Rows.cartMostSpec.pre6 enc Tryz.prog Tryz.f9 Rows.cartMostRow.domain false) (Rows.cartMostSpec.post enc Tryz.prog Tryz.f9 false true false false) := by
 refine returnsInHanded_of_change (C := Tryz.checked) rowOwn started (by kernel_rfl) Tryz.func9
  (ChangeSpec.witness6 (enc := enc) (C := Tryz.checked) false ⟨#[], #[(.agg #[.int .i64 0, .int .i64 0, .int .i64 0, .int .i64 0, .int .i64 0, .slice none 0 0, .slice none 0 0, .int .i64 0, .slice none 0 0, .slice none 0 0]), .slice none 0 0], []⟩ 8 (by kernel_rfl) (by kernel_rfl) (by kernel_rfl) (by kernel_rfl)) ?_
 intro W base args ds gs before hval0 hW _ _; have hval : ∀ (j : Nat) t v, Tryz.f9.params[j]? = some t → args[j]? = some v → Value.okWide Tryz.prog W .any base t v := hval0; have hW' := hW; obtain ⟨p, q, hA0, hV, rfl, hfz, hnd⟩ := hW
 have hA : DataW.TrodAll enc Tryz.prog W 0 (fun _ => true) true Tryz.f9.params.toList args.toList ds p := hA0
 rw [Tryz.params9] at hA hval; obtain ⟨v0, vs0, d0, ds0, p0, q0, hargs, rfl, rfl, h0, r0⟩ := trodAll_cons hA; obtain ⟨v1, vs1, d1, ds1, p1, q1, rfl, rfl, rfl, h1, r1⟩ := trodAll_cons r0; obtain ⟨rfl, rfl, rfl⟩ := trodAll_nil r1; obtain rfl : args = #[v0, v1] := by cases args; simp_all
 obtain ⟨rfl, rfl⟩ := trodVars_none hV; have k0 := h0; have lt0 : ∀ x ∈ p0, x.block < W.heap.size := by obtain ⟨m, hm⟩ := k0; exact DataW.trod_lt m _ _ _ hm
 obtain ⟨fa, la, wa, ta, fl, fc, ll, lc, wn, wc, tn, tc, P, rfl, hP⟩ := open_cart (hval 0 31 v0 rfl rfl) h0; have k1 := h1; have lt1 : ∀ x ∈ p1, x.block < W.heap.size := by obtain ⟨m, hm⟩ := k1; exact DataW.trod_lt m _ _ _ hm
 obtain ⟨A1, al1, ac1, U1, rfl, e1, g1, m1, u1⟩ := open_u8s (hval 1 53 v1 rfl rfl) h1; clear hA0 hval0; simp only [List.append_nil] at hW'
 refine (cartMost_any e1 g1 m1 W hP u1).mono fun e W' ⟨he, bel⟩ => ?_
 subst he
 exact ⟨_, rfl, _, _, _, [], _, [], hW', trodAll_mk1 (shut_bool Tryz.underlying4 _), (trodAll_cons_mk (Below.trod rowLaidOut (by kernel_rfl) (of_decide_eq_true (by kernel_rfl)) k0 bel lt0) (trodAll_cons_mk (Below.trod rowLaidOut (by kernel_rfl) (of_decide_eq_true (by kernel_rfl)) k1 bel lt1) trodAll_mk0)), rfl, bel.frame _, fun h => by cases h⟩
theorem cartMost_holds : Rows.CartMostSaid :=
 OpenClaim.holds_of_wide 9 Tryz.f9 rfl rfl rfl rfl rfl rfl rfl ⟨rfl, rfl, rfl, rfl, rfl⟩ rfl rfl rfl rfl rfl (by kernel_rfl) Tryz.func9 (by kernel_rfl)
  (of_decide_eq_true (by kernel_rfl)) (by unfold Func.isWrapper; first | (rw [if_pos (by decide +kernel)]; kernel_rfl) | (rw [if_neg (by decide +kernel)]; exact ⟨rfl, rfl⟩))
  (fun os started H enc _ => cartMost_lifted os started H enc)
#print axioms cartMost_holds
end Go.Proofs.YtgmfhngcehkibaaGreat
