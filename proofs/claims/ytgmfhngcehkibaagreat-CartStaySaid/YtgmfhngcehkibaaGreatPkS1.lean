/- Rows of one's own, and rows of numbers. The carts, in plain Lean: what is valid; which wagons are in time; which rule a lot breaks; the best plan, and all plans. The carts: the plan that is returned is the first of all right ones that are worth the most. The reference of the carts: check, timely, times. The reference's rule and plans, and how they agree with what the program reckons. Which plans are right; which lots are sent by one. A cart that comes in: what its value is, and that it reads as a cart. CartTimes: a wagon is in time as its days are; a boat that draws less is in time no less. Which lots stay, as plain Lean: a lot that is sent alone; bales are sent if one is. CartStay: a lot stays just if by itself it is on no wagon. CartStay: the step from the walk to the row, the row. Condition: what the statements say. -/
import Derived.Test.YtgmfhngcehkibaaGreatPkB22
import Derived.Orders
import Derived.Below
import Derived.Test.YtgmfhngcehkibaaGreatProg
import Derived.WalkKit
import Derived.WalkSpells
import Derived.WalkLawsBesides
import Derived.Lib.Hide
import Derived.OneCell
import Derived.Laws.AppendOwn
import Derived.Laws.OwnMore
import Derived.Laws.Bits64b
import Derived.Deep.LoopGhost
import Derived.Deep.QuietTactic
import Derived.BigQuiet
import Derived.RegionTactic
import Derived.BigRegion
import Derived.Deep.DeepCutAuto
import Derived.RangeFuncNested
import Derived.RangeFuncBound
import Derived.RangeFuncCalls
import Derived.RangeFuncLeaves
import Derived.RangeFuncWrites
import Derived.Shelf.Abstract
import Derived.OwnWalkIn
import Derived.TacticsInMore
import Derived.LoopNIn
import Derived.LoopIn
import Derived.OrdersIn
import Derived.TacticsIn
import Derived.ControlIn
import Derived.Scope
import Derived.Laws.BitsAllLaws
import Derived.WalkSmall
import Derived.Laws.EntriesVeiled
import Derived.Maps.Own
import Derived.Maps.OwnSet
import Derived.Maps.Range
import Derived.Maps.AppendAt
import Derived.OwnWalk
import Derived.DeepKeys4
import Derived.Outline
import Derived.Deep.CutBlock
import Derived.BigGuard
import Derived.Tactics
import Derived.Tactics2
import Derived.Defers
import Derived.Recover
import Derived.Laws.Pointers
import Derived.Laws.MakeOwn
import Derived.Laws.CopyOwn
import Derived.Deep.AppendLies
import Derived.Laws.CopyRow
import Derived.ProofKit
import Derived.LaidMore
import Derived.OpenShut
import Derived.Stop.Joined
import Derived.Deep.Slices
import Derived.Carry
import Derived.Test.YtgmfhngcehkibaaGreatRows
import Derived.ChangeOld
set_option maxRecDepth 100000
set_option maxHeartbeats 6400000
namespace Go.Proofs.YtgmfhngcehkibaaGreat
open Go.RowKit Go.Hav
theorem flat_one {α : Type} (e : α → Value) (L : List α) : L.flatMap (fun x => [e x]) = L.map e := by
 induction L with
 | nil => rfl
 | cons x L ih => rw [List.flatMap_cons, ih]; rfl
def Rows {α : Type} (e : α → Value) (t : TypeId) (w : World) (xs : List Value) (Ls : List (List α)) : Prop :=
 xs.length = Ls.length ∧ ∀ (j : Nat) (L : List α), Ls[j]? = some L → ∃ A c, L.length ≤ c ∧ xs[j]? = some (Value.slice A L.length c) ∧ RowN e t w A L
end Go.Proofs.YtgmfhngcehkibaaGreat
namespace Go.Proofs.YtgmfhngcehkibaaGreat
section
variable (tm : IWag → Nat) (ws : List IWag)
section
variable (of_ : ILot → IWag → Int)
def plansN (on : Rm → List (List Int)) (l : ILot) (R : Rm) : Nat → List (List Int)
 | 0 => []
 | n + 1 => plansN on l R n ++ (if fitsW tm ws l n R then (on (takeR R n l.bales)).map ((n : Int) :: ·) else [])
def plansL : List ILot → Rm → List (List Int)
 | [], _ => [[]]
 | l :: ls, R => (plansL ls R).map (-1 :: ·) ++ plansN tm ws (plansL ls) l R ws.length
def valL : List ILot → List Int → Int
 | l :: ls, p :: ps => (if p < 0 then 0 else match ws[p.toNat]? with | some w => of_ l w | none => 0) + valL ls ps
 | _, _ => 0
end
end
section
variable (tm : IWag → Nat) (ws : List IWag) (of_ : ILot → IWag → Int)
theorem valL_no (l : ILot) (ls : List ILot) (q : List Int) : valL ws of_ (l :: ls) (-1 :: q) = 0 + valL ws of_ ls q := by rw [valL, if_pos (by omega)]
theorem valL_on (l : ILot) (ls : List ILot) {n : Nat} {w : IWag} (hw : ws[n]? = some w) (q : List Int) : valL ws of_ (l :: ls) ((n : Int) :: q) = of_ l w + valL ws of_ ls q := by
 rw [valL, if_neg (by omega), Int.toNat_natCast, hw]
theorem plan_val : ∀ (ls : List ILot) (R : Rm), valL ws of_ ls (planL tm ws of_ ls R) = (onP tm ws of_ ls R).1
 | [], _ => rfl
 | l :: ls, R => by
  rw [planL_cons]; have h := (onP_is tm ws of_ l ls R).is; rw [← onP_best] at h; rcases h with ⟨h1, h2⟩ | ⟨i, w, hi, hw, hf, h1, h2⟩
  ·rw [h1, valL_no, plan_val ls, h2]; unfold nextR; rw [if_neg (by omega)]
   omega
  ·rw [h1, valL_on ws of_ l ls hw, plan_val ls, h2]; unfold nextR; rw [if_pos (by omega), Int.toNat_natCast]
def rightL : List ILot → List Int → Rm → Prop
 | [], ps, _ => ps = []
 | l :: ls, ps, R => ∃ p q, ps = p :: q ∧ ((p = -1 ∧ rightL ls q R) ∨ ∃ i : Nat, p = i ∧ fitsW tm ws l i R = true ∧ rightL ls q (takeR R i l.bales))
def beforeL : List Int → List Int → Prop
 | a :: p, b :: q => a < b ∨ (a = b ∧ beforeL p q)
 | _, _ => False
theorem fitsW_is {l : ILot} {i : Nat} {R : Rm} (h : fitsW tm ws l i R = true) : ∃ w, ws[i]? = some w ∧ brokenW (tm w) l w (R i) = 0 := by
 unfold fitsW at h
 split at h
 ·rename_i w hw; exact ⟨w, hw, by simpa using h⟩
 ·cases h
theorem plan_best : ∀ (ls : List ILot) (R : Rm) (ps : List Int), rightL tm ws ls ps R → valL ws of_ ls ps ≤ (onP tm ws of_ ls R).1 ∧ (valL ws of_ ls ps = (onP tm ws of_ ls R).1 → ¬ beforeL ps (planL tm ws of_ ls R))
 | [], R, ps, h => by obtain rfl : ps = [] := h; exact ⟨Int.le_refl _, fun _ hb => hb⟩
 | l :: ls, R, ps, h => by
  obtain ⟨p, q, rfl, h⟩ := h; have B := onP_is tm ws of_ l ls R; rcases h with ⟨rfl, hr⟩ | ⟨i, rfl, hf, hr⟩
  ·obtain ⟨i1, i2⟩ := plan_best ls R q hr; have b1 := B.no; rw [← onP_best] at b1; rw [valL_no]
   refine ⟨by omega, fun e => ?_⟩
   have b2 := B.no_eq; rw [← onP_best] at b2; have b3 := b2 (by omega)
   rw [planL_cons, b3]; rintro (hb | ⟨-, hb⟩)
   ·omega
   ·refine i2 (by omega) ?_
    unfold nextR at hb; rw [if_neg (by omega)] at hb
    exact hb
  ·obtain ⟨w, hw, hb0⟩ := fitsW_is tm ws hf; have hi : i < ws.length := (List.getElem?_eq_some_iff.1 hw).1; obtain ⟨i1, i2⟩ := plan_best ls _ q hr; have b1 := B.on i w hi hw hb0; rw [← onP_best] at b1; rw [valL_on ws of_ l ls hw]
   refine ⟨by omega, fun e => ?_⟩
   have b2 := B.on_eq i w hi hw hb0; rw [← onP_best] at b2; have b3 := b2 (by omega)
   rw [planL_cons]; rintro (hb | ⟨he, hb⟩)
   ·omega
   ·refine i2 (by omega) ?_
    rw [← he] at hb; unfold nextR at hb; rw [if_pos (by omega), Int.toNat_natCast] at hb
    exact hb
theorem plan_right : ∀ (ls : List ILot) (R : Rm), rightL tm ws ls (planL tm ws of_ ls R) R
 | [], _ => rfl
 | l :: ls, R => by
  rw [planL_cons]; have h := (onP_is tm ws of_ l ls R).is; rw [← onP_best] at h; refine ⟨_, _, rfl, ?_⟩; rcases h with ⟨h1, h2⟩ | ⟨i, w, hi, hw, hf, h1, h2⟩
  ·refine .inl ⟨h1, ?_⟩; rw [h1]; unfold nextR; rw [if_neg (by omega)]
   exact plan_right ls R
  ·refine .inr ⟨i, h1, by rw [fitsW_some tm ws hw, hf]; rfl, ?_⟩
   rw [h1]; unfold nextR; rw [if_pos (by omega), Int.toNat_natCast]
   exact plan_right ls _
end
end Go.Proofs.YtgmfhngcehkibaaGreat
namespace Go.Proofs.YtgmfhngcehkibaaGreat
open Go.RowKit Go.Hav Go.Shelf Go.Sq
attribute [local go_sem] Oper.semAt_some
section
variable {fa la wa ta : Option Addr} {fl fc ll lc wn wc tn tc : Nat} {c : ICart}
variable {w : World}
theorem openE_true (h : openE c true = 0) : okC c = true ∧ truthsA c.riv.nat ≠ [] := by
 obtain ⟨h1, -, h3⟩ := openE_zero h; exact ⟨h1, by unfold hasT at h3; simpa using h3⟩
end
end Go.Proofs.YtgmfhngcehkibaaGreat
namespace Go.Proofs.YtgmfhngcehkibaaGreat
section
variable {tm : IWag → Nat} {ws : List IWag}
theorem plansN_mem {on : Rm → List (List Int)} {l : ILot} {R : Rm} {q : List Int} : ∀ {n : Nat}, q ∈ plansN tm ws on l R n ↔ ∃ i, i < n ∧ fitsW tm ws l i R = true ∧ ∃ r ∈ on (takeR R i l.bales), q = (i : Int) :: r
 | 0 => by simp [plansN]
 | n + 1 => by
  rw [plansN, List.mem_append, plansN_mem (n := n)]; constructor
  ·rintro (⟨i, h1, h2⟩ | h)
   ·exact ⟨i, by omega, h2⟩
   ·split at h
    ·rename_i hf
     obtain ⟨r, hr, rfl⟩ := List.mem_map.1 h; exact ⟨n, by omega, hf, r, hr, rfl⟩
    ·cases h
  ·rintro ⟨i, h1, hf, r, hr, rfl⟩
   by_cases e : i = n
   ·subst e; exact .inr (by rw [if_pos hf]; exact List.mem_map.2 ⟨r, hr, rfl⟩)
   ·exact .inl ⟨i, by omega, hf, r, hr, rfl⟩
theorem fitsW_lt {l : ILot} {i : Nat} {R : Rm} (h : fitsW tm ws l i R = true) : i < ws.length := by
 obtain ⟨w, hw, _⟩ := fitsW_is tm ws h; exact (List.getElem?_eq_some_iff.1 hw).1
theorem plansL_mem : ∀ {ls : List ILot} {R : Rm} {q : List Int}, q ∈ plansL tm ws ls R ↔ rightL tm ws ls q R
 | [], R, q => by simp [plansL, rightL]
 | l :: ls, R, q => by
  rw [plansL, List.mem_append, plansN_mem]; unfold rightL; constructor
  ·rintro (h | ⟨i, h1, hf, r, hr, rfl⟩)
   ·obtain ⟨r, hr, rfl⟩ := List.mem_map.1 h; exact ⟨-1, r, rfl, .inl ⟨rfl, plansL_mem.1 hr⟩⟩
   ·exact ⟨i, r, rfl, .inr ⟨i, rfl, hf, plansL_mem.1 hr⟩⟩
  ·rintro ⟨p, r, rfl, ⟨rfl, hr⟩ | ⟨i, rfl, hf, hr⟩⟩
   ·exact .inl (List.mem_map.2 ⟨r, plansL_mem.2 hr, rfl⟩)
   ·exact .inr ⟨i, fitsW_lt hf, hf, r, plansL_mem.2 hr, rfl⟩
end
section
variable {tm : IWag → Nat} {ws : List IWag}
theorem checkL_none : ∀ {ls : List ILot} {ps : List Int} {R : Rm} {k : Nat}, ps.length = ls.length → (∀ p ∈ ps, p = -1 ∨ (0 ≤ p ∧ p < ws.length)) → (checkL tm ws k ls ps R = none ↔ rightL tm ws ls ps R)
 | [], [], R, k, _, _ => by simp [checkL, rightL]
 | [], _ :: _, _, _, h, _ => by simp at h
 | _ :: _, [], _, _, h, _ => by simp at h
 | l :: ls, p :: ps, R, k, hlen, hp => by
  have hp' : ∀ q ∈ ps, q = -1 ∨ (0 ≤ q ∧ q < ws.length) := fun q hq => hp q (List.mem_cons_of_mem _ hq)
  have hl' : ps.length = ls.length := by simpa using hlen
  rw [checkL]; unfold rightL; rcases hp p List.mem_cons_self with rfl | ⟨h0, h1⟩
  ·rw [if_pos (by omega), checkL_none hl' hp']
   refine ⟨fun h => ⟨-1, ps, rfl, .inl ⟨rfl, h⟩⟩, ?_⟩
   rintro ⟨p', q', e, ⟨-, h⟩ | ⟨i, e2, -⟩⟩
   ·cases e; exact h
   ·cases e; omega
  ·obtain ⟨i, rfl⟩ : ∃ i : Nat, p = i := ⟨p.toNat, by omega⟩
   obtain ⟨g, hg⟩ : ∃ g, ws[i]? = some g := ⟨_, List.getElem?_eq_getElem (by omega)⟩
   rw [if_neg (by omega), Int.toNat_natCast, hg]
   simp only
   by_cases a : brokenW (tm g) l g (R i) = 0
   ·rw [if_pos a, checkL_none hl' hp']
    refine ⟨fun h => ⟨i, ps, rfl, .inr ⟨i, rfl, by rw [fitsW_some tm ws hg, a]; rfl, h⟩⟩, ?_⟩
    rintro ⟨p', q', e, ⟨e2, -⟩ | ⟨j, e2, -, h⟩⟩
    ·cases e; omega
    ·cases e; obtain rfl : i = j := by omega
     exact h
   ·rw [if_neg a]
    refine ⟨fun h => (by cases h), ?_⟩
    rintro ⟨p', q', e, ⟨e2, -⟩ | ⟨j, e2, hf, -⟩⟩
    ·cases e; omega
    ·cases e; obtain rfl : i = j := by omega
     rw [fitsW_some tm ws hg] at hf; exact absurd (by simpa using hf) a
theorem rightL_len : ∀ {ls : List ILot} {q : List Int} {R : Rm}, rightL tm ws ls q R → q.length = ls.length
 | [], _, _, h => by unfold rightL at h; rw [h]; rfl
 | l :: ls, q, R, h => by
  obtain ⟨p, r, rfl, ⟨-, hr⟩ | ⟨i, -, -, hr⟩⟩ := h
  ·simp [rightL_len hr]
  ·simp [rightL_len hr]
theorem fitsW_iff {l : ILot} {i : Nat} {R : Rm} : fitsW tm ws l i R = true ↔ ∃ g, ws[i]? = some g ∧ l.from_ ≤ g.leaves ∧ l.bales ≤ R i ∧ tm g = 2 := by
 constructor
 ·intro h; obtain ⟨g, hg, hb⟩ := fitsW_is tm ws h; exact ⟨g, hg, brokenW_zero.1 hb⟩
 ·rintro ⟨g, hg, hb⟩; rw [fitsW_some tm ws hg, brokenW_zero.2 hb]
  rfl
theorem fits_mono {l : ILot} {i : Nat} {R R' : Rm} (h : fitsW tm ws l i R = true) (hr : R i ≤ R' i) : fitsW tm ws l i R' = true := by
 obtain ⟨g, hg, h1, h2, h3⟩ := fitsW_iff.1 h; exact fitsW_iff.2 ⟨g, hg, h1, by omega, h3⟩
theorem sent_fits : ∀ {ls : List ILot} {q : List Int} {R : Rm} {i : Nat} {l : ILot} {p : Int}, (∀ l ∈ ls, 0 ≤ l.bales) → rightL tm ws ls q R → ls[i]? = some l → q[i]? = some p → 0 ≤ p → fitsW tm ws l p.toNat R = true
 | [], _, _, _, _, _, _, _, h, _, _ => by simp at h
 | m :: ls, q, R, i, l, p, hb, h, hl, hq, hp => by
  obtain ⟨p0, r, rfl, h⟩ := h
  cases i with
  | zero =>
   simp at hl hq; subst hl hq; rcases h with ⟨e, -⟩ | ⟨j, rfl, hf, -⟩
   ·omega
   ·simpa using hf
  | succ i =>
   simp only [List.getElem?_cons_succ] at hl hq
   have hb' : ∀ l ∈ ls, 0 ≤ l.bales := fun l h => hb l (List.mem_cons_of_mem _ h)
   rcases h with ⟨-, hr⟩ | ⟨j, -, -, hr⟩
   ·exact sent_fits hb' hr hl hq hp
   ·refine fits_mono (sent_fits hb' hr hl hq hp) ?_; unfold takeR; have := hb m List.mem_cons_self
    split <;> omega
theorem right_none : ∀ (ls : List ILot) (R : Rm), rightL tm ws ls (List.replicate ls.length (-1)) R
 | [], _ => rfl
 | _ :: ls, R => ⟨-1, List.replicate ls.length (-1), rfl, .inl ⟨rfl, right_none ls R⟩⟩
theorem right_alone : ∀ {ls : List ILot} {R : Rm} {i k : Nat} {l : ILot}, ls[i]? = some l → (rightL tm ws ls ((List.replicate ls.length (-1)).set i (k : Int)) R ↔ fitsW tm ws l k R = true)
 | [], _, _, _, _, h => by simp at h
 | m :: ls, R, i, k, l, h => by
  rw [List.length_cons, List.replicate_succ]
  cases i with
  | zero =>
   simp at h; subst h; rw [List.set_cons_zero]; unfold rightL; constructor
   ·rintro ⟨p, q, e, ⟨e2, -⟩ | ⟨j, e2, hf, -⟩⟩
    ·cases e; omega
    ·cases e; obtain rfl : k = j := by omega
     exact hf
   ·intro hf; exact ⟨k, _, rfl, .inr ⟨k, rfl, hf, right_none ls _⟩⟩
  | succ i =>
   simp only [List.getElem?_cons_succ] at h; rw [List.set_cons_succ]; unfold rightL; constructor
   ·rintro ⟨p, q, e, ⟨e2, hr⟩ | ⟨j, e2, hf, -⟩⟩
    ·cases e; exact (right_alone h).1 hr
    ·cases e; omega
   ·intro hf; exact ⟨-1, _, rfl, .inl ⟨rfl, (right_alone h).2 hf⟩⟩
theorem alone_at {ls : List ILot} {i k : Nat} (hi : i < ls.length) : ((List.replicate ls.length (-1)).set i (k : Int))[i]? = some (k : Int) := by
 rw [List.getElem?_set_self (by simpa using hi)]
theorem sent_iff {ls : List ILot} {R : Rm} (hb : ∀ l ∈ ls, 0 ≤ l.bales) {i : Nat} {l : ILot} (hl : ls[i]? = some l) :
  (∃ q ∈ plansL tm ws ls R, ∃ p, q[i]? = some p ∧ 0 ≤ p) ↔ ∃ k, fitsW tm ws l k R = true := by
 constructor
 ·rintro ⟨q, hq, p, hp, h0⟩; exact ⟨_, sent_fits hb (plansL_mem.1 hq) hl hp h0⟩
 ·rintro ⟨k, hf⟩; exact ⟨_, plansL_mem.2 ((right_alone hl).2 hf), k, alone_at (List.getElem?_eq_some_iff.1 hl).1, by omega⟩
end
end Go.Proofs.YtgmfhngcehkibaaGreat
namespace Go.Proofs.YtgmfhngcehkibaaGreat
open Go.RowKit Go.Hav Go.ChangeShapes Go.WideShapes Go.Deep
theorem list_of {α : Type} (P : Nat → α → Prop) : ∀ n : Nat, (∀ i, i < n → ∃ x, P i x) → ∃ l : List α, l.length = n ∧ ∀ i x, l[i]? = some x → P i x := by
 intro n
 induction n with
 | zero => intro _; exact ⟨[], rfl, fun i x h => by simp at h⟩
 | succ n ih =>
  intro h
  obtain ⟨l, hl, hp⟩ := ih (fun i hi => h i (by omega))
  obtain ⟨x, hx⟩ := h n (by omega)
  refine ⟨l ++ [x], by simp [hl], fun i y hy => ?_⟩
  rcases Nat.lt_or_ge i n with hi | hi
  ·rw [List.getElem?_append_left (by omega)] at hy
   exact hp i y hy
  ·rw [List.getElem?_append_right (by omega)] at hy
   by_cases e : i = n
   ·subst e; rw [hl, Nat.sub_self] at hy; obtain rfl : x = y := by simpa using hy
    exact hx
   ·rw [hl, List.getElem?_eq_none (by simp; omega)] at hy
    cases hy
section
variable {H : Type} {enc : TypeId × Value → H} {W : World} {base : Nat} {spare : Nat → Bool} {held : Bool}
theorem open_rows {t e : TypeId} {fuel sz : Nat} {c : Value} {x : DataW H × List MemPlace} (ht : Tryz.prog.underlying t = some (.slice e)) (hc : Tryz.prog.cellsOf e = sz) (h0 : 0 < sz) (h : DataW.trod enc Tryz.prog W base spare held fuel t [c] = some x) :
  ∃ (A : Option Addr) (len cap : Nat), c = .slice A len cap ∧ len ≤ maxLen ∧ ∀ i, i < len → ∃ (b off n : Nat) (cs : List Value) (y : DataW H × List MemPlace), A = some ⟨b, off, none⟩ ∧ cs.length = sz ∧ (∀ j v, cs[j]? = some v → W.cell? ⟨b, off + (i * sz + j), none⟩ = some v) ∧ DataW.trod enc Tryz.prog W base spare held n e cs = some y := by
 rcases open_slice ht h with ⟨e1, _⟩ | ⟨a, len, cap, m, n, D, Pl, e1, _, hl, hm, hmm, _, hi⟩
 ·obtain rfl : c = .slice none 0 0 := by simpa using e1
  exact ⟨none, 0, 0, rfl, Nat.zero_le _, fun i hi => by omega⟩
 ·obtain rfl : c = .slice (some a) len cap := by simpa using e1
  refine ⟨some a, len, cap, rfl, Nat.le_trans hl hm, fun i hlt => ?_⟩
  obtain ⟨cs, hcs, ht⟩ := hi i (by rw [hmm]; split <;> omega)
  rw [hc] at hcs; obtain ⟨_, hlen, hat⟩ := World.cells?_some hcs
  -- the address has no spot
  obtain ⟨cs0, hcs0, _⟩ := hi 0 (by rw [hmm]; split <;> omega)
  rw [hc, Nat.zero_mul] at hcs0; obtain ⟨_, hlen0, hat0⟩ := World.cells?_some hcs0; have h00 := hat0 0 h0; rw [List.getElem?_eq_getElem (by omega)] at h00
  have hs : a.spot = none := by
   have := World.cell?_spot h00
   simpa [Addr.add] using this
  obtain ⟨b, off, spot⟩ := a; simp only at hs; subst hs
  refine ⟨b, off, n, cs, _, rfl, hlen, fun j v hv => ?_, ht⟩
  have hj : j < sz := by rw [← hlen]; exact (List.getElem?_eq_some_iff.1 hv).1
  have h1 := hat j hj; rw [hv] at h1; rw [← h1]
  congr 1
  unfold Addr.add
  split <;> split <;> simp_all <;> omega
theorem one_int {n : Nat} {cs : List Value} {y : DataW H × List MemPlace} (h : DataW.trod enc Tryz.prog W base spare held n 3 cs = some y) : ∃ a, cs = [.int .i64 a] := by
 obtain ⟨a, e, _⟩ := DataW.trod_int Tryz.underlying3 h; exact ⟨a, e⟩
theorem two_ints {n : Nat} {cs : List Value} {y : DataW H × List MemPlace} (h : DataW.trod enc Tryz.prog W base spare held n 23 cs = some y) : ∃ a b, cs = [.int .i64 a, .int .i64 b] := by
 have c3 : Tryz.prog.cellsOf 3 = 1 := by kernel_rfl
 have c23 : Tryz.prog.cellsOf 23 = 2 := by kernel_rfl
 obtain ⟨xs, m, _, _, hlen, hx, hf⟩ := DataW.trod_struct Tryz.underlying23 h; rw [c23] at hlen
 match cs, hlen with
 | [u, v], _ =>
  match xs, hx with
  | [x0, x1], _ =>
   obtain ⟨a, ha⟩ := one_int (hf 0 _ rfl); obtain ⟨b, hb⟩ := one_int (hf 1 _ rfl)
   simp [c3] at ha hb
   exact ⟨a, b, by rw [ha, hb]⟩
theorem fr_cells {n : Nat} {cs : List Value} {y : DataW H × List MemPlace} (h : DataW.trod enc Tryz.prog W base spare held n 59 cs = some y) : ∃ c : IFr, cs = frI c := by
 have c23 : Tryz.prog.cellsOf 23 = 2 := by kernel_rfl
 have c59 : Tryz.prog.cellsOf 59 = 4 := by kernel_rfl
 obtain ⟨xs, m, _, _, hlen, hx, hf⟩ := DataW.trod_struct Tryz.underlying59 h; rw [c59] at hlen
 match cs, hlen with
 | [u0, u1, u2, u3], _ =>
  match xs, hx with
  | [x0, x1], _ =>
   obtain ⟨c, d, hcd⟩ := two_ints (hf 0 _ rfl); obtain ⟨a, b, hab⟩ := two_ints (hf 1 _ rfl)
   simp [c23] at hab hcd
   exact ⟨⟨⟨c, d⟩, ⟨a, b⟩⟩, by simp [frI, hab, hcd]⟩
theorem lk_cells {n : Nat} {cs : List Value} {y : DataW H × List MemPlace} (h : DataW.trod enc Tryz.prog W base spare held n 61 cs = some y) : ∃ c : ILk, cs = lkI c := by
 have c3 : Tryz.prog.cellsOf 3 = 1 := by kernel_rfl
 have c23 : Tryz.prog.cellsOf 23 = 2 := by kernel_rfl
 have c61 : Tryz.prog.cellsOf 61 = 3 := by kernel_rfl
 obtain ⟨xs, m, _, _, hlen, hx, hf⟩ := DataW.trod_struct Tryz.underlying61 h; rw [c61] at hlen
 match cs, hlen with
 | [u0, u1, u2], _ =>
  match xs, hx with
  | [x0, x1], _ =>
   obtain ⟨a, ha⟩ := one_int (hf 0 _ rfl); obtain ⟨c, d, hcd⟩ := two_ints (hf 1 _ rfl)
   simp [c3, c23] at ha hcd
   exact ⟨⟨a, ⟨c, d⟩⟩, by simp [lkI, ha, hcd]⟩
theorem rows_list {α : Type} {f : α → List Value} {A : Option Addr} {len sz : Nat} {e : TypeId} (he : ∀ (n : Nat) (cs : List Value) (y : DataW H × List MemPlace), DataW.trod enc Tryz.prog W base spare held n e cs = some y → ∃ x, cs = f x) (hf0 : ∀ x, 0 < (f x).length)
  (h : ∀ i, i < len → ∃ (b off n : Nat) (cs : List Value) (y : DataW H × List MemPlace), A = some ⟨b, off, none⟩ ∧ cs.length = sz ∧ (∀ j v, cs[j]? = some v → W.cell? ⟨b, off + (i * sz + j), none⟩ = some v) ∧ DataW.trod enc Tryz.prog W base spare held n e cs = some y) :
  ∃ l : List α, l.length = len ∧ RdG f sz W W.heap.size A l := by
 obtain ⟨l, hl, hp⟩ := list_of (fun i x => ∃ b off, A = some ⟨b, off, none⟩ ∧ b < W.heap.size ∧ ∀ j u, (f x)[j]? = some u → W.cell? ⟨b, off + (i * sz + j), none⟩ = some u) len (fun i hi => by
  obtain ⟨b, off, n, cs, y, e1, _, hc, ht⟩ := h i hi; obtain ⟨x, rfl⟩ := he n cs y ht; refine ⟨x, b, off, e1, ?_, hc⟩; have h0 := hc 0 _ (List.getElem?_eq_getElem (hf0 x)); rcases Nat.lt_or_ge b W.heap.size with hlt | hge
  ·exact hlt
  ·unfold World.cell? at h0
   simp [Array.getElem?_eq_none hge] at h0)
 exact ⟨l, hl, fun k x hx => hp k x hx⟩
theorem wg_cells {n : Nat} {cs : List Value} {y : DataW H × List MemPlace} (h : DataW.trod enc Tryz.prog W base spare held n 65 cs = some y) : ∃ c : IWag, cs = wgI c := by
 have c3 : Tryz.prog.cellsOf 3 = 1 := by kernel_rfl
 have c23 : Tryz.prog.cellsOf 23 = 2 := by kernel_rfl
 have c65 : Tryz.prog.cellsOf 65 = 4 := by kernel_rfl
 obtain ⟨xs, m, _, _, hlen, hx, hf⟩ := DataW.trod_struct Tryz.underlying65 h; rw [c65] at hlen
 match cs, hlen with
 | [u0, u1, u2, u3], _ =>
  match xs, hx with
  | [x0, x1, x2], _ =>
   obtain ⟨a, ha⟩ := one_int (hf 0 _ rfl); obtain ⟨b, d, hb⟩ := two_ints (hf 1 _ rfl); obtain ⟨e, he⟩ := one_int (hf 2 _ rfl)
   simp [c3, c23] at ha hb he
   exact ⟨⟨a, ⟨b, d⟩, e⟩, by simp [wgI, ha, hb, he]⟩
theorem lt_cells {n : Nat} {cs : List Value} {y : DataW H × List MemPlace} (h : DataW.trod enc Tryz.prog W base spare held n 68 cs = some y) : ∃ c : ILot, cs = ltI c := by
 have c3 : Tryz.prog.cellsOf 3 = 1 := by kernel_rfl
 have c68 : Tryz.prog.cellsOf 68 = 5 := by kernel_rfl
 obtain ⟨xs, m, _, _, hlen, hx, hf⟩ := DataW.trod_struct Tryz.underlying68 h; rw [c68] at hlen
 match cs, hlen with
 | [u0, u1, u2, u3, u4], _ =>
  match xs, hx with
  | [x0, x1, x2, x3, x4], _ =>
   obtain ⟨a0, h0⟩ := one_int (hf 0 _ rfl); obtain ⟨a1, h1⟩ := one_int (hf 1 _ rfl); obtain ⟨a2, h2⟩ := one_int (hf 2 _ rfl); obtain ⟨a3, h3⟩ := one_int (hf 3 _ rfl); obtain ⟨a4, h4⟩ := one_int (hf 4 _ rfl)
   simp [c3] at h0 h1 h2 h3 h4
   exact ⟨⟨a0, a1, a2, a3, a4⟩, by simp [ltI, h0, h1, h2, h3, h4]⟩
theorem riv_cells {n : Nat} {u0 u1 u2 u3 u4 u5 u6 : Value} {y : DataW H × List MemPlace} (h : DataW.trod enc Tryz.prog W base spare held n 27 [u0, u1, u2, u3, u4, u5, u6] = some y) :
  ∃ (fa la : Option Addr) (fl fc ll lc : Nat) (q : IRiv), [u0, u1, u2, u3, u4, u5, u6] = [.int .i64 q.depth.lo, .int .i64 q.depth.hi, .int .i64 q.fall.lo, .int .i64 q.fall.hi, .int .i64 q.days, .slice fa fl fc, .slice la ll lc] ∧ RvIn W W.heap.size fa fl la ll q := by
 have c3 : Tryz.prog.cellsOf 3 = 1 := by kernel_rfl
 have c23 : Tryz.prog.cellsOf 23 = 2 := by kernel_rfl
 have c24 : Tryz.prog.cellsOf 24 = 1 := by kernel_rfl
 have c25 : Tryz.prog.cellsOf 25 = 1 := by kernel_rfl
 obtain ⟨xs, m, _, _, _, hx, hg⟩ := DataW.trod_struct Tryz.underlying27 h
 match xs, hx with
 | [x0, x1, x2, x3, x4], _ =>
  have g0 := hg 0 _ rfl; have g1 := hg 1 _ rfl; have g2 := hg 2 _ rfl; have g3 := hg 3 _ rfl; have g4 := hg 4 _ rfl
  simp [c3, c23, c24, c25] at g0 g1 g2 g3 g4
  obtain ⟨d0, d1, e0⟩ := two_ints g0; obtain ⟨f0, f1, e1⟩ := two_ints g1; obtain ⟨days, e2⟩ := one_int g2; obtain ⟨rfl, rfl⟩ : u0 = .int .i64 d0 ∧ u1 = .int .i64 d1 := by simpa using e0
  obtain ⟨rfl, rfl⟩ : u2 = .int .i64 f0 ∧ u3 = .int .i64 f1 := by simpa using e1
  obtain rfl : u4 = .int .i64 days := by simpa using e2
  obtain ⟨fa, fl, fc, rfl, m0, h0⟩ := open_rows (sz := 4) Tryz.underlying24 (by kernel_rfl) (by decide) g3
  obtain ⟨la, ll, lc, rfl, m4, h4⟩ := open_rows (sz := 3) Tryz.underlying25 (by kernel_rfl) (by decide) g4
  obtain ⟨frs, k0, r0⟩ := rows_list (f := frI) (fun n cs y h => fr_cells h) (fun x => by simp [frI]) h0
  obtain ⟨lks, k4, r4⟩ := rows_list (f := lkI) (fun n cs y h => lk_cells h) (fun x => by simp [lkI]) h4
  unfold maxLen at m0 m4; exact ⟨fa, la, fl, fc, ll, lc, ⟨⟨d0, d1⟩, ⟨f0, f1⟩, days, frs, lks⟩, rfl, k0, k4, r0, r4, by omega, by omega⟩
theorem open_cart {r : Reach} {b0 : Nat} {v : Value} {d : DataW H} {p : List MemPlace} (hv : Value.okWide Tryz.prog W r b0 31 v) (h : DataW.Trod enc Tryz.prog W base spare held 31 v d p) :
  ∃ (fa la wa ta : Option Addr) (fl fc ll lc wn wc tn tc : Nat) (c : ICart), v = (.agg #[.int .i64 c.riv.depth.lo, .int .i64 c.riv.depth.hi, .int .i64 c.riv.fall.lo, .int .i64 c.riv.fall.hi, .int .i64 c.riv.days, .slice fa fl fc, .slice la ll lc, .int .i64 c.draws, .slice wa wn wc, .slice ta tn tc]) ∧ CtIn W W.heap.size fa fl la ll wa wn ta tn c := by
 have c3 : Tryz.prog.cellsOf 3 = 1 := by kernel_rfl
 have c27 : Tryz.prog.cellsOf 27 = 7 := by kernel_rfl
 have c28 : Tryz.prog.cellsOf 28 = 1 := by kernel_rfl
 have c29 : Tryz.prog.cellsOf 29 = 1 := by kernel_rfl
 have c31 : Tryz.prog.cellsOf 31 = 10 := by kernel_rfl
 obtain ⟨cs, rfl, hsz⟩ := okWide_struct Tryz.underlying31 hv; rw [c31] at hsz; obtain ⟨l⟩ := cs
 match l, hsz with
 | [u0, u1, u2, u3, u4, u5, u6, u7, u8, u9], _ =>
  obtain ⟨fuel, hf⟩ := h; obtain ⟨xs, m, _, _, _, hx, hg⟩ := DataW.trod_struct Tryz.underlying31 hf
  match xs, hx with
  | [x0, x1, x2, x3], _ =>
   have g0 := hg 0 _ rfl; have g1 := hg 1 _ rfl; have g2 := hg 2 _ rfl; have g3 := hg 3 _ rfl
   simp [Value.cells, c3, c27, c28, c29] at g0 g1 g2 g3
   obtain ⟨fa, la, fl, fc, ll, lc, q, e0, hR⟩ := riv_cells g0; obtain ⟨dr, e1⟩ := one_int g1; obtain rfl : u7 = .int .i64 dr := by simpa using e1
   obtain ⟨wa, wn, wc, rfl, m2, h2⟩ := open_rows (sz := 4) Tryz.underlying28 (by kernel_rfl) (by decide) g2
   obtain ⟨ta, tn, tc, rfl, m3, h3⟩ := open_rows (sz := 5) Tryz.underlying29 (by kernel_rfl) (by decide) g3
   obtain ⟨wgs, k2, r2⟩ := rows_list (f := wgI) (fun n cs y h => wg_cells h) (fun x => by simp [wgI]) h2
   obtain ⟨lts, k3, r3⟩ := rows_list (f := ltI) (fun n cs y h => lt_cells h) (fun x => by simp [ltI]) h3
   obtain ⟨rfl, rfl, rfl, rfl, rfl, rfl, rfl⟩ : u0 = .int .i64 q.depth.lo ∧ u1 = .int .i64 q.depth.hi ∧ u2 = .int .i64 q.fall.lo ∧ u3 = .int .i64 q.fall.hi ∧ u4 = .int .i64 q.days ∧ u5 = .slice fa fl fc ∧ u6 = .slice la ll lc := by simpa using e0
   unfold maxLen at m2 m3; exact ⟨fa, la, wa, ta, fl, fc, ll, lc, wn, wc, tn, tc, ⟨q, dr, wgs, lts⟩, rfl, hR, k2, k3, r2, r3, by omega, by omega⟩
end
theorem rowOwn : ownKnob Tryz.prog.godebug = none := by kernel_rfl
theorem rowLaidOut : laidOutB Tryz.prog = true := by kernel_rfl
end Go.Proofs.YtgmfhngcehkibaaGreat
namespace Go.Proofs.YtgmfhngcehkibaaGreat
open Go.RowKit Go.Hav Go.Shelf Go.Sq
attribute [local go_sem] Oper.semAt_some
theorem bit_val (S d : Nat) (hS : S < 4611686018427387904) {x : Bool} (hx : S.testBit d = x) : ∃ v, bits BinOp.and IntKind.i64 ((S : Int) / 2 ^ d) 1 = v ∧ (v == 1) = x := by
 refine ⟨_, and_one _ (.inr rfl) S d (by omega), ?_⟩
 rw [hx]
 cases x <;> rfl
theorem ints_rd {w : World} {q : Nat} {l : List Int} (h : Blk w q 3 (intsA l)) : RdG inI 1 w w.heap.size (some ⟨q, 0, none⟩) l := by
 refine RdG.of_blk (f := inI) (sz := 1) (t := 3) (fun _ => rfl) ?_ h.lt
 have e : (l.flatMap inI).toArray = intsA l := by
  unfold intsA
  congr 1
  exact flat_one (fun x => Value.int .i64 x) l
 rw [e]; exact h
end Go.Proofs.YtgmfhngcehkibaaGreat
namespace Go.Proofs.YtgmfhngcehkibaaGreat
section
variable {c : ICart}
theorem fits_lt {l : ILot} : ∀ n, fitsAny c l n = true ↔ ∃ k, k < n ∧ fitsW c.tm c.wg l k (roomP c.wg) = true
 | 0 => by simp [fitsAny]
 | n + 1 => by
  rw [fitsAny, Bool.or_eq_true, fits_lt n]; constructor
  ·rintro (⟨k, h, hf⟩ | h)
   ·exact ⟨k, by omega, hf⟩
   ·exact ⟨n, by omega, h⟩
  ·rintro ⟨k, h, hf⟩
   by_cases he : k = n
   ·subst he; exact .inr hf
   ·exact .inl ⟨k, by omega, hf⟩
theorem fits_some {l : ILot} : fitsAny c l c.wg.length = true ↔ ∃ k, fitsW c.tm c.wg l k (roomP c.wg) = true :=
 (fits_lt _).trans ⟨fun ⟨k, _, h⟩ => ⟨k, h⟩, fun ⟨k, h⟩ => ⟨k, fitsW_lt h, h⟩⟩
theorem lot_pos (hok : okC c = true) : ∀ l ∈ c.lt, 1 ≤ l.bales := fun l hl => (lotB_iff.1 ((okC_parts hok).2.2.2.2.2 l hl)).2.2.1
theorem lot_nn (hok : okC c = true) : ∀ l ∈ c.lt, 0 ≤ l.bales := fun l hl => by have := lot_pos hok l hl; omega
theorem check_pos : ∀ {ls : List ILot} {ps : List Int} {R : Rm} {k : Nat} {v : Nat × Nat}, checkL c.tm c.wg k ls ps R = some v → v.2 ≠ 0
 | [], _, _, _, _, h => by simp [checkL] at h
 | _ :: _, [], _, _, _, h => by simp [checkL] at h
 | l :: ls, p :: ps, R, k, v, h => by
  rw [checkL] at h
  repeat' split at h
  all_goals first | exact check_pos h | (cases h; assumption) | (cases h; done)
theorem alone_plan {i k : Nat} (hk : k < c.wg.length) : planB c ((List.replicate c.lt.length (-1)).set i (k : Int)) = true := by
 unfold planB; rw [List.length_set, List.length_replicate, decide_eq_true rfl, Bool.true_and, List.all_eq_true]; intro p hp; rcases List.mem_or_eq_of_mem_set hp with h | h
 ·obtain rfl := List.eq_of_mem_replicate h
  rfl
 ·subst h; rw [Bool.or_eq_true]; exact .inr (inB_iff.2 (by omega))
theorem alone_check {i k : Nat} {l : ILot} {g : IWag} (hv : openE c true = 0) (hl : c.lt[i]? = some l) (hg : c.wg[k]? = some g) :
  checkE c ((List.replicate c.lt.length (-1)).set i (k : Int)) = 4 ↔ fitsW c.tm c.wg l k (roomP c.wg) = true := by
 have hk : k < c.wg.length := (List.getElem?_eq_some_iff.1 hg).1; have hp := alone_plan (c := c) (i := i) hk; unfold checkE; rw [hp, if_pos hv, ← right_alone (R := roomP c.wg) hl, ← checkL_none (k := 0) (planB_parts hp).1 (planB_parts hp).2]; unfold checkV
 cases e : checkL c.tm c.wg 0 c.lt ((List.replicate c.lt.length (-1)).set i (k : Int)) (roomP c.wg) with
 | none => simp
 | some v => simp [check_pos e]
theorem fits_at {l : ILot} {k : Nat} {g : IWag} (hg : c.wg[k]? = some g) : fitsW c.tm c.wg l k (roomP c.wg) = true ↔ c.tm g = 2 ∧ l.from_ ≤ g.leaves ∧ l.bales ≤ g.room := by
 rw [fitsW_iff]; have hr : roomP c.wg k = g.room := by unfold roomP; rw [hg]
 rw [hr]; constructor
 ·rintro ⟨g', h, a, b, d⟩; rw [hg] at h; cases h
  exact ⟨d, a, b⟩
 ·rintro ⟨d, a, b⟩; exact ⟨g, hg, a, b, d⟩
theorem plan_stays {of_ : ILot → IWag → Int} (hok : okC c = true) {i : Nat} {l : ILot} (hl : c.lt[i]? = some l) (h : fitsAny c l c.wg.length = false) {p : Int} (hp : (planL c.tm c.wg of_ c.lt (roomP c.wg))[i]? = some p) : p < 0 := by
 by_cases h0 : 0 ≤ p
 ·have := fits_some.2 ((sent_iff (R := roomP c.wg) (lot_nn hok) hl).1 ⟨_, plansL_mem.2 (plan_right c.tm c.wg of_ c.lt (roomP c.wg)), p, hp, h0⟩); rw [h] at this; cases this
 ·omega
theorem valL_none {of_ : ILot → IWag → Int} {ws : List IWag} : ∀ {ls : List ILot} {q : List Int}, (∀ p ∈ q, p < 0) → valL ws of_ ls q = 0
 | [], _, _ => by simp [valL]
 | _ :: _, [], _ => by simp [valL]
 | l :: ls, p :: q, h => by
  rw [valL, if_pos (h p List.mem_cons_self), valL_none (fun x hx => h x (List.mem_cons_of_mem _ hx))]
  rfl
theorem valL_alone {ws : List IWag} : ∀ {ls : List ILot} {i k : Nat} {l : ILot} {g : IWag}, ls[i]? = some l → ws[k]? = some g → valL ws ofMost ls ((List.replicate ls.length (-1)).set i (k : Int)) = l.bales
 | [], _, _, _, _, h, _ => by simp at h
 | m :: ls, i, k, l, g, h, hg => by
  rw [List.length_cons, List.replicate_succ]
  cases i with
  | zero =>
   simp at h; subst h
   rw [List.set_cons_zero, valL_on _ _ _ _ hg, valL_none (fun p hp => by rw [List.eq_of_mem_replicate hp]; omega)]
   show m.bales + 0 = _
   omega
  | succ i =>
   rw [List.set_cons_succ, valL_no, valL_alone (by simpa using h) hg]
   omega
theorem some_sent (hok : okC c = true) : 0 < (onP c.tm c.wg ofMost c.lt (roomP c.wg)).1 ↔ ∃ (i : Nat) (l : ILot), c.lt[i]? = some l ∧ fitsAny c l c.wg.length = true := by
 constructor
 ·intro h
  by_cases hn : ∃ (i : Nat) (l : ILot), c.lt[i]? = some l ∧ fitsAny c l c.wg.length = true
  ·exact hn
  exfalso
  rw [← plan_val, valL_none] at h
  ·omega
  ·intro p hp; obtain ⟨i, hi, he⟩ := List.getElem_of_mem hp; have hlen := rightL_len (plan_right c.tm c.wg ofMost c.lt (roomP c.wg)); obtain ⟨l, hl⟩ : ∃ l, c.lt[i]? = some l := ⟨c.lt[i]'(by omega), by simp⟩
   refine plan_stays (c := c) (of_ := ofMost) (i := i) (l := l) hok hl ?_ (by rw [← he]; exact List.getElem?_eq_getElem hi)
   cases e : fitsAny c l c.wg.length
   ·rfl
   ·exact (hn ⟨i, l, hl, e⟩).elim
 ·rintro ⟨i, l, hl, hf⟩; obtain ⟨k, hk⟩ := fits_some.1 hf; obtain ⟨g, hg, -⟩ := fitsW_iff.1 hk; have hb := (plan_best c.tm c.wg ofMost c.lt (roomP c.wg) _ ((right_alone hl).2 hk)).1; rw [valL_alone hl hg] at hb; have := lot_pos hok l (List.mem_of_getElem? hl)
  omega
end
end Go.Proofs.YtgmfhngcehkibaaGreat
namespace Go.Proofs.YtgmfhngcehkibaaGreat
open Go.RowKit Go.Hav Go.Shelf Go.Sq
attribute [local go_sem] Oper.semAt_some
def anyN (f : Nat → Bool) : Nat → Bool
 | 0 => false
 | n + 1 => anyN f n || f n
theorem anyN_iff {f : Nat → Bool} : ∀ n, anyN f n = true ↔ ∃ i, i < n ∧ f i = true
 | 0 => by simp [anyN]
 | n + 1 => by
  rw [anyN, Bool.or_eq_true, anyN_iff n]; constructor
  ·rintro (⟨k, h, hf⟩ | h)
   ·exact ⟨k, by omega, hf⟩
   ·exact ⟨n, by omega, h⟩
  ·rintro ⟨k, h, hf⟩
   by_cases he : k = n
   ·subst he; exact .inr hf
   ·exact .inl ⟨k, by omega, hf⟩
theorem some_stays {c : ICart} (hok : okC c = true) {tn : Nat} (ht : c.lt.length = tn) : anyN (fun i => !staysB c i) tn = decide (0 < (onP c.tm c.wg ofMost c.lt (roomP c.wg)).1) := by
 refine Bool.eq_iff_iff.2 ?_; rw [decide_eq_true_iff, some_sent hok, anyN_iff]; constructor
 ·rintro ⟨i, hi, h⟩; obtain ⟨l, hl⟩ : ∃ l, c.lt[i]? = some l := ⟨c.lt[i]'(by omega), by simp⟩
  refine ⟨i, l, hl, ?_⟩; unfold staysB at h; rw [hl] at h
  simpa using h
 ·rintro ⟨i, l, hl, h⟩; refine ⟨i, by have := (List.getElem?_eq_some_iff.1 hl).1; omega, ?_⟩
  unfold staysB; rw [hl]
  simpa using h
def fillL (n j : Nat) : List Int := List.replicate j (-1) ++ List.replicate (n - j) 0
theorem fill_at {n j : Nat} (h : j < n) : (intsA (fillL n j))[j]? = some (.int .i64 0) := by
 unfold intsA fillL; rw [List.getElem?_toArray, List.getElem?_map, List.getElem?_append_right (by simp), List.length_replicate, Nat.sub_self, List.getElem?_replicate, if_pos (by omega)]
 rfl
theorem fill_set {n j : Nat} (h : j < n) : (intsA (fillL n j)).setIfInBounds j (.int .i64 (-1)) = intsA (fillL n (j + 1)) := by
 unfold intsA fillL; rw [List.setIfInBounds_toArray]
 congr 1
 obtain ⟨k, hk⟩ : ∃ k, n - j = k + 1 := ⟨n - j - 1, by omega⟩
 rw [hk, show n - (j + 1) = k by omega, List.replicate_succ, List.map_append, List.map_cons, List.set_append_right _ _ (by simp), List.length_map, List.length_replicate, Nat.sub_self, List.set_cons_zero, List.replicate_succ', List.append_assoc, List.map_append]
 rfl
theorem fill_end {n i : Nat} (h : i < n) : (intsA (fillL n n))[i]? = some (.int .i64 (-1)) := by
 unfold intsA fillL; rw [List.getElem?_toArray, List.getElem?_map, List.getElem?_append_left (by simpa using h), List.getElem?_replicate, if_pos h]
 rfl
theorem alone_set {n i : Nat} {m : Int} : (intsA (fillL n n)).setIfInBounds i (.int .i64 m) = intsA ((List.replicate n (-1)).set i m) := by
 unfold intsA fillL; rw [List.setIfInBounds_toArray, Nat.sub_self, List.replicate_zero, List.append_nil, ← List.map_set]
section
variable {fa la wa ta : Option Addr} {fl fc ll lc wn wc tn tc : Nat} {c : ICart}
theorem cartStay_any (w : World) (hP : CtIn w w.heap.size fa fl la ll wa wn ta tn c) : Calls Tryz.prog 10 #[(.agg #[.int .i64 c.riv.depth.lo, .int .i64 c.riv.depth.hi, .int .i64 c.riv.fall.lo, .int .i64 c.riv.fall.hi, .int .i64 c.riv.days, .slice fa fl fc, .slice la ll lc, .int .i64 c.draws, .slice wa wn wc, .slice ta tn tc])] w fun e w' => e = .returned (.bool true) ∧ Below w.heap.size w w' := by
 have HP := Lib.hid hP; have HEW := Lib.hid hP.ewn; have HET := Lib.hid hP.etn; clear hP; obtain ⟨W, hW⟩ : ∃ W, W = w.alloc (.cells #[.int .i64 c.riv.depth.lo, .int .i64 c.riv.depth.hi, .int .i64 c.riv.fall.lo, .int .i64 c.riv.fall.hi, .int .i64 c.riv.days, .slice fa fl fc, .slice la ll lc, .int .i64 c.draws, .slice wa wn wc, .slice ta tn tc] 31) := ⟨_, rfl⟩; obtain ⟨b1, hb1⟩ : ∃ b, b = w.heap.size := ⟨_, rfl⟩; have HK0 : Hid (Blk W b1 31 #[.int .i64 c.riv.depth.lo, .int .i64 c.riv.depth.hi, .int .i64 c.riv.fall.lo, .int .i64 c.riv.fall.hi, .int .i64 c.riv.days, .slice fa fl fc, .slice la ll lc, .int .i64 c.draws, .slice wa wn wc, .slice ta tn tc]) := by rw [hW, hb1]; exact Blk.new w 31 _
 have HB0 : Hid (Below w.heap.size w W) := by rw [hW]; exact (Below.refl _ _).alloc (Nat.le_refl _) _
 go_enter Tryz.func10, Tryz.ntmps10
 go_upto_region 1 with (fail); rw [← hW, ← hb1]; clear hW hb1; have hx := HK0.out; obtain ⟨q0, q1, q2, q3, q4, q5, q6, q7, q8, q9, ql⟩ := cx31 hx; clear hx; go_wp2_with fail; refine (fine_any (fa := fa) (fl := fl) (fc := fc) (la := la) (ll := ll) (lc := lc) (wa := wa) (wn := wn) (wc := wc) (ta := ta) (tn := tn) (tc := tc) W (HP.out.grow HB0.out)).mono ?_; rintro e v1 ⟨⟨b, rfl, hl⟩, hb⟩; have HB1 : Hid (Below w.heap.size w v1) := HB0.out.trans (hb.mono HB0.out.size); have HK1 := Lib.hid (HK0.out.below hb HK0.out.lt); clear hb; clear q0 q1 q2 q3 q4 q5 q6 q7 q8 q9 ql; have HLN := Lib.hid hl; clear hl; cases b
 case false =>
  go_wp2_with fail; refine (alive_any _).mono ?_
  rintro e v2 ⟨rfl, hb⟩; have HB2 : Hid (Below w.heap.size w v2) := HB1.out.trans (hb.mono HB1.out.size); clear hb; go_wp2; go_ret
  exact ⟨rfl, HB2.out⟩
 have HV : Hid (openE c true = 0) := HLN.out rfl; have HOK : Hid (okC c = true) := (openE_true HV.out).1; have ht5 : tn ≤ 5 := by have := (okC_parts HOK.out).2.2.2.1; rw [HET.out] at this; exact this
 have hw3 : wn ≤ 3 := by have := (okC_parts HOK.out).2.2.1; rw [HEW.out] at this; exact this
 have HSE : Hid (stayE c = 0) := HV.out; have HSVV : Hid (stayV c = stayP c) := by show _ = _; unfold stayV; rw [if_pos HSE.out]
 obtain ⟨S, hS⟩ : ∃ S, stayP c = S := ⟨_, rfl⟩; have HS := Lib.hid hS; have HSB : Hid (S < 2 ^ tn) := by show _ < _; rw [← hS, ← HET.out]; exact setN_lt _ _
 clear hS; have hx := HK1.out; obtain ⟨q0, q1, q2, q3, q4, q5, q6, q7, q8, q9, ql⟩ := cx31 hx; clear hx; go_wp2_with fail; refine (PStay_any (fa := fa) (fl := fl) (fc := fc) (la := la) (ll := ll) (lc := lc) (wa := wa) (wn := wn) (wc := wc) (ta := ta) (tn := tn) (tc := tc) (w := v1) (c := c) (HP.out.grow HB1.out)).mono ?_; rw [HSVV.out, HSE.out, HS.out]; rintro e v2 ⟨rfl, hb⟩; have HB2 : Hid (Below w.heap.size w v2) := HB1.out.trans (hb.mono HB1.out.size); have HK2 := Lib.hid (HK1.out.below hb HK1.out.lt); clear hb; clear q0 q1 q2 q3 q4 q5 q6 q7 q8 q9 ql; have hx := HK2.out; obtain ⟨q0, q1, q2, q3, q4, q5, q6, q7, q8, q9, ql⟩ := cx31 hx; clear hx; go_wp2_with fail; refine (PMost_any (fa := fa) (fl := fl) (fc := fc) (la := la) (ll := ll) (lc := lc) (wa := wa) (wn := wn) (wc := wc) (ta := ta) (tn := tn) (tc := tc) (w := v2) (c := c) (HP.out.grow HB2.out)).mono ?_; rintro e v3 ⟨hb, (⟨h1, -⟩ | ⟨-, g3, rfl, -, hg3⟩)⟩
 ·exact absurd HSE.out h1
 obtain ⟨n3, hn3⟩ : ∃ n, (onP c.tm c.wg ofMost c.lt (roomP c.wg)).1 = n := ⟨_, rfl⟩; have HN3 := Lib.hid hn3; rw [hn3]; have HB3 : Hid (Below w.heap.size w v3) := HB2.out.trans (hb.mono HB2.out.size); have HK3 := Lib.hid (HK2.out.below hb HK2.out.lt); have HG3 := Lib.hid hg3; clear hb hg3 hn3; clear q0 q1 q2 q3 q4 q5 q6 q7 q8 q9 ql; have hx := HK3.out; obtain ⟨q0, q1, q2, q3, q4, q5, q6, q7, q8, q9, ql⟩ := cx31 hx; clear hx; go_wp2_with fail; refine (PBest_any (fa := fa) (fl := fl) (fc := fc) (la := la) (ll := ll) (lc := lc) (wa := wa) (wn := wn) (wc := wc) (ta := ta) (tn := tn) (tc := tc) (w := v3) (c := c) (HP.out.grow HB3.out)).mono ?_; rintro e v4 ⟨hb, (⟨h1, -⟩ | ⟨-, g4, rfl, -, hg4⟩)⟩
 ·exact absurd HSE.out h1
 obtain ⟨n4, hn4⟩ : ∃ n, (onP c.tm c.wg ofBest c.lt (roomP c.wg)).1 = n := ⟨_, rfl⟩; have HN4 := Lib.hid hn4; rw [hn4]; have HB4 : Hid (Below w.heap.size w v4) := HB3.out.trans (hb.mono HB3.out.size); have HK4 := Lib.hid (HK3.out.below hb HK3.out.lt); have HG3v := Lib.hid (HG3.out.below hb HG3.out.lt); have HG4 := Lib.hid hg4; clear hb hg4 hn4; clear q0 q1 q2 q3 q4 q5 q6 q7 q8 q9 ql
 have hsh : (S : Int) / 2 ^ tn = 0 := by
  have h := HSB.out; have e : ((2 : Int) ^ tn) = ((2 ^ tn : Nat) : Int) := by simp
  rw [e]; exact Int.ediv_eq_zero_of_lt (by omega) (by exact_mod_cast h)
 have hs0 : ¬ ((S : Int) < 0) := by omega
 have hx := HK4.out; obtain ⟨q0, q1, q2, q3, q4, q5, q6, q7, q8, q9, ql⟩ := cx31 hx; clear hx; go_upto_region 10 with (fail)
 obtain ⟨fz, hfz⟩ : ∃ f, f = fun i => !staysB c i := ⟨_, rfl⟩
 have HSUM : Hid (anyN fz tn = decide (n3 > 0)) := by show _ = _; rw [hfz, some_stays HOK.out HET.out, HN3.out]
 have HFZ : Hid (∀ i l, c.lt[i]? = some l → fz i = fitsAny c l wn) := fun i l h => by rw [hfz]; show (!staysB c i) = _; unfold staysB; rw [h, HEW.out]; simp
 clear hfz hsh hs0
 go_loopw [11, 86] (fun a i wr => ∃ n : Nat, n ≤ tn ∧ i = .int .i64 n ∧ a = .bool (anyN fz n) ∧ Hid (Below w.heap.size w wr) ∧ Hid (Blk wr b1 31 #[.int .i64 c.riv.depth.lo, .int .i64 c.riv.depth.hi, .int .i64 c.riv.fall.lo, .int .i64 c.riv.fall.hi, .int .i64 c.riv.days, .slice fa fl fc, .slice la ll lc, .int .i64 c.draws, .slice wa wn wc, .slice ta tn tc]) ∧ Hid (Blk wr g3 3 (intsA (planL c.tm c.wg ofMost c.lt (roomP c.wg)))) ∧ Hid (Blk wr g4 3 (intsA (planL c.tm c.wg ofBest c.lt (roomP c.wg))))) (fun _ i _ => tn - (intOf i).toNat)
 case atStart => exact ⟨0, Nat.zero_le _, rfl, rfl, HB4, HK4, HG3v, HG4⟩
 case round =>
  obtain ⟨n, hn, rfl, rfl, HBR, HKR, HGR, HHR⟩ := hrel
  by_cases hlt : n < tn
  ·obtain ⟨l, hl⟩ : ∃ x, c.lt[n]? = some x := ⟨c.lt[n]'(by have := HET.out; omega), by simp⟩
   have HL := Lib.hid hl; have HPR := Lib.hid (HP.out.grow HBR.out); have HFN := Lib.hid (HFZ.out n l hl); obtain ⟨bl, ol, hta, hbl, L0, L1, L2, L3, L4⟩ := rd_lt HPR.out.hlt n l hl; subst hta; obtain ⟨l0, l1, l2, l3, l4⟩ := l; simp only at L0 L1 L2 L3 L4; have hblw : bl < wr.heap.size := hbl; obtain ⟨W4, hW4⟩ : ∃ W4, W4 = wr.alloc (.cells #[.int .i64 l0, .int .i64 l1, .int .i64 l2, .int .i64 l3, .int .i64 l4] 68) := ⟨_, rfl⟩; obtain ⟨b8, hb8⟩ : ∃ b, b = wr.heap.size := ⟨_, rfl⟩; have hw4 : Below wr.heap.size wr W4 := by rw [hW4]; exact (Below.refl _ _).alloc (Nat.le_refl _) _
   have HX8 : Hid (Blk W4 b8 68 #[.int .i64 l0, .int .i64 l1, .int .i64 l2, .int .i64 l3, .int .i64 l4]) := by rw [hW4, hb8]; exact Blk.new wr 68 _
   have HB8 : Hid (Below w.heap.size w W4) := HBR.out.trans (hw4.mono HBR.out.size); have HK8 := Lib.hid (HKR.out.below hw4 HKR.out.lt); have HG8 := Lib.hid (HGR.out.below hw4 HGR.out.lt); have HH8 := Lib.hid (HHR.out.below hw4 HHR.out.lt); clear hl hbl hw4; go_upto_region 12 with (fail); rw [← hW4, ← hb8]; clear hW4 hb8 L0 L1 L2 L3 L4 hblw; have hx := HK8.out; obtain ⟨q0, q1, q2, q3, q4, q5, q6, q7, q8, q9, ql⟩ := cx31 hx; clear hx; go_upto_region 14 with (fail)
   go_loopw [14, 94] (fun a i wr => ∃ m : Nat, m ≤ wn ∧ i = .int .i64 m ∧ a = .bool (fitsAny c ⟨l0, l1, l2, l3, l4⟩ m) ∧ Hid (Below w.heap.size w wr) ∧ Hid (Blk wr b1 31 #[.int .i64 c.riv.depth.lo, .int .i64 c.riv.depth.hi, .int .i64 c.riv.fall.lo, .int .i64 c.riv.fall.hi, .int .i64 c.riv.days, .slice fa fl fc, .slice la ll lc, .int .i64 c.draws, .slice wa wn wc, .slice (some ⟨bl, ol, none⟩) tn tc]) ∧ Hid (Blk wr g3 3 (intsA (planL c.tm c.wg ofMost c.lt (roomP c.wg)))) ∧ Hid (Blk wr g4 3 (intsA (planL c.tm c.wg ofBest c.lt (roomP c.wg)))) ∧ Hid (Blk wr b8 68 #[.int .i64 l0, .int .i64 l1, .int .i64 l2, .int .i64 l3, .int .i64 l4])) (fun _ i _ => wn - (intOf i).toNat)
   case atStart => exact ⟨0, Nat.zero_le _, rfl, rfl, HB8, HK8, HG8, HH8, HX8⟩
   case round =>
    obtain ⟨m, hm, rfl, rfl, HBM, HKM, HGM, HHM, HXM⟩ := hrel
    by_cases hmt : m < wn
    ·obtain ⟨g, hg⟩ : ∃ x, c.wg[m]? = some x := ⟨c.wg[m]'(by have := HEW.out; omega), by simp⟩
     have HGW := Lib.hid hg; have HPM := Lib.hid (HP.out.grow HBM.out); have hml : m < c.wg.length := by rw [HEW.out]; exact hmt
     have HIE : Hid (inTimeE c m = 0) := by
      show _ = _; unfold inTimeE; rw [show isWagB c m = true from inB_iff.2 (by omega)]
      exact HV.out
     have HIV : Hid (inTimeV c m = c.tm g) := by show _ = _; unfold inTimeV; rw [if_pos HIE.out, Int.toNat_natCast, hg]
     obtain ⟨t, ht⟩ : ∃ t, c.tm g = t := ⟨_, rfl⟩; have HT := Lib.hid ht; rw [ht] at HIV; obtain ⟨bw, ow, hwa, hbw, M0, M1, M2, M3⟩ := rd_wg HPM.out.hwg m g hg; subst hwa; obtain ⟨y0, ⟨y1, y2⟩, y3⟩ := g; simp only at M0 M1 M2 M3; have HFI : Hid (fitsW c.tm c.wg ⟨l0, l1, l2, l3, l4⟩ m (roomP c.wg) = true ↔ t = 2 ∧ l0 ≤ y0 ∧ l1 ≤ y3) := by rw [← ht]; exact fits_at hg
     obtain ⟨W5, hW5⟩ : ∃ W5, W5 = wr.alloc (.cells #[.int .i64 y0, .int .i64 y1, .int .i64 y2, .int .i64 y3] 65) := ⟨_, rfl⟩; obtain ⟨b9, hb9⟩ : ∃ b, b = wr.heap.size := ⟨_, rfl⟩; have hw5 : Below wr.heap.size wr W5 := by rw [hW5]; exact (Below.refl _ _).alloc (Nat.le_refl _) _
     have HY9 : Hid (Blk W5 b9 65 #[.int .i64 y0, .int .i64 y1, .int .i64 y2, .int .i64 y3]) := by rw [hW5, hb9]; exact Blk.new wr 65 _
     have HB9 : Hid (Below w.heap.size w W5) := HBM.out.trans (hw5.mono HBM.out.size); have HK9 := Lib.hid (HKM.out.below hw5 HKM.out.lt); have HG9 := Lib.hid (HGM.out.below hw5 HGM.out.lt); have HH9 := Lib.hid (HHM.out.below hw5 HHM.out.lt); have HX9 := Lib.hid (HXM.out.below hw5 HXM.out.lt); clear hg ht hw5; go_upto_region 16 with (fail); rw [← hW5, ← hb9]; clear hW5 hb9 M0 M1 M2 M3 hbw; have hx := HK9.out; obtain ⟨q0, q1, q2, q3, q4, q5, q6, q7, q8, q9, ql⟩ := cx31 hx; clear hx; go_wp2_with fail; refine (PInTime_any (fa := fa) (fl := fl) (fc := fc) (la := la) (ll := ll) (lc := lc) (wa := some ⟨bw, ow, none⟩) (wn := wn) (wc := wc) (ta := some ⟨bl, ol, none⟩) (tn := tn) (tc := tc) (c := c) (m : Int) (w := W5) (HP.out.grow HB9.out)).mono ?_; rw [HIV.out, HIE.out]; rintro e w6 ⟨rfl, hb⟩; have HB10 : Hid (Below w.heap.size w w6) := HB9.out.trans (hb.mono HB9.out.size); have HK10 := Lib.hid (HK9.out.below hb HK9.out.lt); have HG10 := Lib.hid (HG9.out.below hb HG9.out.lt); have HH10 := Lib.hid (HH9.out.below hb HH9.out.lt); have HX10 := Lib.hid (HX9.out.below hb HX9.out.lt); have HY10 := Lib.hid (HY9.out.below hb HY9.out.lt); clear hb; clear q0 q1 q2 q3 q4 q5 q6 q7 q8 q9 ql; go_upto_region 19 with (fail); obtain ⟨A, hA⟩ : ∃ A, fitsAny c ⟨l0, l1, l2, l3, l4⟩ m = A := ⟨_, rfl⟩; obtain ⟨B, hB⟩ : ∃ B, fitsW c.tm c.wg ⟨l0, l1, l2, l3, l4⟩ m (roomP c.wg) = B := ⟨_, rfl⟩; have HAB : Hid (fitsAny c ⟨l0, l1, l2, l3, l4⟩ (m + 1) = (A || B)) := by show _ = _; rw [fitsAny, hA, hB]
     have HBE : Hid (fitsW c.tm c.wg ⟨l0, l1, l2, l3, l4⟩ m (roomP c.wg) = B) := hB; have HFB : Hid (B = true ↔ t = 2 ∧ l0 ≤ y0 ∧ l1 ≤ y3) := by rw [← hB]; exact HFI.out
     rw [hA]; clear hA hB HFI; have x0 := HX10.out.cell 0; have x1 := HX10.out.cell 1; have xl := HX10.out.lt; have z0 := HY10.out.cell 0; have z3 := HY10.out.cell 3; have zl := HY10.out.lt; simp at x0 x1 z0 z3
     go_cut [14] from 107 to 125 (fun x wx => x = .bool (A || B) ∧ wx = w6)
     case first =>
      cases A
      case true =>
       go_wp2
       go_meet
       exact ⟨rfl, rfl⟩
      by_cases h2 : t = 2
      ·have h2q : ((t : Int) == 2) = true := by simp; omega
       by_cases ha : l0 ≤ y0
       ·have haq : decide (l0 ≤ y0) = true := decide_eq_true ha
        by_cases hb : l1 ≤ y3
        ·have hbq : decide (l1 ≤ y3) = true := decide_eq_true hb; obtain rfl : B = true := HFB.out.2 ⟨h2, ha, hb⟩; clear h2 ha hb; go_wp2
         go_meet
         exact ⟨rfl, rfl⟩
        ·have hbq : decide (l1 ≤ y3) = false := decide_eq_false hb
         obtain rfl : B = false := by
          cases B
          ·rfl
          ·exact absurd (HFB.out.1 rfl) (fun h => hb h.2.2)
         clear h2 ha hb; go_wp2
         go_meet
         exact ⟨rfl, rfl⟩
       ·have haq : decide (l0 ≤ y0) = false := decide_eq_false ha
        obtain rfl : B = false := by
         cases B
         ·rfl
         ·exact absurd (HFB.out.1 rfl) (fun h => ha h.2.1)
        clear h2 ha; go_wp2
        go_meet
        exact ⟨rfl, rfl⟩
      ·have h2q : ((t : Int) == 2) = false := by simp; omega
       obtain rfl : B = false := by
        cases B
        ·rfl
        ·exact absurd (HFB.out.1 rfl) (fun h => h2 h.1)
       clear h2; go_wp2
       go_meet
       exact ⟨rfl, rfl⟩
     case rest =>
     obtain ⟨rfl, rfl⟩ := hcut; clear x0 x1 xl z0 z3 zl; have hmk := make_ints tn (by omega) wc
     obtain ⟨W7, hW7⟩ : ∃ W7, W7 = wc.alloc (.cells (intsA (List.replicate tn 0)) 3) := ⟨_, rfl⟩; obtain ⟨q, hq⟩ : ∃ q, q = wc.heap.size := ⟨_, rfl⟩; have hw7 : Below wc.heap.size wc W7 := by rw [hW7]; exact (Below.refl _ _).alloc (Nat.le_refl _) _
     have HQ7 : Hid (Blk W7 q 3 (intsA (fillL tn 0))) := by rw [hW7, hq]; unfold fillL; exact Blk.new wc 3 _
     have HQG : Hid (wc.heap.size ≤ q) := by rw [hq]; exact Nat.le_refl _
     have HV7 : Hid (Below wc.heap.size wc W7) := hw7; clear hw7; have hx := HK10.out; obtain ⟨q0, q1, q2, q3, q4, q5, q6, q7, q8, q9, ql⟩ := cx31 hx; clear hx; go_upto_region 21 with (fail); rw [← hW7, ← hq]; clear hmk hW7 hq; clear q0 q1 q2 q3 q4 q5 q6 q7 q8 q9 ql; go_upto_region 22 with (fail)
     go_loopw [132] (fun i wr => ∃ j : Nat, j ≤ tn ∧ i = .int .i64 j ∧ Hid (Below wc.heap.size wc wr) ∧ Hid (Blk wr q 3 (intsA (fillL tn j)))) (fun i _ => tn - (intOf i).toNat)
     case atStart => exact ⟨0, Nat.zero_le _, rfl, HV7, HQ7⟩
     case round =>
      obtain ⟨j, hj, rfl, HVJ, HQJ⟩ := hrel
      by_cases hjt : j < tn
      ·have cj : wr.cell? ⟨q, j, none⟩ = some (.int .i64 0) := (HQJ.out.cell j).trans (fill_at hjt); have fj := HQJ.out.frozen j; have jl := HQJ.out.lt; have HS : Hid ((intsA (fillL tn j)).setIfInBounds j (.int .i64 (-1)) = intsA (fillL tn (j + 1))) := fill_set hjt; go_wp2; have hB9 : Below wc.heap.size wc (wr.setCell ⟨q, j, none⟩ (.int .i64 (-1))) := HVJ.out.setCell (p := ⟨q, j, none⟩) HQG.out _; go_roundw
       case rel => exact ⟨j + 1, by omega, by go_num, hB9, by show Blk _ _ _ _; rw [← HS.out]; exact HQJ.out.set_ j _⟩
       case measure => simp [intOf]; omega
      ·obtain rfl : tn = j := by omega
       have HB11 : Hid (Below w.heap.size w wr) := HB10.out.trans (HVJ.out.mono HB10.out.size); have HK11 := Lib.hid (HK10.out.below HVJ.out HK10.out.lt); have HG11 := Lib.hid (HG10.out.below HVJ.out HG10.out.lt); have HH11 := Lib.hid (HH10.out.below HVJ.out HH10.out.lt); have HX11 := Lib.hid (HX10.out.below HVJ.out HX10.out.lt); have HY11 := Lib.hid (HY10.out.below HVJ.out HY10.out.lt); have cn : wr.cell? ⟨q, n, none⟩ = some (.int .i64 (-1)) := (HQJ.out.cell n).trans (fill_end hlt); have fn := HQJ.out.frozen n; have nl := HQJ.out.lt; have hni : (n : Int) < tn := by omega
       go_upto_region 27 with (fail); obtain ⟨W8, hW8⟩ : ∃ W8, W8 = wr.setCell ⟨q, n, none⟩ (.int .i64 m) := ⟨_, rfl⟩; rw [← hW8]; have hw8 : Below wc.heap.size wr W8 := by rw [hW8]; exact (Below.refl _ _).setCell (p := ⟨q, n, none⟩) HQG.out _
       have HQ8 : Hid (Blk W8 q 3 (intsA ((List.replicate tn (-1)).set n (m : Int)))) := by
        rw [hW8, ← alone_set]; exact HQJ.out.set_ n _
       have HB12 : Hid (Below w.heap.size w W8) := HB11.out.trans (hw8.mono HB10.out.size); have HK12 := Lib.hid (HK11.out.below hw8 HK10.out.lt); have HG12 := Lib.hid (HG11.out.below hw8 HG10.out.lt); have HH12 := Lib.hid (HH11.out.below hw8 HH10.out.lt); have HX12 := Lib.hid (HX11.out.below hw8 HX10.out.lt); have HY12 := Lib.hid (HY11.out.below hw8 HY10.out.lt); clear hW8 hw8 cn fn nl hni; obtain ⟨ps, hps⟩ : ∃ ps, (List.replicate tn (-1)).set n (m : Int) = ps := ⟨_, rfl⟩
       have HPE : Hid (checkE c ps = 4 ↔ B = true) := by
        have h := alone_check (i := n) (k := m) HV.out HL.out HGW.out; rw [HET.out, HBE.out, hps] at h; exact h
       have HPL : Hid (ps.length = tn) := by rw [← hps]; show _ = _; simp
       rw [hps] at HQ8; clear hps; obtain ⟨E, hE⟩ : ∃ E, checkE c ps = E := ⟨_, rfl⟩; obtain ⟨e1, he1⟩ : ∃ x, (checkW c ps).1 = x := ⟨_, rfl⟩; obtain ⟨e2, he2⟩ : ∃ x, (checkW c ps).2 = x := ⟨_, rfl⟩; have HEV : Hid (checkE c ps = E ∧ (checkW c ps).1 = e1 ∧ (checkW c ps).2 = e2) := ⟨hE, he1, he2⟩; have HE : Hid (E = 4 ↔ B = true) := by rw [← hE]; exact HPE.out
       clear hE he1 he2 HPE; have hx := HK12.out; obtain ⟨q0, q1, q2, q3, q4, q5, q6, q7, q8, q9, ql⟩ := cx31 hx; clear hx; go_wp2_with fail; refine (PCheck_any (fa := fa) (fl := fl) (fc := fc) (la := la) (ll := ll) (lc := lc) (wa := some ⟨bw, ow, none⟩) (wn := wn) (wc := _) (ta := some ⟨bl, ol, none⟩) (tn := tn) (tc := tc) (c := c) (w := W8) (pa := some ⟨q, 0, none⟩) (pn := tn) (pc := tn) (ps := ps) (HP.out.grow HB12.out) ⟨HPL.out, ints_rd HQ8.out, by omega⟩).mono ?_
       rw [HEV.out.1, HEV.out.2.1, HEV.out.2.2]; rintro e w9 ⟨rfl, hb⟩; have HB13 : Hid (Below w.heap.size w w9) := HB12.out.trans (hb.mono HB12.out.size); have HK13 := Lib.hid (HK12.out.below hb HK12.out.lt); have HG13 := Lib.hid (HG12.out.below hb HG12.out.lt); have HH13 := Lib.hid (HH12.out.below hb HH12.out.lt); have HX13 := Lib.hid (HX12.out.below hb HX12.out.lt); have HY13 := Lib.hid (HY12.out.below hb HY12.out.lt); clear hb; clear q0 q1 q2 q3 q4 q5 q6 q7 q8 q9 ql; have x0 := HX13.out.cell 0; have x1 := HX13.out.cell 1; have xl := HX13.out.lt; have z0 := HY13.out.cell 0; have z3 := HY13.out.cell 3; have zl := HY13.out.lt; simp at x0 x1 z0 z3
       by_cases h2 : t = 2
       ·have h2q : ((t : Int) == 2) = true := by simp; omega
        by_cases ha : l0 ≤ y0
        ·have haq : decide (l0 ≤ y0) = true := decide_eq_true ha
         by_cases hb : l1 ≤ y3
         ·have hbq : decide (l1 ≤ y3) = true := decide_eq_true hb; have he : ((E : Int) == 4) = true := by have := HE.out.2 (HFB.out.2 ⟨h2, ha, hb⟩); simp; omega
          clear h2 ha hb; go_wp2; go_roundw
          case rel => exact ⟨m + 1, by omega, by go_num, by rw [HAB.out], HB13, HK13, HG13, HH13, HX13⟩
          case measure => simp [intOf]; omega
         ·have hbq : decide (l1 ≤ y3) = false := decide_eq_false hb
          have he : ((E : Int) == 4) = false := by
           have h9 : ¬ E = 4 := fun h => absurd (HFB.out.1 (HE.out.1 h)) (fun h => hb h.2.2)
           simp; omega
          clear h2 ha hb; go_wp2; go_roundw
          case rel => exact ⟨m + 1, by omega, by go_num, by rw [HAB.out], HB13, HK13, HG13, HH13, HX13⟩
          case measure => simp [intOf]; omega
        ·have haq : decide (l0 ≤ y0) = false := decide_eq_false ha
         have he : ((E : Int) == 4) = false := by
          have h9 : ¬ E = 4 := fun h => absurd (HFB.out.1 (HE.out.1 h)) (fun h => ha h.2.1)
          simp; omega
         clear h2 ha; go_wp2; go_roundw
         case rel => exact ⟨m + 1, by omega, by go_num, by rw [HAB.out], HB13, HK13, HG13, HH13, HX13⟩
         case measure => simp [intOf]; omega
       ·have h2q : ((t : Int) == 2) = false := by simp; omega
        have he : ((E : Int) == 4) = false := by
         have h9 : ¬ E = 4 := fun h => absurd (HFB.out.1 (HE.out.1 h)) (fun h => h2 h.1)
         simp; omega
        clear h2; go_wp2; go_roundw
        case rel => exact ⟨m + 1, by omega, by go_num, by rw [HAB.out], HB13, HK13, HG13, HH13, HX13⟩
        case measure => simp [intOf]; omega
    ·obtain rfl : wn = m := by omega
     obtain ⟨F, hF⟩ : ∃ F, fitsAny c ⟨l0, l1, l2, l3, l4⟩ wn = F := ⟨_, rfl⟩; have HF := Lib.hid hF; have HNX : Hid (anyN fz (n + 1) = (anyN fz n || F)) := by show _ = _; rw [anyN, HFN.out, hF]
     rw [hF]
     have htb : S.testBit n = !F := by
      rw [← HS.out]; unfold stayP staysB; rw [tb_setN, HL.out, HET.out, HEW.out, decide_eq_true hlt, Bool.true_and, ← hF]
     have hS62 : S < 4611686018427387904 := Nat.lt_of_lt_of_le HSB.out (Nat.le_trans (Nat.pow_le_pow_right (n := 2) (by omega) (show tn ≤ 10 by omega)) (by omega))
     obtain ⟨v, hv1, hv2⟩ := bit_val S n hS62 htb; have hni : (n : Int) < tn := by omega
     have hpl : ∀ (of_ : ILot → IWag → Int) (g : Nat), Blk wr g 3 (intsA (planL c.tm c.wg of_ c.lt (roomP c.wg))) → ∃ p : Int, (F = false → ¬ (0 ≤ p)) ∧ g < wr.heap.size ∧ wr.cell? ⟨g, n, none⟩ = some (.int .i64 p) := by
      intro of_ g hg; have hlen := rightL_len (plan_right c.tm c.wg of_ c.lt (roomP c.wg)); obtain ⟨p, hp⟩ : ∃ p, (planL c.tm c.wg of_ c.lt (roomP c.wg))[n]? = some p := ⟨(planL c.tm c.wg of_ c.lt (roomP c.wg))[n]'(by rw [hlen, HET.out]; exact hlt), by simp⟩
      refine ⟨p, fun h => ?_, hg.lt, ?_⟩
      ·have := plan_stays HOK.out HL.out (by rw [HEW.out, HF.out, h]) hp
       omega
      ·rw [hg.cell]; unfold intsA
       simp [hp]
     obtain ⟨p3, hp3, gl3, gc3⟩ := hpl _ _ HGM.out; obtain ⟨p4, hp4, gl4, gc4⟩ := hpl _ _ HHM.out; clear hpl htb hS62 hF; obtain ⟨A, hA⟩ : ∃ A, anyN fz n = A := ⟨_, rfl⟩; rw [hA] at HNX ⊢; clear hA; cases F
     ·have hd3 := hp3 rfl; have hd4 := hp4 rfl; clear hp3 hp4; cases A
      ·go_wp2; go_roundw
       case rel => exact ⟨n + 1, by omega, by go_num, by rw [HNX.out]; rfl, HBM, HKM, HGM, HHM⟩
       case measure => simp [intOf]; omega
      ·go_wp2; go_roundw
       case rel => exact ⟨n + 1, by omega, by go_num, by rw [HNX.out]; rfl, HBM, HKM, HGM, HHM⟩
       case measure => simp [intOf]; omega
     ·clear hp3 hp4; cases A
      ·go_wp2; go_roundw
       case rel => exact ⟨n + 1, by omega, by go_num, by rw [HNX.out]; rfl, HBM, HKM, HGM, HHM⟩
       case measure => simp [intOf]; omega
      ·go_wp2; go_roundw
       case rel => exact ⟨n + 1, by omega, by go_num, by rw [HNX.out]; rfl, HBM, HKM, HGM, HHM⟩
       case measure => simp [intOf]; omega
  ·obtain rfl : tn = n := by omega
   rw [HSUM.out]; go_wp2_with fail; refine (alive_any _).mono ?_; rintro e vz ⟨rfl, hb⟩; have HBZ : Hid (Below w.heap.size w vz) := HBR.out.trans (hb.mono HBR.out.size); clear hb; go_wp2; go_ret
   exact ⟨rfl, HBZ.out⟩
end
end Go.Proofs.YtgmfhngcehkibaaGreat
namespace Go.Proofs.YtgmfhngcehkibaaGreat
open Go.ChangeShapes Go.WideShapes Go.ChangeAt Go.RowKit
theorem cartStay_lifted (os : Os) (started : os.Started) (H : Type) (enc : TypeId × Value → H) :
  ReturnsInHanded {} Tryz.checked os 10 .any (Rows.cartStaySpec.pre6 enc Tryz.prog Tryz.f10 Rows.cartStayRow.domain false) (Rows.cartStaySpec.post enc Tryz.prog Tryz.f10 false true false false) := by
 refine returnsInHanded_of_change (C := Tryz.checked) rowOwn started (by kernel_rfl) Tryz.func10
  (ChangeSpec.witness6 (enc := enc) (C := Tryz.checked) false ⟨#[], #[(.agg #[.int .i64 0, .int .i64 0, .int .i64 0, .int .i64 0, .int .i64 0, .slice none 0 0, .slice none 0 0, .int .i64 0, .slice none 0 0, .slice none 0 0])], []⟩ 8 (by kernel_rfl) (by kernel_rfl) (by kernel_rfl) (by kernel_rfl)) ?_
 intro W base args ds gs before hval0 hW _ _; have hval : ∀ (j : Nat) t v, Tryz.f10.params[j]? = some t → args[j]? = some v → Value.okWide Tryz.prog W .any base t v := hval0; have hW' := hW; obtain ⟨p, q, hA0, hV, rfl, hfz, hnd⟩ := hW
 have hA : DataW.TrodAll enc Tryz.prog W 0 (fun _ => true) true Tryz.f10.params.toList args.toList ds p := hA0
 rw [Tryz.params10] at hA hval; obtain ⟨v0, d0, rfl, rfl, h0⟩ := trodAll_one hA; obtain ⟨rfl, rfl⟩ := trodVars_none hV; have k0 := h0; have lt0 : ∀ x ∈ p, x.block < W.heap.size := by obtain ⟨m, hm⟩ := k0; exact DataW.trod_lt m _ _ _ hm
 obtain ⟨fa, la, wa, ta, fl, fc, ll, lc, wn, wc, tn, tc, P, rfl, hP⟩ := open_cart (hval 0 31 v0 rfl rfl) h0; clear hA0 hval0; simp only [List.append_nil] at hW'
 refine (cartStay_any W hP).mono fun e W' ⟨he, bel⟩ => ?_
 subst he
 exact ⟨_, rfl, _, _, _, [], _, [], hW', trodAll_mk1 (shut_bool Tryz.underlying4 _), (trodAll_mk1 (Below.trod rowLaidOut (by kernel_rfl) (of_decide_eq_true (by kernel_rfl)) k0 bel lt0)), rfl, bel.frame _, fun h => by cases h⟩
theorem cartStay_holds : Rows.CartStaySaid :=
 OpenClaim.holds_of_wide 10 Tryz.f10 rfl rfl rfl rfl rfl rfl rfl ⟨rfl, rfl, rfl, rfl, rfl⟩ rfl rfl rfl rfl rfl (by kernel_rfl) Tryz.func10 (by kernel_rfl)
  (of_decide_eq_true (by kernel_rfl)) (by unfold Func.isWrapper; first | (rw [if_pos (by decide +kernel)]; kernel_rfl) | (rw [if_neg (by decide +kernel)]; exact ⟨rfl, rfl⟩))
  (fun os started H enc _ => cartStay_lifted os started H enc)
#print axioms cartStay_holds
end Go.Proofs.YtgmfhngcehkibaaGreat
