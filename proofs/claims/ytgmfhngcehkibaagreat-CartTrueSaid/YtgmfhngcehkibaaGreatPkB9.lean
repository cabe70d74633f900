/- A range over an iterator that needs something of the world between two rounds: the law of Seq with what the body keeps; the body may turn blocks that come later. Condition: what the statements say. -/
import Derived.Test.YtgmfhngcehkibaaGreatPkB8
import Derived.BigGuard
import Derived.OwnWalkIn
set_option maxRecDepth 100000
set_option maxHeartbeats 6400000
namespace Go.Sq
open Go.RowKit Go.Proofs.YtgmfhngcehkibaaGreat
variable {S S' : Nat → Prop} {X Y Z : World}
variable {B B' : Nat} {Ty Ty' : TypeId → Prop} {Kx : World → World → Prop} {J J' : World → Prop}
def SeqK (P : Program) (gf : Nat) (lb : Array Value) (encs : List (Array Value)) (Ty : TypeId → Prop) (Kx : World → World → Prop) (Pre : (Nat → Prop) → World → Prop) (Inv : World → Prop) : Prop :=
 ∀ (S : Nat → Prop) (L : Nat) (J : Nat → World → Prop) (Jx : World → Prop) (W : World), Pre S W → S L → (∀ k, OwnT W.heap.size Ty Kx (J k)) → OwnT W.heap.size Ty Kx Jx → (∀ k X, J k X → Inv X) →
  (∀ k x X, J k X → encs[k]? = some x → YieldAt Fence.wide 0 P L x X fun e X' => Turn S X X' ∧ ((e = .returned (.bool true) ∧ J (k + 1) X') ∨ (e = .returned (.bool false) ∧ Jx X'))) →
  J 0 W → Calls P gf (#[.func (.yield L) #[] #[]] ++ lb) W fun e W' => (∃ v, e = .returned v) ∧ (J encs.length W' ∨ Jx W')
section
variable {P : Program}
theorem coreK {F : Fence} (hc : ∀ {n f args w R}, Calls P f args w R → CallsIn F n P f args w R) {gf : Nat} {lb : Array Value} {encs : List (Array Value)} {Pre : (Nat → Prop) → World → Prop} {Inv : World → Prop}
  (hseq : SeqK P gf lb encs Ty Kx Pre Inv) (hKx : KeepsRec Kx) {ps : Array Tmp} {assign body : Code} {a : Act} {W1 : World} {l n : Nat} {fn : FuncId} {dd : Nat} {rec : LoopState → Option Code → Loop}
  (hrec : rec = fun st pe => { state := st, pending := pe, fn, tmps := a.tmps, params := ps, assign, body, defers := dd }) (hl : W1.heap[l]? = some (.loop (rec .ready none))) (hps : ∀ x ∈ encs, x.size = ps.size)
  (S : Nat → Prop) (hSl : ¬ S l) (hpre : Pre (fun b => S b ∨ b = l) W1) (I : Nat → World → Prop) (Ix : Code → World → Prop) (hI : ∀ k, OwnT l Ty Kx (I k)) (hIx : ∀ c, OwnT l Ty Kx (Ix c)) (hInv : ∀ k W, I k W → Inv W) (h0 : I 0 W1)
  (Ax : Nat → Act → World → Prop) (hAx : ∀ k a', OwnT l Ty Kx (Ax k a'))
  (hassign : ∀ (k : Nat) (x : Array Value) (W : World) (K : Act → World → Prop), I k W → encs[k]? = some x → (∀ a' W', Turn S W W' → I k W' → Ax k a' W' → K a' W') →
   assign.wpIn (Fence.wide.inRound l) 0 P (Exit.then K (fun _ _ _ => False)) { tmps := (ps.zip x).foldl (fun t (p, v) => t.setIfInBounds p v) a.tmps, defers := [] } W)
  (hbody : ∀ (k : Nat) (x : Array Value) (a' : Act) (W : World), (∃ r, W.heap[l]? = some (.loop r)) → I k W → Ax k a' W → encs[k]? = some x → body.wpIn (Fence.wide.inRound l) 0 P (postL S I Ix k W) a' W) :
  CallsIn F n P gf (#[.func (.yield l) #[] #[]] ++ lb) W1 fun e W' => (∃ v, e = .returned v) ∧ ((I encs.length W' ∧ W'.heap[l]? = some (.loop (rec .ready none))) ∨ ∃ c, Ix c W' ∧ W'.heap[l]? = some (.loop (rec .done (some c)))) := by
 have hlt1 : l < W1.heap.size := (Array.getElem?_eq_some_iff.1 hl).1
 refine hc ((hseq (fun b => S b ∨ b = l) l (fun k W => I k W ∧ W.heap[l]? = some (.loop (rec .ready none))) (fun W => ∃ c, Ix c W ∧ W.heap[l]? = some (.loop (rec .done (some c)))) W1 hpre (.inr rfl)
  (fun k => ((hI k).le (by omega)).and (own_rec hKx _ hlt1)) (OwnT.ex fun c => ((hIx c).le (by omega)).and (own_rec hKx _ hlt1)) (fun k X h => hInv k X h.1) ?_ ⟨h0, hl⟩).mono ?_)
 ·rintro k x W ⟨hi, hl⟩ hx; have hlt : l < W.heap.size := (Array.getElem?_eq_some_iff.1 hl).1; have hy := run_yield (P := P) (args := x) hl (by rw [hrec]; exact hps x (List.mem_of_getElem? hx))
  rw [hrec] at hy; refine ⟨fn, _, assign, body, hy, roundIn_of_wpIn trivial (hassign k x W _ hi hx ?_)⟩; clear hy; intro a' Wa hta hia hax
  have hla : Wa.heap[l]? = some (.loop (rec .ready none)) := (hta.block l hlt (fun h => hSl h)).trans hl
  have hlta : l < Wa.heap.size := (Array.getElem?_eq_some_iff.1 hla).1; refine ⟨_, run_beginRound hla (by rw [hrec]), ?_⟩
  have hl2 : (Wa.putObj l (.loop { rec .ready none with state := .busy })).heap[l]? = some (.loop { rec .ready none with state := .busy }) := World.putObj_heap_same hlta
  have ht2 : Turn (fun b => S b ∨ b = l) W (Wa.putObj l (.loop { rec .ready none with state := .busy })) := (hta.mono fun _ => .inl).trans (Turn.put _ (.inr rfl))
  refine wpIn_mono (hbody k x a' _ ⟨_, hl2⟩ ((hI k).put _ hia (Nat.le_refl _) hla rfl) ((hAx k a').put _ hax (Nat.le_refl _) hla rfl) hx) ?_
  have fin : ∀ (jump : Option Code) (W3 : World), Turn S (Wa.putObj l (.loop { rec .ready none with state := .busy })) W3 →
    (Instr.endRound l jump).run P W3 = .ok (.bool jump.isNone) (W3.putObj l (.loop (rec (if jump.isNone then .ready else .done) jump))) ∧ W3.heap[l]? = some (.loop { rec .ready none with state := .busy }) ∧
    (W3.putObj l (.loop (rec (if jump.isNone then .ready else .done) jump))).heap[l]? = some (.loop (rec (if jump.isNone then .ready else .done) jump)) ∧ Turn (fun b => S b ∨ b = l) W (W3.putObj l (.loop (rec (if jump.isNone then .ready else .done) jump))) := fun jump W3 ht3 => by
   have hl3 : W3.heap[l]? = some (.loop { rec .ready none with state := .busy }) := (ht3.block l (by simpa using hlta) (fun h => hSl h)).trans hl2
   have hr := run_endRound (P := P) jump hl3
   refine ⟨by rw [hr, hrec], hl3, World.putObj_heap_same (Array.getElem?_eq_some_iff.1 hl3).1, (ht2.trans (ht3.mono fun _ => .inl)).trans (Turn.put _ (.inr rfl))⟩
  rintro e a3 W3 hp
  cases e with
  | normal =>
   obtain ⟨hk3, hi3⟩ := hp; obtain ⟨hr, hl3, hl4, ht4⟩ := fin none W3 hk3; exact ⟨_, _, hr, ht4, .inl ⟨rfl, (hI (k + 1)).put _ hi3 (Nat.le_refl _) hl3 rfl, hl4⟩⟩
  | ret =>
   obtain ⟨hk3, hi3⟩ := hp; obtain ⟨hr, hl3, hl4, ht4⟩ := fin (some .ret) W3 hk3; exact ⟨_, _, hr, ht4, .inr ⟨rfl, .ret, (hIx _).put _ hi3 (Nat.le_refl _) hl3 rfl, hl4⟩⟩
  | exit id =>
   obtain ⟨hk3, hi3⟩ := hp; obtain ⟨hr, hl3, hl4, ht4⟩ := fin (some (.exit id)) W3 hk3; exact ⟨_, _, hr, ht4, .inr ⟨rfl, .exit id, (hIx _).put _ hi3 (Nat.le_refl _) hl3 rfl, hl4⟩⟩
  | goto t =>
   obtain ⟨hk3, hi3⟩ := hp; obtain ⟨hr, hl3, hl4, ht4⟩ := fin (some (.goto t)) W3 hk3; exact ⟨_, _, hr, ht4, .inr ⟨rfl, .goto t, (hIx _).put _ hi3 (Nat.le_refl _) hl3 rfl, hl4⟩⟩
  | panic ch => exact hp.elim
  | outgrown => exact hp.elim
 ·rintro e W2 h; exact h
theorem wpIn_rangeK {n : Nat} {g : Operand} {ps : Array Tmp} {assign body : Code} {Q : Exit → Act → World → Prop} {a : Act} {w : World} {gf : Nat} {lb : Array Value} (hg : a.eval g = .func (.func gf) #[] lb)
  (eg : ∀ args w, (callFunc gf args).run P w = .ok (.enter gf args) w) {encs : List (Array Value)} {Pre : (Nat → Prop) → World → Prop} {Inv : World → Prop} (hseq : SeqK P gf lb encs Ty Kx Pre Inv) (hKx : KeepsRec Kx) (hps : ∀ x ∈ encs, x.size = ps.size)
  (S : Nat → Prop) (hSd : ¬ S w.heap.size) (hSl : ¬ S (w.heap.size + 1)) (hpre : ∀ r, Pre (fun b => S b ∨ b = w.heap.size + 1) ((w.alloc (.deferred (some []))).alloc (.loop r)))
  (I : Nat → World → Prop) (Ix : Code → World → Prop) (hI : ∀ k, OwnT w.heap.size Ty Kx (I k)) (hIx : ∀ c, OwnT w.heap.size Ty Kx (Ix c)) (hInv : ∀ k W, I k W → Inv W) (h0 : I 0 w) (Ax : Nat → Act → World → Prop) (hAx : ∀ k a', OwnT w.heap.size Ty Kx (Ax k a'))
  (hassign : ∀ (l k : Nat) (x : Array Value) (W : World) (K : Act → World → Prop), I k W → encs[k]? = some x → (∀ a' W', Turn S W W' → I k W' → Ax k a' W' → K a' W') →
   assign.wpIn (Fence.wide.inRound l) 0 P (Exit.then K (fun _ _ _ => False)) { tmps := (ps.zip x).foldl (fun t (p, v) => t.setIfInBounds p v) a.tmps, defers := [] } W)
  (hbody : ∀ (l k : Nat) (x : Array Value) (a' : Act) (W : World), w.heap.size + 1 ≤ l → (∃ r, W.heap[l]? = some (.loop r)) → I k W → Ax k a' W → encs[k]? = some x → body.wpIn (Fence.wide.inRound l) 0 P (postL S I Ix k W) a' W)
  (hdone : ∀ (D : Nat) (W : World), D = w.heap.size → I encs.length W → W.heap[D]? = some (.deferred (some [])) → Q .normal { a with defers := { target := .collected D, args := #[] } :: a.defers } W)
  (hstop : ∀ (D : Nat) (c : Code) (W : World), D = w.heap.size → Ix c W → W.heap[D]? = some (.deferred (some [])) → c.wpIn Fence.wide n P Q { a with defers := { target := .collected D, args := #[] } :: a.defers } W) :
  (Code.rangeFunc g ps assign body).wpIn Fence.wide n P Q a w := by
 refine wpIn_rangeFunc ?_; intro fn _
 obtain ⟨rec, hrec⟩ : ∃ rec : LoopState → Option Code → Loop, rec = fun st pe => { state := st, pending := pe, fn, tmps := a.tmps, params := ps, assign, body, defers := w.heap.size } := ⟨_, rfl⟩
 obtain ⟨W1, hW1⟩ : ∃ W1, (w.alloc (.deferred (some []))).alloc (.loop (rec .ready none)) = W1 := ⟨_, rfl⟩
 have hL1 : W1.heap[w.heap.size + 1]? = some (.loop (rec .ready none)) := by
  rw [← hW1]; have := World.alloc_heap_new (w.alloc (.deferred (some []))) (.loop (rec .ready none)); rwa [World.size_alloc] at this
 have hD1 : W1.heap[w.heap.size]? = some (.deferred (some [])) := by
  rw [← hW1]; exact (Below.heap_alloc _ _ _ (by simp)).trans (World.alloc_heap_new w _)
 have hI1 : I 0 W1 := by rw [← hW1]; exact (hI 0).alloc _ ((hI 0).alloc _ h0)
 refine ⟨w.heap.size + 1, [{ target := .collected w.heap.size, args := #[] }], W1, { target := .fn (.func gf) lb, args := #[.func (.yield (w.heap.size + 1)) #[] #[]] }, W1, gf, #[.func (.yield (w.heap.size + 1)) #[] #[]] ++ lb, W1, ?_, ?_, fun _ _ => trivial, ?_, fun h => (by cases h), ?_⟩
 ·rw [← hW1, hrec]; exact run_enterLoop_outer _ _ _ _ _
 ·simp only [resolve, hg]
  simp [go_sem]
 ·simp [invoke, go_sem, eg]
 ·have hp1 := hpre (rec .ready none); rw [hW1] at hp1
  refine (coreK (F := Fence.wide) (fun h => callsIn_wide.2 h) hseq hKx hrec hL1 hps S hSl hp1 (fun k W => I k W ∧ W.heap[w.heap.size]? = some (.deferred (some []))) (fun c W => Ix c W ∧ W.heap[w.heap.size]? = some (.deferred (some [])))
   (fun k => ((hI k).le (by omega)).and (own_def hKx _ (by omega))) (fun c => ((hIx c).le (by omega)).and (own_def hKx _ (by omega))) (fun k W h => hInv k W h.1) ⟨hI1, hD1⟩ (fun k a' W => Ax k a' W ∧ W.heap[w.heap.size]? = some (.deferred (some []))) (fun k a' => ((hAx k a').le (by omega)).and (own_def hKx _ (by omega))) ?_ ?_).mono ?_
  ·rintro k x W K ⟨hi, hd⟩ hx hK
   exact hassign _ k x W K hi hx fun a' W' ht hi' ha' => by
    have hd' : W'.heap[w.heap.size]? = some (.deferred (some [])) := (ht.block _ (Array.getElem?_eq_some_iff.1 hd).1 (fun h => hSd h)).trans hd
    exact hK a' W' ht ⟨hi', hd'⟩ ⟨ha', hd'⟩
  ·rintro k x a' W hr ⟨hi, hd⟩ ⟨ha, _⟩ hx; refine wpIn_mono (hbody _ k x a' W (by omega) hr hi ha hx) ?_
   have hdd : ∀ W', Turn S W W' → W'.heap[w.heap.size]? = some (.deferred (some [])) := fun W' ht => (ht.block _ (Array.getElem?_eq_some_iff.1 hd).1 (fun h => hSd h)).trans hd
   rintro e a3 W3 hp
   cases e with
   | normal => exact ⟨hp.1, hp.2, hdd _ hp.1⟩
   | ret => exact ⟨hp.1, hp.2, hdd _ hp.1⟩
   | exit id => exact ⟨hp.1, hp.2, hdd _ hp.1⟩
   | goto t => exact ⟨hp.1, hp.2, hdd _ hp.1⟩
   | panic ch => exact hp.elim
   | outgrown => exact hp.elim
  ·rintro e W2 ⟨⟨v, rfl⟩, (⟨⟨hi, hd⟩, hl⟩ | ⟨c, ⟨hi, hd⟩, hl⟩)⟩
   ·exact ⟨none, _, by have := run_endLoop (P := P) hl (by rw [hrec]; simp); rw [hrec] at this; exact this, hdone _ _ rfl ((hI _).put _ hi (by omega) hl rfl) ((World.putObj_heap_other (by omega)).trans hd)⟩
   ·exact ⟨some c, _, by have := run_endLoop (P := P) hl (by rw [hrec]; simp); rw [hrec] at this; exact this, hstop _ c _ rfl ((hIx c).put _ hi (by omega) hl rfl) ((World.putObj_heap_other (by omega)).trans hd)⟩
theorem wpIn_rangeK_slots {β : Type} {n : Nat} {g : Operand} {ps : Array Tmp} {assign body : Code} {Q : Exit → Act → World → Prop} {a : Act} {w : World} {gf : Nat} {lb : Array Value} (hg : a.eval g = .func (.func gf) #[] lb)
  (eg : ∀ args w, (callFunc gf args).run P w = .ok (.enter gf args) w) {encs : List (Array Value)} {Pre : (Nat → Prop) → World → Prop} {Inv : World → Prop} (hseq : SeqK P gf lb encs Ty Kx Pre Inv) (hKx : KeepsRec Kx) (hps : ∀ x ∈ encs, x.size = ps.size)
  (S : Nat → Prop) (hSd : ¬ S w.heap.size) (hSl : ¬ S (w.heap.size + 1)) (hpre : ∀ r, Pre (fun b => S b ∨ b = w.heap.size + 1) ((w.alloc (.deferred (some []))).alloc (.loop r)))
  (I : Nat → World → Prop) (Ix : Code → World → Prop) (hI : ∀ k, OwnT w.heap.size Ty Kx (I k)) (hIx : ∀ c, OwnT w.heap.size Ty Kx (Ix c)) (hInv : ∀ k W, I k W → Inv W) (h0 : I 0 w) (G : Nat → β → Array Value → Array Value) (A : Nat → β → World → Prop) (hA : ∀ k y, OwnT w.heap.size Ty Kx (A k y))
  (hassign : ∀ (l k : Nat) (x : Array Value) (W : World) (K : Act → World → Prop), I k W → encs[k]? = some x → (∀ y W', Turn S W W' → I k W' → A k y W' → K { tmps := G k y a.tmps, defers := [] } W') →
   assign.wpIn (Fence.wide.inRound l) 0 P (Exit.then K (fun _ _ _ => False)) { tmps := (ps.zip x).foldl (fun t (p, v) => t.setIfInBounds p v) a.tmps, defers := [] } W)
  (hbody : ∀ (l k : Nat) (x : Array Value) (y : β) (W : World), w.heap.size + 1 ≤ l → (∃ r, W.heap[l]? = some (.loop r)) → I k W → A k y W → encs[k]? = some x → body.wpIn (Fence.wide.inRound l) 0 P (postL S I Ix k W) { tmps := G k y a.tmps, defers := [] } W)
  (hdone : ∀ (D : Nat) (W : World), D = w.heap.size → I encs.length W → W.heap[D]? = some (.deferred (some [])) → Q .normal { a with defers := { target := .collected D, args := #[] } :: a.defers } W)
  (hstop : ∀ (D : Nat) (c : Code) (W : World), D = w.heap.size → Ix c W → W.heap[D]? = some (.deferred (some [])) → c.wpIn Fence.wide n P Q { a with defers := { target := .collected D, args := #[] } :: a.defers } W) :
  (Code.rangeFunc g ps assign body).wpIn Fence.wide n P Q a w :=
 wpIn_rangeK hg eg hseq hKx hps S hSd hSl hpre I Ix hI hIx hInv h0 (fun k a' W => ∃ y, A k y W ∧ a' = { tmps := G k y a.tmps, defers := [] }) (fun k _ => ⟨fun X Y row ⟨y, h, e⟩ hg hr => ⟨y, (hA k y).1 X Y row h hg hr, e⟩, fun X Y ⟨y, h, e⟩ hk => ⟨y, (hA k y).2 X Y h hk, e⟩⟩)
  (fun l k x W K hi hx hK => hassign l k x W K hi hx fun y W' ht hi' ha => hK _ W' ht hi' ⟨y, ha, rfl⟩) (fun l k x _ W hl hr hi ⟨y, ha, e⟩ hx => e ▸ hbody l k x y W hl hr hi ha hx) hdone hstop
theorem wpIn_loop_ghost {F : Fence} {m : Nat} {Q : Exit → Act → World → Prop} {a : Act} {w : World} {c : Code} (I : Nat → Act → World → Prop) (n₀ : Nat) (h₀ : I n₀ a w)
  (round : ∀ n a w, I n a w → c.wpIn F m P (Exit.then (fun a' w' => ∃ n', n' < n ∧ I n' a' w') Q) a w) : (Code.loop c).wpIn F m P Q a w := by
 refine wpIn_loop (fun a w => ∃ n, I n a w) (fun a w => leastOf (fun n => I n a w)) ⟨n₀, h₀⟩ ?_
 intro a w hI; refine wpIn_mono (round _ a w (leastOf_spec hI).1) ?_; intro e a' w' hq
 cases e with
 | normal =>
  obtain ⟨n', hlt, hI'⟩ := hq
  exact show (∃ n, I n a' w') ∧ leastOf (fun n => I n a' w') < leastOf (fun n => I n a w) from ⟨⟨n', hI'⟩, Nat.lt_of_le_of_lt ((leastOf_spec ⟨n', hI'⟩).2 n' hI') hlt⟩
 | exit id => exact hq
 | goto l => exact hq
 | ret => exact hq
 | panic ch => exact hq
 | outgrown => exact hq
end
end Go.Sq
namespace Go.Proofs.YtgmfhngcehkibaaGreat
open Go.RowKit Go.Hav Go.Shelf Go.Sq
attribute [local go_sem] Oper.semAt_some
open Classical in
noncomputable def fallP (r : Riv) (looks by_ : Nat) : Bool := decide (∃ s, AllS r by_ looks 0 s)
noncomputable def fallsTo (r : Riv) (looks : Nat) : Nat → List Nat
 | 0 => []
 | j + 1 => fallsTo r looks j ++ if fallP r looks (r.fall.lo + j) then [r.fall.lo + j] else []
noncomputable def fallsL (r : Riv) (looks : Nat) : List Nat := fallsTo r looks (r.fall.hi + 1 - r.fall.lo)
def encB (b : Nat) : Array Value := #[.int .i64 b]
theorem fallsTo_yes {r : Riv} {looks j : Nat} (h : fallP r looks (r.fall.lo + j) = true) : fallsTo r looks (j + 1) = fallsTo r looks j ++ [r.fall.lo + j] := by rw [fallsTo, if_pos h]
theorem fallsTo_no {r : Riv} {looks j : Nat} (h : fallP r looks (r.fall.lo + j) = false) : fallsTo r looks (j + 1) = fallsTo r looks j := by rw [fallsTo, h]; simp
theorem fallsTo_pre (r : Riv) (looks : Nat) {j : Nat} : ∀ m, j ≤ m → fallsTo r looks j <+: fallsTo r looks m := by
 intro m
 induction m with
 | zero => intro h; rw [show j = 0 by omega]; exact List.prefix_refl _
 | succ m ih =>
  intro h
  by_cases e : j = m + 1
  ·rw [e]; exact List.prefix_refl _
  ·exact (ih (by omega)).trans (by rw [fallsTo]; exact List.prefix_append _ _)
theorem fallsL_at {r : Riv} {looks j : Nat} (h : fallP r looks (r.fall.lo + j) = true) (hj : j < r.fall.hi + 1 - r.fall.lo) : (fallsL r looks)[(fallsTo r looks j).length]? = some (r.fall.lo + j) := by
 obtain ⟨t, ht⟩ := fallsTo_pre r looks (j := j + 1) (r.fall.hi + 1 - r.fall.lo) (by omega)
 unfold fallsL; rw [← ht, fallsTo_yes h, List.append_assoc, List.getElem?_append_right (Nat.le_refl _), Nat.sub_self]
 rfl
theorem mem_fallsTo {r : Riv} {looks b : Nat} : ∀ j, b ∈ fallsTo r looks j ↔ r.fall.lo ≤ b ∧ b < r.fall.lo + j ∧ fallP r looks b = true := by
 intro j
 induction j with
 | zero => simp [fallsTo]; omega
 | succ j ih =>
  rw [fallsTo, List.mem_append, ih]
  cases h : fallP r looks (r.fall.lo + j)
  ·simp only [Bool.false_eq_true, if_false, List.not_mem_nil, or_false]; constructor
   ·rintro ⟨h1, h2, h3⟩; exact ⟨h1, by omega, h3⟩
   ·rintro ⟨h1, h2, h3⟩; refine ⟨h1, ?_, h3⟩
    by_cases e : b = r.fall.lo + j
    ·subst e; rw [h] at h3; cases h3
    ·omega
  ·simp only [if_true, List.mem_singleton]; constructor
   ·rintro (⟨h1, h2, h3⟩ | rfl)
    ·exact ⟨h1, by omega, h3⟩
    ·exact ⟨by omega, by omega, h⟩
   ·rintro ⟨h1, h2, h3⟩
    by_cases e : b = r.fall.lo + j
    ·exact .inr e
    ·exact .inl ⟨h1, by omega, h3⟩
theorem mem_fallsL {r : Riv} {looks b : Nat} (h : r.fall.lo ≤ r.fall.hi) : b ∈ fallsL r looks ↔ r.fall.lo ≤ b ∧ b ≤ r.fall.hi ∧ ∃ s, AllS r b looks 0 s := by
 unfold fallsL; rw [mem_fallsTo]; simp only [fallP, decide_eq_true_eq]; constructor
 ·rintro ⟨h1, h2, h3⟩; exact ⟨h1, by omega, h3⟩
 ·rintro ⟨h1, h2, h3⟩; exact ⟨h1, by omega, h3⟩
def KxK (k : Nat) (r : Riv) : World → World → Prop := fun X Y => X.grownBy Y (some k) ∧ KeptOK X k r ∧ KeptOK Y k r
theorem keepsRec_K (k : Nat) (r : Riv) : KeepsRec (KxK k r) := fun X Y ⟨hg, hX, _⟩ => by
 have hk : ∀ (b : Nat) (o : Obj), X.heap[b]? = some o → o.isWalk = false → Y.heap[b]? = some o := fun b o hb hw => (hg.block b (Array.getElem?_eq_some_iff.1 hb).1 (fun e => by
  cases e
  obtain ⟨o', h1, h2⟩ := hX.lt; rw [hb] at h1; cases h1
  rw [hw] at h2
  cases h2)).trans hb
 exact ⟨fun b rec hb => hk b _ hb rfl, fun b rec hb => hk b _ hb rfl⟩
theorem idx0 (ms : Nat → Option Nat) (w : World) : (Instr.index 184 (runV ms) (.int .i64 0)).run Tryz.prog w = .ok (.map (ms 0)) w := by kernel_rfl
theorem idx1 (ms : Nat → Option Nat) (w : World) : (Instr.index 184 (runV ms) (.int .i64 1)).run Tryz.prog w = .ok (.map (ms 1)) w := by kernel_rfl
theorem idx2 (ms : Nat → Option Nat) (w : World) : (Instr.index 184 (runV ms) (.int .i64 2)).run Tryz.prog w = .ok (.map (ms 2)) w := by kernel_rfl
theorem idx3 (ms : Nat → Option Nat) (w : World) : (Instr.index 184 (runV ms) (.int .i64 3)).run Tryz.prog w = .ok (.map (ms 3)) w := by kernel_rfl
theorem idx4 (ms : Nat → Option Nat) (w : World) : (Instr.index 184 (runV ms) (.int .i64 4)).run Tryz.prog w = .ok (.map (ms 4)) w := by kernel_rfl
theorem idx5 (ms : Nat → Option Nat) (w : World) : (Instr.index 184 (runV ms) (.int .i64 5)).run Tryz.prog w = .ok (.map (ms 5)) w := by kernel_rfl
theorem idx6 (ms : Nat → Option Nat) (w : World) : (Instr.index 184 (runV ms) (.int .i64 6)).run Tryz.prog w = .ok (.map (ms 6)) w := by kernel_rfl
theorem idx7 (ms : Nat → Option Nat) (w : World) : (Instr.index 184 (runV ms) (.int .i64 7)).run Tryz.prog w = .ok (.map (ms 7)) w := by kernel_rfl
theorem idx8 (ms : Nat → Option Nat) (w : World) : (Instr.index 184 (runV ms) (.int .i64 8)).run Tryz.prog w = .ok (.map (ms 8)) w := by kernel_rfl
theorem idx9 (ms : Nat → Option Nat) (w : World) : (Instr.index 184 (runV ms) (.int .i64 9)).run Tryz.prog w = .ok (.map (ms 9)) w := by kernel_rfl
theorem idx10 (ms : Nat → Option Nat) (w : World) : (Instr.index 184 (runV ms) (.int .i64 10)).run Tryz.prog w = .ok (.map (ms 10)) w := by kernel_rfl
theorem idx_run (ms : Nat → Option Nat) (i : Nat) (hi : i < 11) (z : Int) (hz : z = i) (w : World) : (Instr.index 184 (runV ms) (.int .i64 z)).run Tryz.prog w = .ok (.map (ms i)) w := by
 subst hz
 match i, hi with
 | 0, _ => exact idx0 ms w
 | 1, _ => exact idx1 ms w
 | 2, _ => exact idx2 ms w
 | 3, _ => exact idx3 ms w
 | 4, _ => exact idx4 ms w
 | 5, _ => exact idx5 ms w
 | 6, _ => exact idx6 ms w
 | 7, _ => exact idx7 ms w
 | 8, _ => exact idx8 ms w
 | 9, _ => exact idx9 ms w
 | 10, _ => exact idx10 ms w
 | i + 11, hi => exact absurd hi (by omega)
theorem fallP_iff {r : Riv} {looks by_ : Nat} : fallP r looks by_ = true ↔ ∃ s, AllS r by_ looks 0 s := by unfold fallP; simp
section
variable {B d k : Nat} {fa la : Option Addr} {fl fc ll lc : Nat} {r : Riv}
theorem falls_any (looks : Nat) (w : World) :
  Calls Tryz.prog 133 #[(.pointer (some ⟨d, 0, none⟩)), .int .u64 looks] w fun e w' => e = .returned (.func (.func 143) #[] #[.pointer (some ⟨w.heap.size, 0, none⟩), .pointer (some ⟨w.heap.size + 1, 0, none⟩)]) ∧
   w' = (w.alloc (.cells #[(.pointer (some ⟨d, 0, none⟩))] 115)).alloc (.cells #[.int .u64 looks] 164) := by
 have hmf := hmf0
 go_enter Tryz.func133, Tryz.ntmps133
 go_wp2; go_ret
 exact ⟨rfl, rfl⟩
structure FallPre (S : Nat → Prop) (W : World) (B d k bg bl looks : Nat) (fa : Option Addr) (fl fc : Nat) (la : Option Addr) (ll lc : Nat) (r : Riv) : Prop where
 hg : Blk W bg 115 #[(.pointer (some ⟨d, 0, none⟩))]
 hl : Blk W bl 164 #[.int .u64 looks]
 hd : GauIn W B d k fa fl fc la ll lc r
 ng : ¬ S bg
 nl : ¬ S bl
 nd : ¬ S d
 nB : ∀ b, S b → B ≤ b
theorem FallPre.turn {S S' : Nat → Prop} {X Y : World} {bg bl looks : Nat} (h : FallPre S X B d k bg bl looks fa fl fc la ll lc r) (t : Turn S' X Y) (hs : ∀ b, S' b → (S b ∨ b = k)) (hk : k ≠ bg ∧ k ≠ bl ∧ k ≠ d) (hB : B ≤ k) : FallPre S Y B d k bg bl looks fa fl fc la ll lc r := by
 have n1 : ¬ S' bg := fun e => (hs _ e).elim h.ng (fun e => hk.1 e.symm)
 have n2 : ¬ S' bl := fun e => (hs _ e).elim h.nl (fun e => hk.2.1 e.symm)
 have n3 : ¬ S' d := fun e => (hs _ e).elim h.nd (fun e => hk.2.2 e.symm)
 exact { h with hg := h.hg.turn t n1, hl := h.hl.turn t n2, hd := h.hd.turn t (fun b e => (hs _ e).elim (h.nB b) (fun e => e ▸ hB)) n3 }
theorem KeptOK.ne_blk {w : World} (h : KeptOK w k r) {g : Nat} {t : TypeId} {cs : Array Value} (hg : Blk w g t cs) : k ≠ g := by
 rintro rfl; obtain ⟨o, h1, h2⟩ := h.lt; rw [show w.heap[k]? = _ from hg] at h1
 cases h1
 cases h2
theorem falls_seq (hv : r.Good) (looks : Nat) (h2 : looks < 1000) (bg bl : Nat) :
  SeqK Tryz.prog 143 #[.pointer (some ⟨bg, 0, none⟩), .pointer (some ⟨bl, 0, none⟩)] ((fallsL r looks).map encB) TyB (KxK k r) (fun S W => FallPre S W B d k bg bl looks fa fl fc la ll lc r) (fun X => KeptOK X k r) := by
 rintro S L J Jx W hP _ hJ hJx hInv hY h0; have HP := Lib.hid hP; have HJ := Lib.hid hJ; have HJX := Lib.hid hJx; have HINV := Lib.hid hInv; have HY := Lib.hid hY; have HV := Lib.hid hv; have HJ0 := Lib.hid h0; have HF1 := Lib.hid hv.f1; have HF2 := Lib.hid hv.f2; have u1 : W.cell? ⟨bg, 0, none⟩ = some (.pointer (some ⟨d, 0, none⟩)) := hP.hg.cell 0; have ud : W.cell? ⟨d, 2, none⟩ = some (.int .i64 r.fall.lo) := hP.hd.blk.cell 2; clear hP hJ hJx hInv hY hv h0; refine (callsIn_wide (n := 6)).1 (callsIn_of_wp Tryz.func143 rfl trivial ?_ rfl); simp only [Tryz.ntmps143, List.size_toArray, List.length_cons, List.length_nil, Nat.reduceAdd, Nat.reduceSub, Array.replicate_succ, Array.replicate_zero, List.push_toArray, List.append_toArray, List.nil_append, List.cons_append]
 gi_wp2
 gi_loopw [4] (fun v wr => ∃ j, j ≤ r.fall.hi + 1 - r.fall.lo ∧ v = .int .i64 ((r.fall.lo + j : Nat) : Int) ∧ Hid (J (fallsTo r looks j).length wr) ∧ Hid (FallPre S wr B d k bg bl looks fa fl fc la ll lc r) ∧ Hid (W.heap.size ≤ wr.heap.size)) (fun v _ => r.fall.hi + 1 - (intOf v).toNat)
 case atStart => exact ⟨0, Nat.zero_le _, rfl, HJ0, HP, Nat.le_refl _⟩
 case round =>
  obtain ⟨j, hj, rfl, HJr, HPr, HSr⟩ := hrel; clear u1 ud; have u1 : wr.cell? ⟨bg, 0, none⟩ = some (.pointer (some ⟨d, 0, none⟩)) := HPr.out.hg.cell 0; have u2 : wr.cell? ⟨bl, 0, none⟩ = some (.int .u64 looks) := HPr.out.hl.cell 0; have ud : wr.cell? ⟨d, 3, none⟩ = some (.int .i64 r.fall.hi) := HPr.out.hd.blk.cell 3; have hf1 := HF1.out; have hf2 := HF2.out
  by_cases hlt : r.fall.lo + j ≤ r.fall.hi
  ·have hc : (r.fall.lo : Int) + j ≤ r.fall.hi := by omega
   gi_wp2_with fail
   have hcall := run_any HV.out (r.fall.lo + j) looks (by omega) h2 wr HPr.out.hd (HINV.out _ _ HJr.out)
   unfold quV at hcall; rw [show ((r.fall.lo + j : Nat) : Int) = (r.fall.lo : Int) + j by omega] at hcall
   refine ⟨trivial, (callsIn_wide.2 hcall).mono ?_⟩; rintro e w1 ⟨ms, rfl, hrun, hkept, hgrow⟩; obtain ⟨b, S0, hm0, hbk, hM, hS⟩ := hrun 0 (Nat.zero_le _)
   have HT1 : Hid (Turn (fun x => x = k) wr w1) := Turn.of_grown hgrow (fun q e _ => by cases e; rfl)
   have HJ1 : Hid (J (fallsTo r looks j).length w1) := (HJ.out _).2 wr w1 HJr.out ⟨hgrow, HINV.out _ _ HJr.out, hkept⟩
   have HP1 : Hid (FallPre S w1 B d k bg bl looks fa fl fc la ll lc r) := HPr.out.turn HT1.out (fun x e => .inr e) ⟨(HINV.out _ _ HJr.out).ne_blk HPr.out.hg, (HINV.out _ _ HJr.out).ne_blk HPr.out.hl, HPr.out.hd.kd⟩ HPr.out.hd.hk
   have HS1 : Hid (W.heap.size ≤ w1.heap.size) := Nat.le_trans HSr.out HT1.out.size; obtain ⟨n, hlen, hn0, hnm⟩ := hM.len 3; have HN0 := Lib.hid hn0; have HSS := Lib.hid hS; have hidx := idx_run ms 0 (by omega) 0 rfl w1
   rw [hm0] at hidx; unfold runV at hidx ⊢; simp only [hm0] at hidx ⊢; have HM0 := Lib.hid hm0; clear hm0; clear hcall u1 u2 ud hrun hkept hgrow hn0 hS; rcases Nat.eq_zero_or_pos n with hz | hpos
   ·have HNO : Hid (fallP r looks (r.fall.lo + j) = false) := by
     show _ = false
     cases hfp : fallP r looks (r.fall.lo + j) with
     | false => rfl
     | true =>
     exfalso
     obtain ⟨s, hs⟩ := fallP_iff.1 hfp; have h1 := (HSS.out s).2 hs; rw [HN0.out.1 hz] at h1; simp at h1
    have HJ2 : Hid (J (fallsTo r looks (j + 1)).length w1) := by
     show J _ w1; rw [fallsTo_no HNO.out]; exact HJ1.out
    rw [hz, show ((0 : Nat) : Int) = 0 from rfl] at hlen
    clear hz hnm
    gi_wp2
    refine ⟨(fun _ h => by cases h), ?_⟩
    gi_wp2
    go_roundw
    case rel => exact ⟨j + 1, by omega, by go_num, HJ2, HP1, HS1⟩
    case measure => simp [intOf]; omega
   ·have hgt : (0 : Int) < n := by omega
    have HYES : Hid (fallP r looks (r.fall.lo + j) = true) := by
     show _ = true; rw [fallP_iff]
     cases hS0 : S0 with
     | nil => have := HN0.out.2 hS0; omega
     | cons s S1 => exact ⟨s, (HSS.out s).1 (by rw [hS0]; simp)⟩
    obtain ⟨fn, tmps, assign, body, hy, hR⟩ := HY.out _ (encB (r.fall.lo + j)) w1 HJ1.out (by rw [List.getElem?_map, fallsL_at HYES.out (by omega)]; rfl)
    unfold encB at hy; rw [show ((r.fall.lo + j : Nat) : Int) = (r.fall.lo : Int) + j by omega] at hy
    have HR := Lib.hid hR; clear hR
    gi_wp2_with fail
    refine RoundIn.anyDepth (m := 0) rfl (HR.out.mono ?_); rintro e Y ⟨hT2, (⟨rfl, hJ2⟩ | ⟨rfl, hJ2⟩)⟩
    ·have HJ2 : Hid (J (fallsTo r looks (j + 1)).length Y) := by
      show J _ Y; rw [fallsTo_yes HYES.out, List.length_append]; exact hJ2
     have HP2 : Hid (FallPre S Y B d k bg bl looks fa fl fc la ll lc r) := HP1.out.turn hT2 (fun x e => .inl e) ⟨(HINV.out _ _ HJ1.out).ne_blk HP1.out.hg, (HINV.out _ _ HJ1.out).ne_blk HP1.out.hl, HP1.out.hd.kd⟩ HP1.out.hd.hk
     have HS2 : Hid (W.heap.size ≤ Y.heap.size) := Nat.le_trans HS1.out hT2.size; clear hT2 hJ2
     gi_wp2
     go_roundw
     case rel => exact ⟨j + 1, by omega, by go_num, HJ2, HP2, HS2⟩
     case measure => simp [intOf]; omega
    ·have HJ2 := Lib.hid hJ2; clear hT2 hJ2
     gi_wp2
     refine bodyPost_ret (results_none rfl _ _ _) rfl ?_; exact ⟨⟨_, rfl⟩, .inr HJ2.out⟩
  ·have hc : ¬ (r.fall.lo : Int) + j ≤ r.fall.hi := by omega
   have HJ2 : Hid (J (fallsL r looks).length wr) := by
    show J _ wr; unfold fallsL; rw [← show j = r.fall.hi + 1 - r.fall.lo by omega]
    exact HJr.out
   gi_wp2
   go_end0
   exact ⟨⟨_, rfl⟩, .inl HJ2.out⟩
end
end Go.Proofs.YtgmfhngcehkibaaGreat
namespace Go.Proofs.YtgmfhngcehkibaaGreat
open Go.RowKit Go.Hav Go.Shelf Go.Sq
attribute [local go_sem] Oper.semAt_some
theorem own_kept (B k : Nat) (r : Riv) : OwnT B TyB (KxK k r) (fun X => KeptOK X k r) :=
 ⟨fun X Y row h hg hr => h.keep fun b o hb hw => (hg.block b (Array.getElem?_eq_some_iff.1 hb).1 (fun e => by
  obtain ⟨_, o', h1, h2⟩ := hr b e.symm; rw [hb] at h1; cases h1
  rcases h2 with ⟨_, h2⟩ | ⟨cs, t, g, rfl, _⟩
  ·rw [hw] at h2; cases h2
  ·cases hw)).trans hb, fun X Y _ h => h.2.2⟩
theorem own_ltK {B k l : Nat} {r : Riv} {t : TypeId} {cs : Array Value} (hl : l < B) : OwnT B TyB (KxK k r) (fun X => Blk X l t cs) :=
 ⟨fun X Y row hJ hg hr => (hg.block l hJ.lt (fun e => by have := (hr l e.symm).1; omega)).trans hJ, fun X Y hJ h => (h.1.block l hJ.lt (fun e => h.2.1.ne_blk hJ (Option.some.inj e).symm)).trans hJ⟩
theorem own_turnK {B k : Nat} {r : Riv} {S : Nat → Prop} {W : World} (hW : W.heap.size ≤ B) (hS : S k) : OwnT B TyB (KxK k r) (fun X => Turn S W X) :=
 OwnT.turn TyB hW (fun X Y t h => t.trans (Turn.of_grown h.1 (fun q e _ => by cases e; exact hS)))
theorem Turn.grownK {k : Nat} {X Y : World} (h : Turn (fun x => x = k) X Y) : X.grownBy Y (some k) := ⟨h.os, h.tape, h.output, h.size, fun b hb hn => h.block b hb (fun e => hn (by rw [show b = k from e]))⟩
section
variable {B d k : Nat} {fa la : Option Addr} {fl fc ll lc : Nat} {r : Riv}
theorem every_any (hv : r.Good) (w : World) (hD : GauIn w B d k fa fl fc la ll lc r) :
  Calls Tryz.prog 115 #[(.pointer (some ⟨d, 0, none⟩))] w fun e w' => e = .returned (.int .u64 (full r.lk.length)) ∧ w' = w := by
 have hll : ll ≤ 5 := by have := hv.ll; rw [hD.ell] at this; exact this
 have p6 : w.cell? ⟨d, 6, none⟩ = some (.slice la ll lc) := hD.blk.cell 6; have hdw : d < w.heap.size := hD.blk.lt; have HE := Lib.hid hD.ell; clear hv hD; have h6 : ll = 0 ∨ ll = 1 ∨ ll = 2 ∨ ll = 3 ∨ ll = 4 ∨ ll = 5 := by omega
 rcases h6 with rfl | rfl | rfl | rfl | rfl | rfl
 all_goals
  go_enter Tryz.func115, Tryz.ntmps115
  go_wp2; go_ret
  rw [HE.out]; exact ⟨rfl, rfl⟩
noncomputable def canB (r : Riv) (looks : Nat) : Bool := !(fallsL r looks).isEmpty
theorem can_any (hv : r.Good) (looks : Nat) (h2 : looks < 1000) (w : World) (hD : GauIn w B d k fa fl fc la ll lc r) (hK : KeptOK w k r) :
  Calls Tryz.prog 121 #[(.pointer (some ⟨d, 0, none⟩)), .int .u64 looks] w fun e w' => e = .returned (.bool (canB r looks)) ∧ KeptOK w' k r ∧ w.grownBy w' (some k) := by
 have HD := Lib.hid hD; have HV := Lib.hid hv; have HK := Lib.hid hK; have hdw : d < w.heap.size := hD.blk.lt; have hBw : B ≤ w.heap.size := hD.hB; have hkw : k < w.heap.size := by obtain ⟨o, ho, _⟩ := hK.lt; exact (Array.getElem?_eq_some_iff.1 ho).1
 clear hD hv hK; refine (callsIn_wide (n := 6)).1 (callsIn_of_wp_marks Tryz.func121 rfl trivial ?_ rfl); simp only [Tryz.ntmps121, List.size_toArray, List.length_cons, List.length_nil, Nat.reduceAdd, Nat.reduceSub, Array.replicate_succ, Array.replicate_zero, List.push_toArray, List.append_toArray, List.nil_append, List.cons_append]; refine wpIn_wide.2 ?_; go_wp2_with fail; obtain ⟨W0, hW0⟩ : ∃ W0, W0 = w.alloc (.cells #[.bool false] 4) := ⟨_, rfl⟩; obtain ⟨W2, hW2⟩ : ∃ W2, W2 = (W0.alloc (.cells #[(.pointer (some ⟨d, 0, none⟩))] 115)).alloc (.cells #[.int .u64 looks] 164) := ⟨_, rfl⟩; have hs0 : W0.heap.size = w.heap.size + 1 := by rw [hW0]; simp
 have hs2 : W2.heap.size = w.heap.size + 3 := by rw [hW2]; simp [hs0]
 have HB0 : Hid (Below w.heap.size w W2) := by rw [hW2, hW0]; exact (((Below.refl _ _).alloc (Nat.le_refl _) _).alloc (by simp) _).alloc (by simp; omega) _
 have HX4 : Hid (Blk W2 w.heap.size 4 #[.bool false]) := by rw [hW2, hW0]; exact ((Blk.new w 4 _).alloc _).alloc _
 have HXg : Hid (Blk W2 (w.heap.size + 1) 115 #[(.pointer (some ⟨d, 0, none⟩))]) := by rw [hW2]; exact (Blk.new_ hs0 115 _).alloc _
 have HXl : Hid (Blk W2 (w.heap.size + 2) 164 #[.int .u64 looks]) := by rw [hW2]; exact Blk.new_ (by simp [hs0]) 164 _
 have HD2 := Lib.hid (HD.out.grow HB0.out); have HK2 := Lib.hid (HK.out.below HB0.out); rw [← hW0]; refine (falls_any looks W0).mono ?_; rw [← hW2]; rintro e w1 ⟨rfl, hw1⟩; obtain rfl : W2 = w1 := hw1.symm; rw [hs0]; have heg : ∀ args w, (callFunc 143 args).run Tryz.prog w = .ok (.enter 143 args) w := enters_of Tryz.func143 (by kernel_rfl) rfl
 have HEG := Lib.hid heg; have HS2 := Lib.hid hs2; have hseq := falls_seq (B := B) (d := d) (k := k) (fa := fa) (fl := fl) (fc := fc) (la := la) (ll := ll) (lc := lc) HV.out looks h2 (w.heap.size + 1) (w.heap.size + 1 + 1); have HSEQ := Lib.hid hseq; obtain ⟨F, hF⟩ : ∃ F, F = fallsL r looks := ⟨_, rfl⟩; rw [← hF] at HSEQ; have HFE := Lib.hid hF; clear hW0 hW2 hs0 hs2 heg hseq hF; go_wp2_with fail
 refine wpIn_wide.1 (wpIn_rangeK_slots (n := 6) rfl HEG.out HSEQ.out (keepsRec_K k r) (fun x hx => by obtain ⟨y, _, rfl⟩ := List.mem_map.1 hx; rfl) (fun x => x = w.heap.size) (fun e => by have e' : _ = _ := e; have := HS2.out; omega) (fun e => by have e' : _ = _ := e; have := HS2.out; omega)
  (fun rec => ⟨(HXg.out.alloc _).alloc _, (HXl.out.alloc _).alloc _, (HD2.out.grow (((Below.refl _ _).alloc (Nat.le_refl _) _).alloc (by simp) _)), fun e => by rcases e with e | e <;> (have e' : _ = _ := e; have := HS2.out; omega), fun e => by rcases e with e | e <;> (have e' : _ = _ := e; have := HS2.out; omega), fun e => by rcases e with e | e <;> (have e' : _ = _ := e; have := HS2.out; omega), fun b e => by rcases e with e | e <;> (have e' : _ = _ := e; have := HS2.out; omega)⟩)
  (fun n Xw => (Turn (fun x => x = k) W2 Xw ∧ KeptOK Xw k r) ∧ Blk Xw w.heap.size 4 #[.bool false] ∧ n = 0) (fun cd Xw => (Turn (fun x => x = k ∨ x = w.heap.size) W2 Xw ∧ KeptOK Xw k r) ∧ Blk Xw w.heap.size 4 #[.bool true] ∧ cd = .ret ∧ F ≠ [])
  (fun n => ((own_turnK (S := fun x => x = k) (W := W2) (Nat.le_refl _) rfl).and (own_kept _ k r)).and ((own_ltK (l := w.heap.size) (by have := HS2.out; omega)).and (OwnT.pure _ _ _ _))) (fun cd => ((own_turnK (S := fun x => x = k ∨ x = w.heap.size) (W := W2) (Nat.le_refl _) (.inl rfl)).and (own_kept _ k r)).and ((own_ltK (l := w.heap.size) (by have := HS2.out; omega)).and (OwnT.pure _ _ _ _)))
  (fun n X h => h.1.2)
  ⟨⟨Turn.refl _ _, HK2.out⟩, HX4.out, rfl⟩
  (fun n (_ : Unit) T => T.setIfInBounds 8 (.int .i64 ((F[n]?.getD 0 : Nat) : Int))) (fun n _ Xw => True) (fun _ _ => (OwnT.pure _ _ _ _))
  ?assign ?body ?done ?stop)
 case assign =>
  rintro l n xx Xw K hI hx hK; rw [List.getElem?_map] at hx
  obtain ⟨y, hy⟩ : ∃ y, F[n]? = some y := by
   cases h : F[n]? with
   | none => rw [h] at hx; cases hx
   | some y => exact ⟨y, rfl⟩
  rw [hy] at hx hK; obtain rfl : encB y = xx := Option.some.inj hx; simp only [Option.getD_some] at hK; simp only [List.setIfInBounds_toArray, List.set_cons_succ, List.set_cons_zero] at hK; dsimp only [encB]; have HK := Lib.hid hK; have HI := Lib.hid hI; clear hK hx hI
  gi_wp2
  have h := HK.out () _ (Turn.refl _ Xw) HI.out trivial
  simpa using h
 case body =>
  rintro l n xx Bx Xw hl hr ⟨⟨hT, hk⟩, h4, rfl⟩ _ hx; rw [List.getElem?_map] at hx
  obtain ⟨y, hy⟩ : ∃ y, F[0]? = some y := by
   cases h : F[0]? with
   | none => rw [h] at hx; cases hx
   | some y => exact ⟨y, rfl⟩
  have HNE : Hid (F ≠ []) := fun e => by rw [e] at hy; cases hy
  have HT := Lib.hid hT; have HKX := Lib.hid hk; have H4 := Lib.hid h4; simp only [List.setIfInBounds_toArray, List.set_cons_succ, List.set_cons_zero]; have f4 := h4.frozen 0; have c4 : Xw.cell? ⟨w.heap.size, 0, none⟩ = some (.bool false) := h4.cell 0; have l4 := h4.lt; clear hT hk h4 hx hr
  gi_wp2
  have hset : Turn (fun x => x = w.heap.size) Xw (Xw.setCell ⟨w.heap.size, 0, none⟩ (.bool true)) := Turn.set _ _ (fun _ => rfl)
  refine ⟨hset, ⟨⟨(HT.out.mono fun _ => .inl).trans (hset.mono fun _ => .inr), HKX.out.turn hset (fun b o e hb => ?_)⟩, H4.out.set_ 0 _, rfl, HNE.out⟩⟩
  obtain rfl : b = w.heap.size := e; rw [show Xw.heap[w.heap.size]? = _ from H4.out] at hb
  cases hb
  rfl
 case done =>
  rintro D Xw hDe ⟨⟨hT, hk⟩, h4, hn⟩ hDD; have HT := Lib.hid hT; have HKX := Lib.hid hk; have H4 := Lib.hid h4; have HDD := Lib.hid hDD; have HDE := Lib.hid hDe
  have HF : Hid (canB r looks = false) := by
   show canB r looks = false; rw [List.length_map] at hn; unfold canB; rw [← HFE.out, List.eq_nil_of_length_eq_zero hn]
   rfl
  have f4 := h4.frozen 0; have c4 : Xw.cell? ⟨w.heap.size, 0, none⟩ = some (.bool false) := h4.cell 0; have l4 := h4.lt; clear hT hk h4 hn hDD hDe; go_wp2; have hDB : w.heap.size ≠ D := by have := HDE.out; have := HS2.out; omega
  have hset : Turn (fun x => x = w.heap.size) Xw (Xw.setCell ⟨w.heap.size, 0, none⟩ (.bool false)) := Turn.set _ _ (fun _ => rfl)
  have hD2 : (Xw.setCell ⟨w.heap.size, 0, none⟩ (.bool false)).heap[D]? = some (.deferred (some [])) := (Below.heap_setCell Xw ⟨w.heap.size, 0, none⟩ _ D (fun e => hDB e.symm)).trans HDD.out
  refine ⟨by simp, .inl ⟨_, _, rfl, run_takeDeferred hD2, ?_⟩⟩
  have e0 : ((Xw.setCell ⟨w.heap.size, 0, none⟩ (.bool false)).putObj D (.deferred none)).cell? ⟨w.heap.size, 0, none⟩ = some (.bool false) := (World.cell?_of_block (a := ⟨w.heap.size, 0, none⟩) (World.putObj_heap_other hDB)).trans ((H4.out.set_ 0 (.bool false)).cell 0)
  have hk2 : KeptOK (Xw.setCell ⟨w.heap.size, 0, none⟩ (.bool false)) k r := HKX.out.turn hset (fun b o e hb => by
   obtain rfl : b = w.heap.size := e; rw [show Xw.heap[w.heap.size]? = _ from H4.out] at hb
   cases hb
   rfl)
  refine ⟨.bool false, by simp [results, Tryz.results121, go_sem, e0], by rw [HF.out], (own_kept w.heap.size k r).put _ hk2 (by have := HDE.out; have := HS2.out; omega) hD2 rfl, ?_⟩
  have hsx := HT.out.size
  exact Turn.grownK (((Turn.of_below HB0.out).trans HT.out).join ((hset.mono (fun x e => show x = w.heap.size ∨ x = D from .inl e)).trans (Turn.put _ (.inr rfl))) (fun b h hb => by
   have := HDE.out; have := HS2.out; have h' : b = w.heap.size ∨ b = D := h
   omega))
 case stop =>
  rintro D cd Xw hDe ⟨⟨hT, hk⟩, h4, rfl, hne⟩ hDD; have HT := Lib.hid hT; have HKX := Lib.hid hk; have H4 := Lib.hid h4; have HDD := Lib.hid hDD; have HDE := Lib.hid hDe
  have HF : Hid (canB r looks = true) := by
   show canB r looks = true; unfold canB; rw [← HFE.out]
   cases hF : F with
   | nil => exact absurd hF hne
   | cons a l => rfl
  clear hT hk h4 hne hDD hDe
  gi_wp2
  have hDB : w.heap.size ≠ D := by have := HDE.out; have := HS2.out; omega
  refine ⟨by simp, .inl ⟨_, _, rfl, run_takeDeferred HDD.out, ?_⟩⟩
  have e0 : (Xw.putObj D (.deferred none)).cell? ⟨w.heap.size, 0, none⟩ = some (.bool true) := (World.cell?_of_block (a := ⟨w.heap.size, 0, none⟩) (World.putObj_heap_other hDB)).trans (H4.out.cell 0); refine ⟨.bool true, by simp [results, Tryz.results121, go_sem, e0], by rw [HF.out], (own_kept w.heap.size k r).put _ HKX.out (by have := HDE.out; have := HS2.out; omega) HDD.out rfl, ?_⟩
  have hsx := HT.out.size
  exact Turn.grownK (((Turn.of_below HB0.out).join HT.out (fun b h hb => by
   have h' : b = k ∨ b = w.heap.size := h; rcases h' with h' | h'
   ·exact h'
   ·omega)).join (Turn.put (S := fun x => x = D) _ rfl) (fun b h hb => by
   have := HDE.out; have := HS2.out; have h' : b = D := h
   omega))
end
end Go.Proofs.YtgmfhngcehkibaaGreat
namespace Go.Proofs.YtgmfhngcehkibaaGreat
open Go.RowKit Go.Hav Go.Shelf Go.Sq
attribute [local go_sem] Oper.semAt_some
def refE (e : Int) : PanicEntry := { v := .iface 157 (.agg #[.int .i64 e]), recovered := false }
theorem must_any (b : Bool) (e : Int) (w : World) : Calls Tryz.prog 122 #[.bool b, .int .i64 e] w fun x w' => x = (if b then .returned (.tuple #[]) else .panicked [refE e]) ∧ w' = w := by
 cases b
 ·go_enter Tryz.func122, Tryz.ntmps122
  go_wp2; exact ⟨rfl, rfl, rfl⟩
 ·go_enter Tryz.func122, Tryz.ntmps122
  go_wp2
  go_end0
  exact ⟨rfl, rfl⟩
structure Gro (w w' : World) : Prop where
 b : Below w.heap.size w w'
 nw : ∀ (g : Nat) (o : Obj), w.heap.size ≤ g → w'.heap[g]? = some o → o.isWalk = false
theorem Gro.refl (w : World) : Gro w w := ⟨Below.refl _ _, fun g o h1 h2 => by have := (Array.getElem?_eq_some_iff.1 h2).1; omega⟩
theorem Gro.trans {a b c : World} (h : Gro a b) (k : Gro b c) : Gro a c := ⟨h.b.trans (k.b.mono h.b.size), fun g o h1 h2 => by
 by_cases e : g < b.heap.size
 ·exact h.nw g o h1 ((k.b.block g e).symm.trans h2)
 ·exact k.nw g o (by omega) h2⟩
theorem Gro.alloc {a b : World} (h : Gro a b) (cs : Array Value) (t : TypeId) : Gro a (b.alloc (.cells cs t)) := h.trans ⟨(Below.refl _ _).alloc (Nat.le_refl _) _, fun g o h1 h2 => by
 have h3 := (Array.getElem?_eq_some_iff.1 h2).1; rw [World.size_alloc] at h3; obtain rfl : g = b.heap.size := by omega
 rw [World.alloc_heap_new] at h2; cases h2
 rfl⟩
theorem isSp_any (s : ISp) (low high much : Int) (h0 : 0 ≤ low) (h1 : high ≤ 1000) (w : World) :
  Calls Tryz.prog 130 #[.agg #[.int .i64 s.lo, .int .i64 s.hi], .int .i64 low, .int .i64 high, .int .i64 much] w fun e w' => e = .returned (.bool (spB s low high much)) ∧ Gro w w' := by
 obtain ⟨lo, hi⟩ := s
 by_cases q1 : low ≤ lo
 case neg =>
  have hb : spB ⟨lo, hi⟩ low high much = false := by unfold spB; simp [q1]
  rw [hb]; clear hb
  go_enter Tryz.func130, Tryz.ntmps130
  go_wp2; go_ret
  exact ⟨rfl, (Gro.refl _).alloc _ _⟩
 by_cases q2 : lo ≤ hi
 case neg =>
  have hb : spB ⟨lo, hi⟩ low high much = false := by unfold spB; simp [q2]
  rw [hb]; clear hb
  go_enter Tryz.func130, Tryz.ntmps130
  go_wp2; go_ret
  exact ⟨rfl, (Gro.refl _).alloc _ _⟩
 by_cases q3 : hi ≤ high
 case neg =>
  have hb : spB ⟨lo, hi⟩ low high much = false := by unfold spB; simp [q3]
  rw [hb]; clear hb
  go_enter Tryz.func130, Tryz.ntmps130
  go_wp2; go_ret
  exact ⟨rfl, (Gro.refl _).alloc _ _⟩
 have p1 : 0 ≤ hi - lo := by omega
 have p2 : hi - lo ≤ 1000 := by omega
 by_cases q4 : hi - lo ≤ much
 ·have hb : spB ⟨lo, hi⟩ low high much = true := spB_iff.2 ⟨q1, q2, q3, q4⟩; rw [hb]; clear hb
  go_enter Tryz.func130, Tryz.ntmps130
  go_wp2; go_ret
  exact ⟨rfl, (Gro.refl _).alloc _ _⟩
 ·have hb : spB ⟨lo, hi⟩ low high much = false := by unfold spB; simp [q4]
  rw [hb]; clear hb
  go_enter Tryz.func130, Tryz.ntmps130
  go_wp2; go_ret
  exact ⟨rfl, (Gro.refl _).alloc _ _⟩
section
variable {B d k : Nat} {fa la : Option Addr} {fl fc ll lc : Nat} {r : Riv}
theorem isDay_any (n : Int) (dn : Int) (w : World) (hd : w.cell? ⟨d, 4, none⟩ = some (.int .i64 dn)) (hl : d < w.heap.size) :
  Calls Tryz.prog 132 #[(.pointer (some ⟨d, 0, none⟩)), .int .i64 n] w fun e w' => e = .returned (.bool (inB n 0 dn)) ∧ w' = w := by
 go_enter Tryz.func132, Tryz.ntmps132
 go_wp2_with fail; refine (within_any _ _ _ _).mono ?_
 rintro e w' ⟨rfl, rfl⟩; go_wp2; go_ret
 exact ⟨rfl, rfl⟩
theorem isDraught_any (n : Int) (w : World) : Calls Tryz.prog 110 #[.int .i64 n] w fun e w' => e = .returned (.bool (isDrB n)) ∧ w' = w := by
 unfold isDrB
 go_enter Tryz.func110, Tryz.ntmps110
 go_wp2_with fail; refine (within_any _ _ _ _).mono ?_
 rintro e w' ⟨rfl, rfl⟩; go_wp2; go_ret
 exact ⟨rfl, rfl⟩
theorem full_lt32 {n : Nat} (h : n ≤ 5) : full n < 1000 := by
 have h1 := full_lt n; have h2 := Nat.pow_le_pow_right (n := 2) (by omega) h
 omega
theorem told_no (hv : r.Good) (hc : canB r (full r.lk.length) = false) (w : World) (hD : GauIn w B d k fa fl fc la ll lc r) (hK : KeptOK w k r) :
  Calls Tryz.prog 111 #[(.pointer (some ⟨d, 0, none⟩))] w fun e w' => e = .panicked [refE 10] ∧ KeptOK w' k r ∧ w.grownBy w' (some k) := by
 have HD := Lib.hid hD; have HV := Lib.hid hv; have HK := Lib.hid hK; have HC := Lib.hid hc; have hfu := full_lt32 hv.ll; clear hD hv hK hc
 go_enter Tryz.func111, Tryz.ntmps111
 go_wp2_with fail; refine (every_any HV.out w HD.out).mono ?_
 rintro e w' ⟨rfl, rfl⟩; go_wp2_with fail; refine (can_any HV.out _ hfu _ HD.out HK.out).mono ?_; rw [HC.out]; rintro e w1 ⟨rfl, hk, hg⟩; have HK1 := Lib.hid hk; have HG1 := Lib.hid hg; clear hk hg; go_wp2_with fail; refine (must_any false 10 _).mono ?_; rintro e w2 ⟨h1, rfl⟩; obtain rfl : e = .panicked [refE 10] := h1; go_wp2; exact ⟨rfl, rfl, HK1.out, HG1.out⟩
theorem told_yes (hv : r.Good) (hc : canB r (full r.lk.length) = true) (w : World) (hD : GauIn w B d k fa fl fc la ll lc r) (hK : KeptOK w k r) :
  Calls Tryz.prog 111 #[(.pointer (some ⟨d, 0, none⟩))] w fun e w' => e = .returned (.pointer (some ⟨d, 0, none⟩)) ∧ KeptOK w' k r ∧ w.grownBy w' (some k) := by
 have HD := Lib.hid hD; have HV := Lib.hid hv; have HK := Lib.hid hK; have HC := Lib.hid hc; have hfu := full_lt32 hv.ll; clear hD hv hK hc
 go_enter Tryz.func111, Tryz.ntmps111
 go_wp2_with fail; refine (every_any HV.out w HD.out).mono ?_
 rintro e w' ⟨rfl, rfl⟩; go_wp2_with fail; refine (can_any HV.out _ hfu _ HD.out HK.out).mono ?_; rw [HC.out]; rintro e w1 ⟨rfl, hk, hg⟩; have HK1 := Lib.hid hk; have HG1 := Lib.hid hg; clear hk hg; go_wp2_with fail; refine (must_any true 10 _).mono ?_; rintro e w2 ⟨h1, rfl⟩; obtain rfl : e = .returned (.tuple #[]) := h1; go_wp2; go_ret
 exact ⟨rfl, HK1.out, HG1.out⟩
end
end Go.Proofs.YtgmfhngcehkibaaGreat
namespace Go.Proofs.YtgmfhngcehkibaaGreat
open Go.RowKit Go.Hav Go.Shelf Go.Sq
attribute [local go_sem] Oper.semAt_some
def spF (n : Nat) : List Value := [.int .i64 n, .int .i64 n]
theorem spF_len (n : Nat) : (spF n).length = 2 := rfl
def hullV (s : Nat × Nat) : Value := .agg #[.int .i64 s.1, .int .i64 s.2]
theorem hullP_snoc {l : List Nat} (h : l ≠ []) (x : Nat) : hullP (l ++ [x]) = (min (hullP l).1 x, max (hullP l).2 x) := by
 cases l with
 | nil => exact absurd rfl h
 | cons a l => simp [hullP, List.foldl_append]
theorem rd_sp {w : World} {B : Nat} {A : Option Addr} {l : List Nat} (h : RdG spF 2 w B A l) (k : Nat) (c : Nat) (hc : l[k]? = some c) : ∃ b off, A = some ⟨b, off, none⟩ ∧ b < B ∧ w.cell? ⟨b, off + k * 2, none⟩ = some (.int .i64 c) ∧ w.cell? ⟨b, off + k * 2 + 1, none⟩ = some (.int .i64 c) := by
 obtain ⟨b, off, e, hb, hx⟩ := h k c hc; exact ⟨b, off, e, hb, hx 0 _ rfl, by rw [Nat.add_assoc]; exact hx 1 _ rfl⟩
theorem joined_any (A : Option Addr) (n cp : Nat) (hn : n ≤ 1000000000) (xs : List Nat) (hl : xs.length = n) (w : World) (hr : RdG spF 2 w w.heap.size A xs) :
  Calls Tryz.prog 135 #[.slice A n cp] w fun e w' => e = .returned (hullV (hullP xs)) ∧ Below w.heap.size w w' := by
 have HR := Lib.hid hr; have HL := Lib.hid hl; clear hr hl
 go_enter Tryz.func135, Tryz.ntmps135
 go_wp2
 go_loopw [7] (fun i wr => ∃ (k : Nat) (o : Nat × Nat), k ≤ n ∧ i = .int .i64 k ∧ Hid (hullP (xs.take k) = o) ∧ Blk wr w.heap.size 23 #[.int .i64 o.1, .int .i64 o.2] ∧
   Below w.heap.size w wr) (fun i _ => n - (intOf i).toNat)
 case atStart => exact ⟨0, (0, 0), Nat.zero_le _, rfl, rfl, Blk.new_ (by simp) _ _, (Below.refl w.heap.size w).alloc (by simp) _⟩
 case round =>
  obtain ⟨k, o, hk, rfl, HF, hbk, hb⟩ := hrel; have HB := Lib.hid hb; have HK := Lib.hid hbk; have hlt0 := hbk.lt; have r0 : wr.cell? ⟨w.heap.size, 0, none⟩ = some (.int .i64 o.1) := hbk.cell 0; have r1 : wr.cell? ⟨w.heap.size, 1, none⟩ = some (.int .i64 o.2) := hbk.cell 1; have f0 : wr.frozen? ⟨w.heap.size, 0, none⟩ = false := hbk.frozen 0; have f1 : wr.frozen? ⟨w.heap.size, 1, none⟩ = false := hbk.frozen 1; clear hb hbk
  by_cases hlt : k < n
  ·obtain ⟨c, hc⟩ : ∃ c, xs[k]? = some c := ⟨xs[k]'(by have := HL.out; omega), by simp⟩
   have htk : xs.take (k + 1) = xs.take k ++ [c] := by rw [List.take_add_one, hc]; rfl
   obtain ⟨b, off, rfl, hbl, H0, H1⟩ := rd_sp (HR.out.below HB.out) k c hc; have hsz := HB.out.size
   by_cases h0 : k = 0
   ·subst h0; simp only [Nat.zero_mul, Nat.add_zero] at H0 H1; have HN : Hid (hullP (xs.take (0 + 1)) = (c, c)) := by show _ = _; rw [htk]; rfl
    have hmn := min_run c c; have hmx := max_run c c; rw [Int.min_self] at hmn; rw [Int.max_self] at hmx; clear hc htk; go_wp2; go_roundw
    case rel => exact ⟨0 + 1, (c, c), by omega, by go_num, HN, ((((HK.out.set_ 0 _).set_ 1 _).set_ 0 _).set_ 1 _).alloc _, ((((HB.out.setCell (by simp) _).setCell (by simp) _).setCell (by simp) _).setCell (by simp) _).alloc (by simp; omega) _⟩
    case measure => simp [intOf]; omega
   ·have h0' : ¬ (k : Int) = 0 := by omega
    have h0'' : ((k : Int) == 0) = false := by simpa using h0
    have HN : Hid (hullP (xs.take (k + 1)) = (min o.1 c, max o.2 c)) := by
     show _ = _
     rw [htk, hullP_snoc (fun e => by have h := congrArg List.length e; rw [List.length_take, HL.out] at h; simp at h; omega), HF.out]
    have hmn := min_run o.1 c; have hmx := max_run o.2 c; rw [show min (o.1 : Int) c = ((min o.1 c : Nat) : Int) by omega] at hmn
    rw [show max (o.2 : Int) c = ((max o.2 c : Nat) : Int) by omega] at hmx
    clear hc htk h0; go_wp2; go_roundw
    case rel => exact ⟨k + 1, (min o.1 c, max o.2 c), by omega, by go_num, HN, ((HK.out.set_ 0 _).set_ 1 _).alloc _, ((HB.out.setCell (by simp) _).setCell (by simp) _).alloc (by simp; omega) _⟩
    case measure => simp [intOf]; omega
  ·obtain rfl : n = k := by omega
   go_wp2; have e0 := ((HK.out.set_ 0 (.int .i64 o.1)).set_ 1 (.int .i64 o.2)).cell 0
   have e1 := ((HK.out.set_ 0 (.int .i64 o.1)).set_ 1 (.int .i64 o.2)).cell 1; have HO : hullP xs = o := by have h := HF.out; rwa [List.take_of_length_le (by rw [HL.out]; exact Nat.le_refl _)] at h
   refine bodyPost_ret (v := hullV o) (by simp [results, Tryz.results135, go_sem, e0, e1, hullV]) rfl ⟨by rw [HO], ?_⟩
   exact (HB.out.setCell (by simp) _).setCell (by simp) _
end Go.Proofs.YtgmfhngcehkibaaGreat
namespace Go.Proofs.YtgmfhngcehkibaaGreat
open Go.RowKit Go.Hav Go.Shelf Go.Sq
attribute [local go_sem] Oper.semAt_some
def rfBody : Code → Code
 | .rangeFunc _ _ _ b => b
 | c => c
noncomputable def dpB : Code := rfBody (innerC (tailSeq (headSeq (dropSeq 2 (Tryz.f112.body.getD .skip)))))
noncomputable def dpL : Code := tailSeq (innerC dpB)
theorem Tryz.infoE23 : (Tryz.prog.info? 23).map (fun i => (i.zero, i.size, i.bytes)) = some (some (.agg #[.int .i64 0, .int .i64 0]), 2, 16) := by kernel_rfl
theorem own_block {w : World} {base e size n : Nat} {v : Value} {xs : List Value} (h : w.ownsRow base e size v n xs) {g : Nat} (hg : v.ownBlock = some g) : base ≤ g ∧ ∃ cs, Blk w g e cs := by
 rcases h.2 with ⟨rfl, _⟩ | ⟨g', cap, cur, rfl, hb, hh, _⟩
 ·cases hg
 ·simp only [Value.ownBlock, Option.some.injEq] at hg; subst hg; exact ⟨hb, cur, hh⟩
theorem own_keep {w w' : World} {base e size n : Nat} {v : Value} {xs : List Value} (h : w.ownsRow base e size v n xs) (hk : ∀ g cs, base ≤ g → Blk w g e cs → Blk w' g e cs) : w'.ownsRow base e size v n xs := by
 refine ⟨h.1, ?_⟩; rcases h.2 with h0 | ⟨g, cap, cur, rfl, hg, hh, rest⟩
 ·exact .inl h0
 ·exact .inr ⟨g, cap, cur, rfl, hg, hk g cur hg hh, rest⟩
theorem MapS.is_map {w : World} {b : Nat} {S : List St} (h : MapS w b S) : ∃ es c, w.heap[b]? = some (Obj.map es c) := by
 obtain ⟨D, ⟨es, clock, hb, _⟩, _⟩ := h; exact ⟨es, clock, hb⟩
section
variable {k : Nat} {r : Riv}
theorem RunOK.keepM {w w' : World} {by_ looks : Nat} {ms : Nat → Option Nat} (h : RunOK w k r by_ looks ms) (hb : ∀ (b : Nat) es c, b ≠ k → w.heap[b]? = some (Obj.map es c) → w'.heap[b]? = some (Obj.map es c)) : RunOK w' k r by_ looks ms := fun day hd => by
 obtain ⟨b, S, h1, h2, h3, h4⟩ := h day hd; obtain ⟨es, c, ho⟩ := h3.is_map; exact ⟨b, S, h1, h2, h3.keep ((hb b es c h2 ho).trans ho.symm), h4⟩
theorem KeptOK.keepM {w w' : World} (h : KeptOK w k r) (hb : ∀ (b : Nat) es c, w.heap[b]? = some (Obj.map es c) → w'.heap[b]? = some (Obj.map es c)) : KeptOK w' k r := by
 obtain ⟨D, qs, ⟨es, clock, hh, hF, hs, hD⟩, h2, h3, h4, h5⟩ := h
 refine ⟨D, qs, ⟨es, clock, hb k _ _ hh, hF, hs, hD⟩, h2, h3, h4, fun by_ looks kl b1 b2 hk => ?_⟩
 obtain ⟨g1, g2, g3⟩ := h5 by_ looks kl b1 b2 hk
 exact ⟨g1, fun hq => by
  obtain ⟨ms, q1, q2⟩ := g2 hq
  exact ⟨ms, q1.keepM (fun b es c _ hb1 => hb b es c hb1), q2⟩, g3⟩
structure DpInv (r : Riv) (k B5 rg b base : Nat) (S0 T : List St) (l : List Nat) (W wr : World) (v : Value) (l' : List Nat) : Prop where
 t : Turn (fun x => x = B5 ∨ x = rg ∨ base ≤ x) W wr
 ran : RanS wr b rg S0 T
 var : Blk wr B5 180 #[v]
 own : wr.ownsRow base 23 2 v l'.length (l'.flatMap spF)
 mem : ∀ x, x ∈ l' ↔ x ∈ l ∨ ∃ s, s ∈ S0 ∧ s ∉ T ∧ s.1 = x
 len : l'.length + T.length = l.length + S0.length
 kept : KeptOK wr k r
theorem dpL_any {W : World} {B5 rg b base : Nat} {S0 : List St} {l : List Nat} {v : Value} (hr : RanS W b rg S0 S0) (hv : Blk W B5 180 #[v]) (hown : W.ownsRow base 23 2 v l.length (l.flatMap spF)) (hb : base ≤ W.heap.size) (hB5 : B5 < base) (hlen : l.length ≤ 16000000) (hK : KeptOK W k r) (lx : Nat)
  {Q : Exit → Act → World → Prop} {c0 c1 c2 c3 c4 c6 c7 c8 c9 c10 c11 c12 c13 c14 c15 c16 c17 c18 c19 c20 c22 c23 c24 c25 c26 c27 c28 c29 c30 c31 c32 c33 c34 c35 : Value}
  (HQ : Hid (∀ (u7 u22 u23 u24 u25 u26 u27 u28 u29 u30 u31 u32 u33 : Value) (v' : Value) (l' : List Nat) (w' : World), DpInv r k B5 rg b base S0 [] l W w' v' l' → Q .normal ⟨(c0::c1::c2::c3::c4::(.pointer (some ⟨B5, 0, none⟩))::c6::u7::c8::c9::c10::c11::c12::c13::c14::c15::c16::c17::c18::c19::c20::(.pointer (some ⟨rg, 0, none⟩))::u22::u23::u24::u25::u26::u27::u28::u29::u30::u31::u32::u33::c34::c35::[]).toArray, []⟩ w')) :
  Code.wpIn (Fence.wide.inRound lx) 0 Tryz.prog (innerC dpL) (Exit.inBlock 2 Q) ⟨(c0::c1::c2::c3::c4::(.pointer (some ⟨B5, 0, none⟩))::c6::c7::c8::c9::c10::c11::c12::c13::c14::c15::c16::c17::c18::c19::c20::(.pointer (some ⟨rg, 0, none⟩))::c22::c23::c24::c25::c26::c27::c28::c29::c30::c31::c32::c33::c34::c35::[]).toArray, []⟩ W := by
 conv => arg 4; whnf
 obtain ⟨i0, hi, hz0, hz1, hz2⟩ := info_parts Tryz.infoE23; have HI := Lib.hid hi; have HI0 := Lib.hid hz0; have HI1 := Lib.hid hz1; have HI2 := Lib.hid hz2
 have hS0 : S0.length ≤ 8000000 := by
  obtain ⟨D, _, hD⟩ := hr.owns; exact st_len hD.nd hD.tiny
 clear hi hz0 hz1 hz2
 refine wpIn_loop_ghost (fun n a' wr => ∃ (u7 u22 u23 u24 u25 u26 u27 u28 u29 u30 u31 u32 u33 : Value) (v' : Value) (l' : List Nat) (T : List St), (T.length = n ∧ DpInv r k B5 rg b base S0 T l W wr v' l') ∧ a' = ⟨(c0::c1::c2::c3::c4::(.pointer (some ⟨B5, 0, none⟩))::c6::u7::c8::c9::c10::c11::c12::c13::c14::c15::c16::c17::c18::c19::c20::(.pointer (some ⟨rg, 0, none⟩))::u22::u23::u24::u25::u26::u27::u28::u29::u30::u31::u32::u33::c34::c35::[]).toArray, []⟩) S0.length ?_ ?_
 ·exact ⟨_, _, _, _, _, _, _, _, _, _, _, _, _, v, l, S0, ⟨rfl, Turn.refl _ _, hr, hv, hown, fun x => ⟨.inl, fun h => h.elim id (fun ⟨s, h1, h2, _⟩ => absurd h1 h2)⟩, rfl, hK⟩, rfl⟩
 ·rintro n a wr ⟨u7, u22, u23, u24, u25, u26, u27, u28, u29, u30, u31, u32, u33, v', l', T, ⟨hn, hI⟩, rfl⟩; rcases hI.ran.next 0 with ⟨hT, hrun⟩ | ⟨s, w1, hsT, hrun, hr1, hg1, hs1, hen⟩
  ·have HP : Hid (DpInv r k B5 rg b base S0 [] l W wr v' l') := by rw [← hT]; exact hI
   clear hI hT hn hr hv hown hb hlen hK
   gi_wp2
   exact HQ.out _ _ _ _ _ _ _ _ _ _ _ _ _ v' l' wr HP.out
  ·obtain ⟨x, c⟩ := s; dsimp only [stV, stC] at hrun hen; have HII := Lib.hid hI; have HR1 := Lib.hid hr1; have HG1 := Lib.hid hg1; have hg1' := HG1.out; have HS1 := Lib.hid hs1; have hne5 : rg ≠ B5 := hI.ran.ne_blk hI.var
   have HV1 : Hid (Blk w1 B5 180 #[v']) := hI.var.grown hg1 (fun e => hne5 (Option.some.inj e).symm)
   have HW1 : Hid (w1.ownsRow base 23 2 v' l'.length (l'.flatMap spF)) := own_keep hI.own (fun g cs _ hg => hg.grown hg1 (fun e => hI.ran.ne_blk hg (Option.some.inj e).symm))
   have c5 : w1.cell? ⟨B5, 0, none⟩ = some v' := HV1.out.cell 0; have f5 : w1.frozen? ⟨B5, 0, none⟩ = false := HV1.out.frozen 0; have l5 := HV1.out.lt; have hsz := hI.t.size; have hlT := hI.len; have HNN := Lib.hid hn; have HST := Lib.hid hsT; have HOWN := Lib.hid (own_below (w' := (w1.alloc (.cells #[.int .i64 x, .int .u64 c] 189)).alloc (.cells #[.int .i64 x, .int .i64 x] 23)) HW1.out (((Below.refl w1.heap.size w1).alloc (Nat.le_refl _) _).alloc (by simp) _))
   clear hI hr1 hg1 hs1 hr hv hown hK hn hsT
   gi_wp2_with (gi_at_builtin; refine wpListIn_append_own _ rfl _ _ 180 rfl base 23 i0 _ 2 16 Tryz.underlying180 HI.out HI0.out HI1.out HI2.out rfl (by decide) _ _ _ rfl HOWN.out ⟨w1.heap.size + 1, 0, none⟩ 1 1 [.int .i64 x, .int .i64 x] rfl rfl (news_block (Blk.new_ (by simp) 23 _)) (by simp [Value.oneCell']) (by unfold maxLen; omega) (by omega) (by have := HS1.out; simp; omega) ?_)
   intro v2 w2 hown2 hgrow2 _; have HO2 := Lib.hid hown2; have HG2 := Lib.hid hgrow2
   have hblk : ∀ g, v'.ownBlock = some g → base ≤ g ∧ ∃ cs, Blk ((w1.alloc (.cells #[.int .i64 x, .int .u64 c] 189)).alloc (.cells #[.int .i64 x, .int .i64 x] 23)) g 23 cs := fun g hg => own_block HOWN.out hg
   have HA : Hid (Turn (fun _ => False) w1 ((w1.alloc (.cells #[.int .i64 x, .int .u64 c] 189)).alloc (.cells #[.int .i64 x, .int .i64 x] 23))) := ((Turn.refl _ _).alloc _).alloc _
   have HV2 : Hid (Blk w2 B5 180 #[v']) := (HV1.out.turn HA.out id).grown hgrow2 (fun e => by obtain ⟨h1, _⟩ := hblk B5 e.symm; omega)
   have HRA := Lib.hid (HR1.out.turn HA.out id id)
   have HR2 : Hid (RanS w2 b rg S0 (T.erase (x, c))) := HRA.out.keep (hgrow2.block b HRA.out.lt_map (fun e => by
     obtain ⟨_, cs, h2⟩ := hblk b e.symm
     exact HRA.out.owns.ne_blk h2 rfl)) (hgrow2.block rg HRA.out.ne.2 (fun e => by
     obtain ⟨_, cs, h2⟩ := hblk rg e.symm
     exact HRA.out.ne_blk h2 rfl))
   have HT2 : Hid (Turn (fun x => x = B5 ∨ x = rg ∨ base ≤ x) W w2) := (HII.out.t.trans ((Turn.of_grown hg1' (fun q e _ => by cases e; exact .inr (.inl rfl))).trans (HA.out.mono fun _ h => h.elim))).trans (Turn.of_grown hgrow2 (fun q e _ => .inr (.inr (hblk q e).1)))
   have HK1 : Hid (KeptOK w1 k r) := HII.out.kept.keepM (fun g es cl hg => (hg1'.block g (Array.getElem?_eq_some_iff.1 hg).1 (fun e => by
    cases e
    obtain ⟨_, _, _, _, ⟨_, _, _, _, _, _, _, _, _, q5, _⟩, _⟩ := HII.out.ran; rw [hg] at q5
    cases q5)).trans hg)
   have HK2 : Hid (KeptOK w2 k r) := (HK1.out.turn HA.out (fun _ _ h => h.elim)).keepM (fun g es cl hg => (hgrow2.block g (Array.getElem?_eq_some_iff.1 hg).1 (fun e => by
    obtain ⟨_, cs, h2⟩ := hblk g e.symm; rw [show _ = _ from h2] at hg
    cases hg)).trans hg)
   have hform : ∃ A n c, v2 = .slice A n c := by
    rcases hown2.2 with ⟨h, _⟩ | ⟨g, cap, cur, h, _⟩
    ·exact ⟨_, _, _, h⟩
    ·exact ⟨_, _, _, h⟩
   obtain ⟨A2, n2, c2, rfl⟩ := hform; have c5' : w2.cell? ⟨B5, 0, none⟩ = some v' := HV2.out.cell 0; have f5' : w2.frozen? ⟨B5, 0, none⟩ = false := HV2.out.frozen 0; have l5' := HV2.out.lt; clear hown2 hgrow2 hblk c5 f5 hrun hen
   gi_wp2
   have hset : Turn (fun x => x = B5) w2 (w2.setCell ⟨B5, 0, none⟩ (.slice A2 n2 c2)) := Turn.set _ _ (fun _ => rfl)
   have hTS := HII.out.ran.sub; have hsT := HST.out; refine Exists.intro (T.erase (x, c)).length ⟨by rw [List.length_erase_of_mem hsT]; have := List.length_pos_of_mem hsT; have := HNN.out; omega, _, _, _, _, _, _, _, _, _, _, _, _, _, .slice A2 n2 c2, l' ++ [x], T.erase (x, c), ⟨rfl, ?_⟩, rfl⟩
   refine ⟨HT2.out.trans (hset.mono fun _ h => .inl h), HR2.out.turn hset (fun e => ?_) (fun e => hne5 e), HV2.out.set_ 0 _, ?_, fun z => ?_, ?_, HK2.out.turn hset (fun g o e hg => ?_)⟩
   ·exact HR2.out.owns.ne_blk HV2.out e
   ·rw [List.length_append, List.flatMap_append]
    exact own_keep HO2.out (fun g cs hg hgb => hgb.turn hset (fun e => by have e' : g = B5 := e; omega))
   ·rw [List.mem_append, HII.out.mem z]; constructor
    ·rintro ((h | ⟨s0, q1, q2, q3⟩) | h)
     ·exact .inl h
     ·exact .inr ⟨s0, q1, fun h => q2 (hTS.1.mem_erase_iff.1 h).2, q3⟩
     ·simp only [List.mem_singleton] at h
      exact .inr ⟨(x, c), hTS.2.1 _ hsT, fun h => (hTS.1.mem_erase_iff.1 h).1 rfl, h.symm⟩
    ·rintro (h | ⟨s0, q1, q2, q3⟩)
     ·exact .inl (.inl h)
     ·by_cases e : s0 = (x, c)
      ·subst e; exact .inr (by simpa using q3.symm)
      ·exact .inl (.inr ⟨s0, q1, fun h => q2 (hTS.1.mem_erase_iff.2 ⟨e, h⟩), q3⟩)
   ·rw [List.length_append, List.length_singleton, List.length_erase_of_mem hsT]; have := List.length_pos_of_mem hsT
    omega
   ·obtain rfl : g = B5 := e; rw [show w2.heap[g]? = _ from HV2.out] at hg
    cases hg
    rfl
end
end Go.Proofs.YtgmfhngcehkibaaGreat
namespace Go.Proofs.YtgmfhngcehkibaaGreat
open Go.RowKit Go.Hav Go.Shelf Go.Sq
attribute [local go_sem] Oper.semAt_some
theorem Turn.of_grownK {k : Nat} {X Y : World} (h : X.grownBy Y (some k)) : Turn (fun x => x = k) X Y := Turn.of_grown h (fun q e _ => by cases e; rfl)
def GK (k : Nat) (r : Riv) : HavG.Rel where
 G w w' := w.grownBy w' (some k) ∧ (KeptOK w k r → KeptOK w' k r)
 refl _ := ⟨⟨rfl, rfl, rfl, Nat.le_refl _, fun _ _ _ => rfl⟩, id⟩
 trans := fun h g => ⟨Turn.grownK ((Turn.of_grownK h.1).trans (Turn.of_grownK g.1)), fun q => g.2 (h.2 q)⟩
 drew _ := ⟨⟨rfl, rfl, rfl, Nat.le_refl _, fun _ _ _ => rfl⟩, fun h => h.turn (S := fun _ => False) (Turn.refl _ _).drew (fun _ _ h => h.elim)⟩
theorem GK.blk {k : Nat} {r : Riv} {w w' : World} (h : (GK k r).G w w') {g : Nat} {t : TypeId} {cs : Array Value} (hb : Blk w g t cs) (hn : g ≠ k) : Blk w' g t cs := hb.turn (Turn.of_grownK h.1) hn
theorem RunOK.gk {k : Nat} {r : Riv} {w w' : World} {by_ looks : Nat} {ms : Nat → Option Nat} (h : RunOK w k r by_ looks ms) (hg : (GK k r).G w w') : RunOK w' k r by_ looks ms :=
 h.keep fun b _ hb ho _ => (hg.1.block b (Array.getElem?_eq_some_iff.1 ho).1 (fun e => hb (Option.some.inj e))).trans ho
section
variable {B d k : Nat} {fa la : Option Addr} {fl fc ll lc : Nat} {r : Riv}
def RunAt (k : Nat) (r : Riv) (by_ looks : Nat) (v : Value) (w : World) : Prop := ∃ ms, v = runV ms ∧ RunOK w k r by_ looks ms
def Gath (r : Riv) (looks day : Nat) (F : List Nat) (n : Nat) (l : List Nat) : Prop := ∀ x, x ∈ l ↔ ∃ j b s, j < n ∧ F[j]? = some b ∧ AllS r b looks day s ∧ s.1 = x
theorem depth_of (hv : r.Good) {day : Nat} (hd : day ≤ r.days) {l : List Nat} (h : Gath r (full r.lk.length) day (fallsL r (full r.lk.length)) (fallsL r (full r.lk.length)).length l) : hullP l = depthP r day := by
 have hr : FrOk r := fun f hf => ⟨(hv.fr f hf).1, (hv.fr f hf).2.1, (hv.fr f hf).2.2.2.2.2.1⟩
 have hl : LkOk r := fun f hf => (hv.lk f hf).1
 refine hullP_congr fun x => ?_
 rw [h x, List.mem_map]; constructor
 ·rintro ⟨j, b, s, h1, h2, h3, h4⟩; obtain ⟨b1, b2, _⟩ := (mem_fallsL hv.f1).1 (List.mem_of_getElem? h2); obtain ⟨t, t1, t2, t3, _⟩ := (allS_truths hr hl hd b1 b2).1 h3; exact ⟨t, t1, t3.symm.trans h4⟩
 ·rintro ⟨t, t1, t2⟩; obtain ⟨_, _, b1, b2, h6⟩ := (mem_truthsP hl).1 t1
  have hb : t.by_ ∈ fallsL r (full r.lk.length) := (mem_fallsL hv.f1).2 ⟨b1, b2, (t.at_ 0, comeF t.dsF 0 r.fr.length), (allS_truths hr hl (Nat.zero_le _) b1 b2).2 ⟨t, t1, rfl, rfl, fun j => comeF_bit _ _ _ _⟩⟩
  obtain ⟨j, hj⟩ := List.getElem?_of_mem hb
  exact ⟨j, t.by_, (t.at_ day, comeF t.dsF day r.fr.length), (List.getElem?_eq_some_iff.1 hj).1, hj, (allS_truths hr hl hd b1 b2).2 ⟨t, t1, rfl, rfl, fun j => comeF_bit _ _ _ _⟩, t2⟩
theorem fallsTo_len (r : Riv) (looks : Nat) : ∀ j, (fallsTo r looks j).length ≤ j
 | 0 => by simp [fallsTo]
 | j + 1 => by
  have := fallsTo_len r looks j; rw [fallsTo]
  split <;> simp <;> omega
theorem fallsL_len (hv : r.Good) (looks : Nat) : (fallsL r looks).length ≤ 3 := by
 have := fallsTo_len r looks (r.fall.hi + 1 - r.fall.lo); have := hv.f3; unfold fallsL
 omega
theorem own_rowK {B k : Nat} {r : Riv} {base sz n : Nat} {v : Value} {xs : List Value} : OwnT B TyB (KxK k r) (fun X => X.ownsRow base 23 sz v n xs) :=
 ⟨fun X Y row h hg hr => own_keep h fun g cs _ hb => hb.grown hg (fun e => by
  obtain ⟨_, o, h1, h2⟩ := hr g e.symm; rw [show X.heap[g]? = _ from hb] at h1
  cases h1
  rcases h2 with ⟨h2, _⟩ | ⟨cs', t, z, e', h3⟩
  ·cases h2
  ·cases e'; exact absurd h3 (by decide)), fun X Y h hk => own_keep h fun g cs _ hb => hb.grown hk.1 (fun e => by
  cases e
  exact hk.2.1.ne_blk hb rfl)⟩
theorem depth_any (hv : r.Good) (day : Nat) (hday : day ≤ r.days) (w : World) (hD : GauIn w B d k fa fl fc la ll lc r) (hK : KeptOK w k r) :
  Calls Tryz.prog 112 #[(.pointer (some ⟨d, 0, none⟩)), .int .i64 day] w fun e w' => e = .returned (hullV (depthP r day)) ∧ KeptOK w' k r ∧ w.grownBy w' (some k) := by
 have HD := Lib.hid hD; have HV := Lib.hid hv; have HK := Lib.hid hK; have hfu := full_lt32 hv.ll; have hd10 : day < 11 := by have := hv.n2; omega
 have hdw : d < w.heap.size := hD.blk.lt; have hBw : B ≤ w.heap.size := hD.hB; have hkw : k < w.heap.size := by obtain ⟨o, ho, _⟩ := hK.lt; exact (Array.getElem?_eq_some_iff.1 ho).1
 have HDAY := Lib.hid hday; clear hD hv hK hday; refine (callsIn_wide (n := 6)).1 (callsIn_of_wp_marks Tryz.func112 rfl trivial ?_ rfl); simp only [Tryz.ntmps112, List.size_toArray, List.length_cons, List.length_nil, Nat.reduceAdd, Nat.reduceSub, Array.replicate_succ, Array.replicate_zero, List.push_toArray, List.append_toArray, List.nil_append, List.cons_append]; refine wpIn_wide.2 ?_; go_upto_region 2 with (fail); obtain ⟨W0, hW0⟩ : ∃ W0, W0 = (((w.alloc (.cells #[(.pointer (some ⟨d, 0, none⟩))] 115)).alloc (.cells #[.int .i64 day] 3)).alloc (.cells #[.int .i64 0, .int .i64 0] 23)).alloc (.cells #[.slice none 0 0] 180) := ⟨_, rfl⟩; obtain ⟨B2, hB2⟩ : ∃ B2, B2 = w.heap.size := ⟨_, rfl⟩; obtain ⟨B3, hB3⟩ : ∃ B3, B3 = w.heap.size + 1 := ⟨_, rfl⟩; obtain ⟨B4, hB4⟩ : ∃ B4, B4 = w.heap.size + 1 + 1 := ⟨_, rfl⟩; obtain ⟨B5, hB5⟩ : ∃ B5, B5 = w.heap.size + 1 + 1 + 1 := ⟨_, rfl⟩; have HB0 : Hid (Below w.heap.size w W0) := by rw [hW0]; exact ((((Below.refl _ _).alloc (Nat.le_refl _) _).alloc (by simp) _).alloc (by simp; omega) _).alloc (by simp; omega) _
 have hs0 : W0.heap.size = w.heap.size + 4 := by rw [hW0]; simp
 have HX2 : Hid (Blk W0 B2 115 #[(.pointer (some ⟨d, 0, none⟩))]) := by rw [hW0, hB2]; exact (((Blk.new w 115 _).alloc _).alloc _).alloc _
 have HX3 : Hid (Blk W0 B3 3 #[.int .i64 day]) := by rw [hW0, hB3]; exact ((Blk.new_ (by simp) 3 _).alloc _).alloc _
 have HX4 : Hid (Blk W0 B4 23 #[.int .i64 0, .int .i64 0]) := by rw [hW0, hB4]; exact (Blk.new_ (by simp) 23 _).alloc _
 have HX5 : Hid (Blk W0 B5 180 #[.slice none 0 0]) := by rw [hW0, hB5]; exact Blk.new_ (by simp) 180 _
 have HD0 := Lib.hid (HD.out.grow HB0.out); have HK0 := Lib.hid (HK.out.below HB0.out); rw [← hW0, ← hB5, ← hB4, ← hB3, ← hB2]; have HE : Hid (B2 = w.heap.size ∧ B3 = w.heap.size + 1 ∧ B4 = w.heap.size + 1 + 1 ∧ B5 = w.heap.size + 1 + 1 + 1) := ⟨hB2, hB3, hB4, hB5⟩; have u2 : W0.cell? ⟨B2, 0, none⟩ = some (.pointer (some ⟨d, 0, none⟩)) := HX2.out.cell 0; have m2 := HX2.out.lt; have HS0 := Lib.hid hs0; clear hW0 hB2 hB3 hB4 hB5 hs0
 refine HavG.wp_region_havoc (R := RelB) [(0,false),(1,false),(2,false)] [3] (fun _ _ => False) (by kernel_rfl) (by kernel_rfl) (fun _ _ _ _ h => h.elim) ?_
 iterate 2 (apply HavG.hav_same (by exact ho rfl) (by kernel_rfl); (focus (intro wv hgv _; have hcv := cvB hgv; (try go_simp); try rfl; done)); simp only [Act.put, List.setIfInBounds_toArray, List.set_cons_succ, List.set_cons_zero])
 (apply HavG.hav_call (by exact ho rfl) (by kernel_rfl); (focus (intro wv; go_simp; try exact ⟨rfl, rfl⟩; done)); (focus (intro wv hgv _; refine (every_any HV.out wv (HD0.out.grow hgv)).mono ?_; rintro e w' ⟨rfl, rfl⟩; exact ⟨rfl, RelB.refl _⟩; done)); simp only [Act.put, List.setIfInBounds_toArray, List.set_cons_succ, List.set_cons_zero])
 refine HavG.hav_end (fun wz hgz _ => ?_)
 simp only [List.filterMap]; have HBZ : Hid (Below W0.heap.size W0 wz) := hgz; obtain ⟨W2, hW2⟩ : ∃ W2, W2 = (wz.alloc (.cells #[(.pointer (some ⟨d, 0, none⟩))] 115)).alloc (.cells #[.int .u64 (full r.lk.length)] 164) := ⟨_, rfl⟩; have HB2 : Hid (Below W0.heap.size W0 W2) := by rw [hW2]; exact (HBZ.out.alloc HBZ.out.size _).alloc (by have := HBZ.out.size; simp; omega) _
 have hs2 : W2.heap.size = wz.heap.size + 2 := by rw [hW2]; simp
 have HXg : Hid (Blk W2 wz.heap.size 115 #[(.pointer (some ⟨d, 0, none⟩))]) := by rw [hW2]; exact (Blk.new_ rfl 115 _).alloc _
 have HXl : Hid (Blk W2 (wz.heap.size + 1) 164 #[.int .u64 (full r.lk.length)]) := by rw [hW2]; exact Blk.new_ (by simp) 164 _
 clear hgz u2; go_wp2_with fail; refine (falls_any (d := d) (full r.lk.length) wz).mono ?_; rw [← hW2]; rintro e w1 ⟨rfl, hw1⟩; obtain rfl : W2 = w1 := hw1.symm; have heg : ∀ args w, (callFunc 143 args).run Tryz.prog w = .ok (.enter 143 args) w := enters_of Tryz.func143 (by kernel_rfl) rfl
 have HEG := Lib.hid heg; have HS2 := Lib.hid hs2; have hseq := falls_seq (B := B) (d := d) (k := k) (fa := fa) (fl := fl) (fc := fc) (la := la) (ll := ll) (lc := lc) HV.out (full r.lk.length) hfu wz.heap.size (wz.heap.size + 1); have HSEQ := Lib.hid hseq; obtain ⟨F, hF⟩ : ∃ F, F = fallsL r (full r.lk.length) := ⟨_, rfl⟩; rw [← hF] at HSEQ; have HFE := Lib.hid hF; have HFL : Hid (F.length ≤ 3) := by show F.length ≤ 3; rw [hF]; exact fallsL_len HV.out _
 have HFB : Hid (∀ b ∈ F, b < 1000) := fun b hb => by
  rw [hF] at hb; have := ((mem_fallsL HV.out.f1).1 hb).2.1; have := HV.out.f2
  omega
 have HD2 := Lib.hid (HD0.out.grow HB2.out); have HK2 := Lib.hid (HK0.out.below HB2.out); have HY2 : Hid (Blk W2 B2 115 #[(.pointer (some ⟨d, 0, none⟩))]) := HX2.out.below HB2.out HX2.out.lt; have HY3 : Hid (Blk W2 B3 3 #[.int .i64 day]) := HX3.out.below HB2.out HX3.out.lt; have HY4 : Hid (Blk W2 B4 23 #[.int .i64 0, .int .i64 0]) := HX4.out.below HB2.out HX4.out.lt; have HY5 : Hid (Blk W2 B5 180 #[.slice none 0 0]) := HX5.out.below HB2.out HX5.out.lt
 have HQQ : Hid (B2 < W2.heap.size ∧ B3 < W2.heap.size ∧ B4 < W2.heap.size ∧ B5 < W2.heap.size ∧ k < B2 ∧ k < B3 ∧ k < B4 ∧ k < B5 ∧ d < B5 ∧ B5 < wz.heap.size ∧ B2 ≠ B5 ∧ B3 ≠ B5 ∧ B4 ≠ B5 ∧ B ≤ B5 ∧ w.heap.size ≤ wz.heap.size ∧ w.heap.size ≤ B2 ∧ w.heap.size ≤ B3 ∧ w.heap.size ≤ B4 ∧ w.heap.size ≤ B5) := by
  obtain ⟨e2, e3, e4, e5⟩ := HE.out; have h1 := HBZ.out.size; have h2 := HS0.out; have h3 := HS2.out; refine ⟨?_, ?_, ?_, ?_, ?_, ?_, ?_, ?_, ?_, ?_, ?_, ?_, ?_, ?_, ?_, ?_, ?_, ?_, ?_⟩ <;> omega
 clear hW2 hs2 heg hseq hF hw1; go_wp2_with fail
 refine wpIn_wide.1 (wpIn_rangeK_slots (n := 6) rfl HEG.out HSEQ.out (keepsRec_K k r) (fun x hx => by obtain ⟨y, _, rfl⟩ := List.mem_map.1 hx; rfl) (fun x => x = k ∨ x = B5 ∨ W2.heap.size + 2 ≤ x)
  (fun e => by have := HQQ.out; have e' : _ = _ ∨ _ = _ ∨ _ ≤ _ := e; omega) (fun e => by have := HQQ.out; have e' : _ = _ ∨ _ = _ ∨ _ ≤ _ := e; omega)
  (fun rec => ⟨(HXg.out.alloc _).alloc _, (HXl.out.alloc _).alloc _, (HD2.out.grow (((Below.refl _ _).alloc (Nat.le_refl _) _).alloc (by simp) _)), fun e => by have := HQQ.out; have := HS2.out; have e' : (_ = _ ∨ _ = _ ∨ _ ≤ _) ∨ _ = _ := e; omega, fun e => by have := HQQ.out; have := HS2.out; have e' : (_ = _ ∨ _ = _ ∨ _ ≤ _) ∨ _ = _ := e; omega, fun e => by have := HQQ.out; have := HS2.out; have := HD.out.kd; have e' : (_ = _ ∨ _ = _ ∨ _ ≤ _) ∨ _ = _ := e; omega, fun b e => by have := HQQ.out; have := HS2.out; have := HD.out.hk; have e' : (_ = _ ∨ _ = _ ∨ _ ≤ _) ∨ _ = _ := e; omega⟩)
  (fun n Xw => (Turn (fun x => x = k ∨ x = B5 ∨ W2.heap.size + 2 ≤ x) W2 Xw ∧ KeptOK Xw k r) ∧ ∃ (v : Value) (l : List Nat), Blk Xw B5 180 #[v] ∧ Xw.ownsRow (W2.heap.size + 2) 23 2 v l.length (l.flatMap spF) ∧ (Gath r (full r.lk.length) day F n l ∧ l.length ≤ 8000000 * n)) (fun _ _ => False)
  (fun n => ((own_turnK (S := fun x => x = k ∨ x = B5 ∨ W2.heap.size + 2 ≤ x) (W := W2) (Nat.le_refl _) (.inl rfl)).and (own_kept W2.heap.size k r)).and (OwnT.ex fun v => OwnT.ex fun l => (own_ltK (l := B5) HQQ.out.2.2.2.1).and (own_rowK.and (OwnT.pure _ _ _ _)))) (fun cd => OwnT.pure _ _ _ False)
  (fun n X h => h.1.2)
  ⟨⟨Turn.refl _ _, HK2.out⟩, _, [], HY5.out, World.ownsRow_nil _ _ _ _, fun x => ⟨fun h => by simp at h, fun ⟨j, _, _, h, _⟩ => by omega⟩, by simp⟩
  (fun n (_ : Unit) T => (T.setIfInBounds 12 (.int .i64 ((F[n]?.getD 0 : Nat) : Int))).setIfInBounds 6 (.int .i64 ((F[n]?.getD 0 : Nat) : Int))) (fun n _ Xw => True) (fun _ _ => (OwnT.pure _ _ _ _))
  ?assign ?body ?done ?stop)
 case assign =>
  rintro l n xx Xw K hI hx hK; rw [List.getElem?_map] at hx
  obtain ⟨y, hy⟩ : ∃ y, F[n]? = some y := by
   cases h : F[n]? with
   | none => rw [h] at hx; cases hx
   | some y => exact ⟨y, rfl⟩
  rw [hy] at hx hK; obtain rfl : encB y = xx := Option.some.inj hx; simp only [Option.getD_some] at hK; simp only [List.setIfInBounds_toArray, List.set_cons_succ, List.set_cons_zero] at hK; dsimp only [encB]; have HK := Lib.hid hK; have HI := Lib.hid hI; clear hK hx hI
  gi_wp2
  exact HK.out () _ (Turn.refl _ Xw) HI.out trivial
 case body =>
  rintro l n xx Bx Xw hl ⟨r0, hr⟩ ⟨⟨hT, hk⟩, v, lst, hv5, hown, hga, hlen⟩ _ hx; rw [List.getElem?_map] at hx
  obtain ⟨y, hy⟩ : ∃ y, F[n]? = some y := by
   cases h : F[n]? with
   | none => rw [h] at hx; cases hx
   | some y => exact ⟨y, rfl⟩
  have HY := Lib.hid hy; rw [hy]; simp only [Option.getD_some]; simp only [List.setIfInBounds_toArray, List.set_cons_succ, List.set_cons_zero]; have HTX := Lib.hid hT; have HKX := Lib.hid hk; have HV5 := Lib.hid hv5; have HOW := Lib.hid hown; have HGA := Lib.hid hga; have HQ := HQQ.out; have hy1000 : y < 1000 := HFB.out y (List.mem_of_getElem? hy); have hnF : n < 3 := by have := (List.getElem?_eq_some_iff.1 hy).1; have := HFL.out; omega
  have HG2 : Hid (Blk Xw B2 115 #[(.pointer (some ⟨d, 0, none⟩))]) := HY2.out.turn hT (fun e => by have e' : _ = _ ∨ _ = _ ∨ _ ≤ _ := e; omega)
  have HG3 : Hid (Blk Xw B3 3 #[.int .i64 day]) := HY3.out.turn hT (fun e => by have e' : _ = _ ∨ _ = _ ∨ _ ≤ _ := e; omega)
  have HDX : Hid (GauIn Xw B d k fa fl fc la ll lc r) := HD2.out.turn hT (fun x e => by have := HD.out.hk; have e' : _ = _ ∨ _ = _ ∨ _ ≤ _ := e; omega) (fun e => by have := HD.out.kd; have e' : _ = _ ∨ _ = _ ∨ _ ≤ _ := e; omega)
  have HGV : Hid (∀ wv, (GK k r).G Xw wv → GauIn wv B d k fa fl fc la ll lc r) := fun wv h => HDX.out.turn (Turn.of_grownK h.1) (fun x e => by have := HD.out.hk; have e' : x = k := e; omega) (fun e => HD.out.kd (show d = k from e).symm)
  have HRUN : Hid (∀ wv, (GK k r).G Xw wv → Calls Tryz.prog 134 #[(.pointer (some ⟨d, 0, none⟩)), .agg #[.int .i64 y, .int .u64 (full r.lk.length)]] wv fun e w' => ∃ ms, e = .returned (runV ms) ∧ RunOK w' k r y (full r.lk.length) ms ∧ KeptOK w' k r ∧ wv.grownBy w' (some k)) := fun wv h => run_any HV.out y (full r.lk.length) hy1000 hfu wv (HGV.out wv h) (h.2 HKX.out)
  have hk2 : B2 ≠ k := by omega
  have hk3 : B3 ≠ k := by omega
  have HHR := Lib.hid hr; have HHL := Lib.hid hl; clear hT hk hv5 hown hga hy hx hr HQ
  gi_wp2
  refine HavG.wpIn_region_tail (R := GK k r) [(0,false),(1,false),(2,false),(3,false),(4,false),(6,false),(5,true)] [7, 8] (fun _ _ => False) (by kernel_rfl) (by kernel_rfl) (by kernel_rfl) (fun _ _ _ _ h => h.elim) ?_
  (apply HavG.hav_same (by exact ho rfl) (by kernel_rfl); (focus (intro wv hgv _; have q1 := (GK.blk (k := k) (r := r) hgv HG2.out hk2).cell 0; have q2 := (GK.blk (k := k) (r := r) hgv HG2.out hk2).lt; (try go_simp); try rfl; done)); simp only [Act.put, List.setIfInBounds_toArray, List.set_cons_succ, List.set_cons_zero])
  (apply HavG.hav_same (by exact ho rfl) (by kernel_rfl); (focus (intro wv hgv _; skip; (try go_simp); try rfl; done)); simp only [Act.put, List.setIfInBounds_toArray, List.set_cons_succ, List.set_cons_zero])
  (apply HavG.hav_same (by exact ho rfl) (by kernel_rfl); (focus (intro wv hgv _; have q1 := (GK.blk (k := k) (r := r) hgv HG2.out hk2).cell 0; have q2 := (GK.blk (k := k) (r := r) hgv HG2.out hk2).lt; (try go_simp); try rfl; done)); simp only [Act.put, List.setIfInBounds_toArray, List.set_cons_succ, List.set_cons_zero])
  (apply HavG.hav_call (by exact ho rfl) (by kernel_rfl); (focus (intro wv; go_simp; try exact ⟨rfl, rfl⟩; done)); (focus (intro wv hgv _; refine (every_any HV.out wv (HGV.out wv hgv)).mono ?_; rintro e w' ⟨rfl, rfl⟩; exact ⟨rfl, (GK k r).refl _⟩; done)); simp only [Act.put, List.setIfInBounds_toArray, List.set_cons_succ, List.set_cons_zero])
  (apply HavG.hav_same (by exact ho rfl) (by kernel_rfl); (focus (intro wv hgv _; skip; (try go_simp); try rfl; done)); simp only [Act.put, List.setIfInBounds_toArray, List.set_cons_succ, List.set_cons_zero])
  (apply HavG.hav_same (by exact ho rfl) (by kernel_rfl); (focus (intro wv hgv _; have q1 := (GK.blk (k := k) (r := r) hgv HG3.out hk3).cell 0; have q2 := (GK.blk (k := k) (r := r) hgv HG3.out hk3).lt; (try go_simp); try rfl; done)); simp only [Act.put, List.setIfInBounds_toArray, List.set_cons_succ, List.set_cons_zero])
  (apply HavG.hav_call_ghost (RunAt k r y (full r.lk.length)) (by exact ho rfl) (by kernel_rfl); (focus (intro wv; go_simp; try exact ⟨rfl, rfl⟩; done)); (focus (rintro v w1 w2 ⟨ms, rfl, h⟩ hg; exact ⟨ms, rfl, h.gk hg⟩)); (focus (intro wv hgv _; have hc := HRUN.out wv hgv; refine hc.mono ?_; rintro e w' ⟨ms, rfl, h1, h2, h3⟩; exact .inl ⟨_, rfl, ⟨h3, fun _ => h2⟩, ms, rfl, h1⟩)); intro v; simp only [Act.put, List.setIfInBounds_toArray, List.set_cons_succ, List.set_cons_zero])
  refine HavG.hav_end (fun wq hgq hF => ?_)
  simp only [List.filterMap]; obtain ⟨_, ms, rfl, hrunok⟩ := hF; have HGQ := Lib.hid hgq; obtain ⟨b, S0, hm, hbk, hMS, hSS⟩ := hrunok day HDAY.out; have HSS := Lib.hid hSS; have hidx := idx_run ms day hd10 (day : Int) rfl wq; rw [hm] at hidx; obtain ⟨W7, hrng, hr7, hg7, hs7⟩ := hMS.range; have HR7 := Lib.hid hr7; have HG7 := Lib.hid hg7; have HS7 := Lib.hid hs7; clear hgq hrunok hm hbk hMS hSS hr7 hg7 hs7
  gi_wp2_with fail
  have HTQ : Hid (Turn (fun x => x = k) Xw wq) := Turn.of_grownK HGQ.out.1
  have HT7 : Hid (Turn (fun _ => False) wq W7) := Turn.of_grown HG7.out (fun q e _ => by cases e)
  have hlt : l < Xw.heap.size := (Array.getElem?_eq_some_iff.1 HHR.out).1; have hl2 := HHL.out; have hq1 := HTQ.out.size; have hq7 := HT7.out.size; have hHQ := HQQ.out; have hln : lst.length ≤ 16000000 := by omega
  refine dpL_any (k := k) (r := r) (base := W2.heap.size + 2) HR7.out ((HV5.out.turn HTQ.out (fun e => by have e' : _ = _ := e; omega)).turn HT7.out id) (own_keep HOW.out fun g cs hg hb => (hb.turn HTQ.out (fun e => by have e' : _ = _ := e; omega)).turn HT7.out id) (by omega) (by omega) hln ((HGQ.out.2 HKX.out).turn HT7.out (fun _ _ h => h.elim)) l (Lib.hid ?_)
  rintro v7 v22 v23 v24 v25 v26 v27 v28 v29 v30 v31 v32 v33 v' l' w' hI
  have hAll : Turn (fun x => x = k ∨ x = B5 ∨ W2.heap.size + 2 ≤ x) Xw w' := ((HTQ.out.mono fun _ h => .inl h).trans (HT7.out.mono fun _ h => h.elim)).trans (hI.t.mono fun x h => by
   have h' : x = B5 ∨ x = wq.heap.size ∨ W2.heap.size + 2 ≤ x := h; show x = k ∨ x = B5 ∨ W2.heap.size + 2 ≤ x
   omega)
  have hS0 : S0.length ≤ 8000000 := by
   obtain ⟨D, _, hD⟩ := HR7.out.owns; exact st_len hD.nd hD.tiny
  refine ⟨hAll, ⟨HTX.out.trans hAll, hI.kept⟩, v', l', hI.var, hI.own, fun x => ?_, ?_⟩
  ·rw [hI.mem x, HGA.out x]; constructor
   ·rintro (⟨j, b', s, j1, j2, j3, j4⟩ | ⟨s, j1, _, j2⟩)
    ·exact ⟨j, b', s, by omega, j2, j3, j4⟩
    ·exact ⟨n, y, s, by omega, HY.out, (HSS.out s).1 j1, j2⟩
   ·rintro ⟨j, b', s, j1, j2, j3, j4⟩
    by_cases e : j = n
    ·subst e; rw [HY.out] at j2; cases j2
     exact .inr ⟨s, (HSS.out s).2 j3, by simp, j4⟩
    ·exact .inl ⟨j, b', s, by omega, j2, j3, j4⟩
  ·have := hI.len; simp only [List.length_nil] at this
   omega
 case done =>
  rintro D Xw hDe ⟨⟨hT, hk⟩, v, lst, hv5, hown, hga, hlen⟩ hDD; rw [List.length_map] at hga hlen; obtain ⟨A, cp, rfl, hrd, _⟩ := own_rd spF_len (by decide) hown
  have HT := Lib.hid hT; have HKX := Lib.hid hk; have HDD := Lib.hid hDD; have HDE := Lib.hid hDe; have HRD := Lib.hid hrd; have hHQ := HQQ.out; have hF3 := HFL.out; have hln : lst.length ≤ 1000000000 := by omega
  have HQE := Lib.hid hHQ
  have H4 : Hid (Blk Xw B4 23 #[.int .i64 0, .int .i64 0]) := HY4.out.turn hT (fun e => by have e' : _ = _ ∨ _ = _ ∨ _ ≤ _ := e; omega)
  have HFIN : Hid (hullP lst = depthP r day) := by
   show hullP lst = _; refine depth_of HV.out HDAY.out ?_; rw [← HFE.out]; exact hga
  have c5 : Xw.cell? ⟨B5, 0, none⟩ = some (.slice A lst.length cp) := hv5.cell 0; have l5 := hv5.lt; clear hT hk hv5 hown hga hlen hDD hDe hrd hHQ hF3; go_wp2_with fail; refine (joined_any A lst.length cp hln lst rfl Xw HRD.out).mono ?_; rw [HFIN.out]; unfold hullV; rintro e w3 ⟨rfl, hb3⟩; have HB3 := Lib.hid hb3; have H43 : Hid (Blk w3 B4 23 #[.int .i64 0, .int .i64 0]) := H4.out.below hb3 H4.out.lt; have f0 := H43.out.frozen 0; have f1 := H43.out.frozen 1; have c0 : w3.cell? ⟨B4, 0, none⟩ = some (.int .i64 0) := H43.out.cell 0; have c1 : w3.cell? ⟨B4, 1, none⟩ = some (.int .i64 0) := H43.out.cell 1; have l4 := H43.out.lt; clear hb3 c5; go_wp2; obtain ⟨W5, hW5⟩ : ∃ W5, W5 = (w3.setCell ⟨B4, 0, none⟩ (.int .i64 ((depthP r day).1 : Int))).setCell ⟨B4, 1, none⟩ (.int .i64 ((depthP r day).2 : Int)) := ⟨_, rfl⟩; have HK5 : Hid (Blk W5 B4 23 #[.int .i64 ((depthP r day).1 : Int), .int .i64 ((depthP r day).2 : Int)]) := by rw [hW5]; exact (H43.out.set_ 0 _).set_ 1 _
  have hset : Turn (fun x => x = B4) w3 W5 := by rw [hW5]; exact (Turn.set (S := fun x => x = B4) ⟨B4, 0, none⟩ _ (fun _ => rfl)).trans (Turn.set (S := fun x => x = B4) ⟨B4, 1, none⟩ _ (fun _ => rfl))
  rw [← hW5]
  have hD5 : W5.heap[D]? = some (.deferred (some [])) := (hset.block D (by have := (Array.getElem?_eq_some_iff.1 HDD.out).1; have := HB3.out.size; omega) (fun e => by have e' : D = B4 := e; have := HDE.out; have := HQE.out; omega)).trans ((HB3.out.block D (Array.getElem?_eq_some_iff.1 HDD.out).1).trans HDD.out)
  refine ⟨by simp, .inl ⟨_, _, rfl, run_takeDeferred hD5, ?_⟩⟩
  have hDB : B4 ≠ D := by have := HDE.out; have := HQE.out; omega
  have e0 : (W5.putObj D (.deferred none)).cell? ⟨B4, 0, none⟩ = some (.int .i64 ((depthP r day).1 : Int)) := (World.cell?_of_block (a := ⟨B4, 0, none⟩) (World.putObj_heap_other hDB)).trans (HK5.out.cell 0); have e1 : (W5.putObj D (.deferred none)).cell? ⟨B4, 1, none⟩ = some (.int .i64 ((depthP r day).2 : Int)) := (World.cell?_of_block (a := ⟨B4, 1, none⟩) (World.putObj_heap_other hDB)).trans (HK5.out.cell 1)
  have hk5 : KeptOK W5 k r := (HKX.out.below HB3.out).turn hset (fun b o e hb => by
   obtain rfl : b = B4 := e; rw [show w3.heap[b]? = _ from H43.out] at hb
   cases hb
   rfl)
  refine ⟨.agg #[.int .i64 ((depthP r day).1 : Int), .int .i64 ((depthP r day).2 : Int)], by simp [results, Tryz.results112, go_sem, e0, e1], rfl, (own_kept w.heap.size k r).put _ hk5 (by have := HDE.out; have := HB2.out.size; have := HS0.out; omega) hD5 rfl, ?_⟩
  exact Turn.grownK (((((Turn.of_below HB0.out).trans (Turn.of_below HB2.out)).join HT.out (fun b h hb => by
   have h' : b = k ∨ b = B5 ∨ W2.heap.size + 2 ≤ b := h; have := HQE.out; have := HB0.out.size; show b = k
   omega)).join ((Turn.of_below (S := fun _ => False) HB3.out).mono (fun _ h => h.elim)) (fun b h hb => h)).join ((hset.mono (fun x e => show x = B4 ∨ x = D from .inl e)).trans (Turn.put _ (.inr rfl))) (fun b h hb => by
   have := HDE.out; have := HQE.out; have := HB2.out.size; have := HS0.out; have h' : b = B4 ∨ b = D := h
   omega))
 case stop => exact fun D c W _ h _ => h.elim
end
end Go.Proofs.YtgmfhngcehkibaaGreat
