/- A range over a function, by a law of my own over the kit's: the iterator yields a known list; the body may turn blocks of a given set, the iterator those that are its own, or a map that both keep. The rule for a region that draws its order, for a region that stands in a round of a loop over an iterator, at the wide fence; condition: the region has no defer. The rule for a region that draws its order, in a round, where a chain of operations follows that call yield: HavG's, turned by program. Sets of bits as the model computes them; no condition but that numbers are not negative, and below 2 to the 62nd. Condition: what the statements say. -/
import Derived.Test.YtgmfhngcehkibaaGreatPkB2
import Derived.RangeFuncNested
import Derived.RangeFuncBound
import Derived.RangeFuncCalls
import Derived.RangeFuncLeaves
import Derived.RangeFuncWrites
import Derived.Shelf.Abstract
import Derived.OwnWalkIn
import Derived.TacticsInMore
import Derived.LoopNIn
import Derived.LoopIn
import Derived.OrdersIn
import Derived.TacticsIn
import Derived.ControlIn
import Derived.Scope
import Derived.Laws.BitsAllLaws
import Derived.WalkSmall
set_option maxRecDepth 100000
set_option maxHeartbeats 6400000
namespace Go.Sq
open Go.RowKit Go.Proofs.YtgmfhngcehkibaaGreat
structure Turn (S : Nat → Prop) (X Y : World) : Prop where
 os : Y.os = X.os
 tape : Y.tape = X.tape
 output : Y.output = X.output
 size : X.heap.size ≤ Y.heap.size
 block : ∀ b, b < X.heap.size → ¬ S b → Y.heap[b]? = X.heap[b]?
variable {S S' : Nat → Prop} {X Y Z : World}
theorem Turn.refl (S : Nat → Prop) (X : World) : Turn S X X := ⟨rfl, rfl, rfl, Nat.le_refl _, fun _ _ _ => rfl⟩
theorem Turn.trans (h : Turn S X Y) (k : Turn S Y Z) : Turn S X Z := ⟨k.os.trans h.os, k.tape.trans h.tape, k.output.trans h.output, Nat.le_trans h.size k.size, fun b hb hs => (k.block b (Nat.lt_of_lt_of_le hb h.size) hs).trans (h.block b hb hs)⟩
theorem Turn.mono (h : Turn S X Y) (hs : ∀ b, S b → S' b) : Turn S' X Y := { h with block := fun b hb hn => h.block b hb (fun e => hn (hs b e)) }
theorem Turn.join (h : Turn S X Y) (k : Turn S' Y Z) (hs : ∀ b, S' b → b < X.heap.size → S b) : Turn S X Z := ⟨k.os.trans h.os, k.tape.trans h.tape, k.output.trans h.output, Nat.le_trans h.size k.size, fun b hb hn => (k.block b (Nat.lt_of_lt_of_le hb h.size) (fun e => hn (hs b e hb))).trans (h.block b hb hn)⟩
theorem Turn.of_grown {row : Option Nat} (h : X.grownBy Y row) (hr : ∀ r, row = some r → r < X.heap.size → S r) : Turn S X Y := ⟨h.os, h.tape, h.output, h.size, fun b hb hn => h.block b hb (fun e => hn (hr b e.symm hb))⟩
theorem Turn.of_below (h : Below X.heap.size X Y) : Turn S X Y := ⟨h.os, h.tape, h.output, h.size, fun b hb _ => h.block b hb⟩
theorem Turn.alloc (h : Turn S X Y) (o : Obj) : Turn S X (Y.alloc o) := h.trans (Turn.of_grown (World.grownBy_alloc Y o none) (fun _ e => by cases e))
theorem Turn.put {l : Nat} (o : Obj) (hl : S l) : Turn S X (X.putObj l o) := Turn.of_grown (grownBy_putObj' X l o) (fun r e _ => by cases e; exact hl)
theorem Turn.set (a : Addr) (v : Value) (hl : a.block < X.heap.size → S a.block) : Turn S X (X.setCell a v) :=
 ⟨rfl, rfl, rfl, by simp [World.setCell], fun b hb hn => Below.heap_setCell X a v b (fun e => hn (e ▸ hl (e ▸ hb)))⟩
theorem Turn.drew (h : Turn S X Y) : Turn S X Y.drew := ⟨h.os, h.tape, h.output, h.size, h.block⟩
theorem Turn.below {B : Nat} (h : Turn S X Y) (hB : B ≤ X.heap.size) (hs : ∀ b, S b → B ≤ b) : Below B X Y := ⟨h.os, h.tape, h.output, h.size, fun b hb => h.block b (by omega) (fun e => by have := hs b e; omega)⟩
def OwnT (B : Nat) (Ty : TypeId → Prop) (Kx : World → World → Prop) (J : World → Prop) : Prop :=
 (∀ X Y row, J X → X.grownBy Y row → (∀ r, row = some r → B ≤ r ∧ ∃ o : Obj, X.heap[r]? = some o ∧ ((o.isCells = false ∧ o.isWalk = false) ∨ ∃ cs t g, o = .cells cs t g ∧ Ty t)) → J Y) ∧ ∀ X Y, J X → Kx X Y → J Y
variable {B B' : Nat} {Ty Ty' : TypeId → Prop} {Kx : World → World → Prop} {J J' : World → Prop}
theorem OwnT.alloc (h : OwnT B Ty Kx J) (o : Obj) (hJ : J X) : J (X.alloc o) := h.1 X _ none hJ (World.grownBy_alloc X o none) (fun _ e => by cases e)
theorem OwnT.below (h : OwnT B Ty Kx J) (hJ : J X) (hb : Below X.heap.size X Y) : J Y := h.1 X _ none hJ ⟨hb.os, hb.tape, hb.output, hb.size, fun k hk _ => hb.block k hk⟩ (fun _ e => by cases e)
theorem OwnT.put (h : OwnT B Ty Kx J) {l : Nat} {o : Obj} (o' : Obj) (hJ : J X) (hB : B ≤ l) (hl : X.heap[l]? = some o) (ho : o.isCells = false) (hw : o.isWalk = false := by rfl) : J (X.putObj l o') :=
 h.1 X _ (some l) hJ (grownBy_putObj' X l o') (fun r e => by cases e; exact ⟨hB, o, hl, .inl ⟨ho, hw⟩⟩)
theorem OwnT.set (h : OwnT B Ty Kx J) {g : Nat} {t : TypeId} {cs : Array Value} (hJ : J X) (hg : Blk X g t cs) (hB : B ≤ g) (ht : Ty t) (i : Nat) (v : Value) : J (X.setCell ⟨g, i, none⟩ v) :=
 h.1 X _ (some g) hJ ⟨rfl, rfl, rfl, by simp [World.setCell], fun k _ hk => Below.heap_setCell X ⟨g, i, none⟩ v k (fun e => hk (by rw [e]))⟩ (fun r e => by cases e; exact ⟨hB, _, hg, .inr ⟨_, _, _, rfl, ht⟩⟩)
theorem OwnT.le (h : OwnT B Ty Kx J) (hB : B ≤ B') : OwnT B' Ty Kx J := ⟨fun X Y row hJ hg hr => h.1 X Y row hJ hg (fun r e => ⟨Nat.le_trans hB (hr r e).1, (hr r e).2⟩), h.2⟩
theorem OwnT.and (h : OwnT B Ty Kx J) (k : OwnT B Ty Kx J') : OwnT B Ty Kx (fun X => J X ∧ J' X) := ⟨fun X Y row hJ hg hr => ⟨h.1 X Y row hJ.1 hg hr, k.1 X Y row hJ.2 hg hr⟩, fun X Y hJ hk => ⟨h.2 X Y hJ.1 hk, k.2 X Y hJ.2 hk⟩⟩
theorem OwnT.pure (B : Nat) (Ty : TypeId → Prop) (Kx : World → World → Prop) (p : Prop) : OwnT B Ty Kx (fun _ => p) := ⟨fun _ _ _ h _ _ => h, fun _ _ h _ => h⟩
theorem OwnT.ex {α : Sort _} {J : α → World → Prop} (h : ∀ a, OwnT B Ty Kx (J a)) : OwnT B Ty Kx (fun X => ∃ a, J a X) := ⟨fun X Y row ⟨a, hJ⟩ hg hr => ⟨a, (h a).1 X Y row hJ hg hr⟩, fun X Y ⟨a, hJ⟩ hk => ⟨a, (h a).2 X Y hJ hk⟩⟩
theorem OwnT.turn (Ty : TypeId → Prop) {W : World} (hW : W.heap.size ≤ B) (hK : ∀ X Y, Turn S W X → Kx X Y → Turn S W Y) : OwnT B Ty Kx (fun X => Turn S W X) :=
 ⟨fun X Y row hJ hg hr => ⟨hg.os.trans hJ.os, hg.tape.trans hJ.tape, hg.output.trans hJ.output, Nat.le_trans hJ.size hg.size, fun b hb hs => (hg.block b (Nat.lt_of_lt_of_le hb hJ.size) (fun e => by have := (hr b e.symm).1; omega)).trans (hJ.block b hb hs)⟩, hK⟩
theorem OwnT.blk (B : Nat) {Ty : TypeId → Prop} {g : Nat} {t : TypeId} {cs : Array Value} (ht : ¬ Ty t) (hK : ∀ X Y : World, Kx X Y → ∀ (b : Nat) (o : Obj), X.heap[b]? = some o → o.isCells = true → Y.heap[b]? = some o) : OwnT B Ty Kx (fun X => Blk X g t cs) :=
 ⟨fun X Y row hJ hg hr => (hg.block g hJ.lt (fun e => by
  obtain ⟨_, o, h1, h2⟩ := hr g e.symm; rw [show X.heap[g]? = _ from hJ] at h1
  cases h1
  rcases h2 with ⟨h2, _⟩ | ⟨cs', t', g', e', h3⟩
  ·cases h2
  ·cases e'; exact ht h3)).trans hJ, fun X Y hJ hk => hK X Y hk g _ hJ rfl⟩
def SeqL (P : Program) (gf : Nat) (lb : Array Value) (encs : List (Array Value)) (Ty : TypeId → Prop) (Kx : World → World → Prop) (Pre : (Nat → Prop) → World → Prop) : Prop :=
 ∀ (S : Nat → Prop) (L : Nat) (J : Nat → World → Prop) (Jx : World → Prop) (W : World), Pre S W → S L → (∀ b, S b → b < W.heap.size) → (∀ k, OwnT W.heap.size Ty Kx (J k)) → OwnT W.heap.size Ty Kx Jx →
  (∀ k x X, J k X → encs[k]? = some x → YieldAt Fence.wide 0 P L x X fun e X' => Turn S X X' ∧ ((e = .returned (.bool true) ∧ J (k + 1) X') ∨ (e = .returned (.bool false) ∧ Jx X'))) →
  J 0 W → Calls P gf (#[.func (.yield L) #[] #[]] ++ lb) W fun e W' => (∃ v, e = .returned v) ∧ (J encs.length W' ∨ Jx W')
def SeqI (P : Program) (gf : Nat) (lb : Array Value) (encs : List (Array Value)) (Ty : TypeId → Prop) (Kx : World → World → Prop) (Pre : (Nat → Prop) → World → Prop) (Inv : World → Prop) : Prop :=
 ∀ (S : Nat → Prop) (L : Nat) (J : Nat → World → Prop) (Jx : World → Prop) (W : World), Pre S W → S L → (∀ b, S b → b < W.heap.size) → (∀ k, OwnT W.heap.size Ty Kx (J k)) → OwnT W.heap.size Ty Kx Jx → (∀ k X, J k X → Inv X) →
  (∀ k x X, J k X → encs[k]? = some x → YieldAt Fence.wide 0 P L x X fun e X' => Turn S X X' ∧ ((e = .returned (.bool true) ∧ J (k + 1) X') ∨ (e = .returned (.bool false) ∧ Jx X'))) →
  J 0 W → Calls P gf (#[.func (.yield L) #[] #[]] ++ lb) W fun e W' => (∃ v, e = .returned v) ∧ (J encs.length W' ∨ Jx W')
theorem SeqL.toI {P : Program} {gf : Nat} {lb : Array Value} {encs : List (Array Value)} {Ty : TypeId → Prop} {Kx : World → World → Prop} {Pre : (Nat → Prop) → World → Prop} (h : SeqL P gf lb encs Ty Kx Pre) : SeqI P gf lb encs Ty Kx Pre (fun _ => True) :=
 fun S L J Jx W h1 h2 h3 h4 h5 _ h7 h8 => h S L J Jx W h1 h2 h3 h4 h5 h7 h8
def postL (S : Nat → Prop) (I : Nat → World → Prop) (Ix : Code → World → Prop) (k : Nat) (W : World) : Exit → Act → World → Prop
 | .normal, _, W' => Turn S W W' ∧ I (k + 1) W'
 | .ret, _, W' => Turn S W W' ∧ Ix .ret W'
 | .exit id, _, W' => Turn S W W' ∧ Ix (.exit id) W'
 | .goto t, _, W' => Turn S W W' ∧ Ix (.goto t) W'
 | .panic _, _, _ => False
 | .outgrown, _, _ => False
def KeepsRec (Kx : World → World → Prop) : Prop := ∀ X Y : World, Kx X Y → (∀ (b : Nat) (r : Loop), X.heap[b]? = some (.loop r) → Y.heap[b]? = some (.loop r)) ∧ ∀ (b : Nat) (r : Option (List Deferred)), X.heap[b]? = some (.deferred r) → Y.heap[b]? = some (.deferred r)
theorem keepsRec_none : KeepsRec (fun _ _ => False) := fun _ _ h => h.elim
theorem own_rec (hK : KeepsRec Kx) {l : Nat} (r : Loop) (hl : l < B) : OwnT B Ty Kx (fun X => X.heap[l]? = some (.loop r)) :=
 ⟨fun X Y row hJ hg hr => (hg.block l (Array.getElem?_eq_some_iff.1 hJ).1 (fun e => by have := (hr l e.symm).1; omega)).trans hJ, fun X Y hJ hk => (hK X Y hk).1 l r hJ⟩
theorem own_def (hK : KeepsRec Kx) {l : Nat} (r : Option (List Deferred)) (hl : l < B) : OwnT B Ty Kx (fun X => X.heap[l]? = some (.deferred r)) :=
 ⟨fun X Y row hJ hg hr => (hg.block l (Array.getElem?_eq_some_iff.1 hJ).1 (fun e => by have := (hr l e.symm).1; omega)).trans hJ, fun X Y hJ hk => (hK X Y hk).2 l r hJ⟩
section
variable {P : Program}
theorem core {F : Fence} (hc : ∀ {n f args w R}, Calls P f args w R → CallsIn F n P f args w R) {gf : Nat} {lb : Array Value} {encs : List (Array Value)} {Pre : (Nat → Prop) → World → Prop} {Inv : World → Prop}
  (hseq : SeqI P gf lb encs Ty Kx Pre Inv) (hKx : KeepsRec Kx) {ps : Array Tmp} {assign body : Code} {a : Act} {W1 : World} {l n : Nat} {fn : FuncId} {dd : Nat} {rec : LoopState → Option Code → Loop}
  (hrec : rec = fun st pe => { state := st, pending := pe, fn, tmps := a.tmps, params := ps, assign, body, defers := dd }) (hl : W1.heap[l]? = some (.loop (rec .ready none))) (hps : ∀ x ∈ encs, x.size = ps.size)
  (S : Nat → Prop) (hS : ∀ b, S b → b < l) (hpre : Pre (fun b => S b ∨ b = l) W1) (I : Nat → World → Prop) (Ix : Code → World → Prop) (hI : ∀ k, OwnT l Ty Kx (I k)) (hIx : ∀ c, OwnT l Ty Kx (Ix c)) (hInv : ∀ k W, I k W → Inv W) (h0 : I 0 W1)
  (Ax : Nat → Act → World → Prop) (hAx : ∀ k a', OwnT l Ty Kx (Ax k a'))
  (hassign : ∀ (k : Nat) (x : Array Value) (W : World) (K : Act → World → Prop), I k W → encs[k]? = some x → (∀ a' W', Turn S W W' → I k W' → Ax k a' W' → K a' W') →
   assign.wpIn (Fence.wide.inRound l) 0 P (Exit.then K (fun _ _ _ => False)) { tmps := (ps.zip x).foldl (fun t (p, v) => t.setIfInBounds p v) a.tmps, defers := [] } W)
  (hbody : ∀ (k : Nat) (x : Array Value) (a' : Act) (W : World), (∃ r, W.heap[l]? = some (.loop r)) → I k W → Ax k a' W → encs[k]? = some x → body.wpIn (Fence.wide.inRound l) 0 P (postL S I Ix k W) a' W) :
  CallsIn F n P gf (#[.func (.yield l) #[] #[]] ++ lb) W1 fun e W' => (∃ v, e = .returned v) ∧ ((I encs.length W' ∧ W'.heap[l]? = some (.loop (rec .ready none))) ∨ ∃ c, Ix c W' ∧ W'.heap[l]? = some (.loop (rec .done (some c)))) := by
 have hlt1 : l < W1.heap.size := (Array.getElem?_eq_some_iff.1 hl).1
 refine hc ((hseq (fun b => S b ∨ b = l) l (fun k W => I k W ∧ W.heap[l]? = some (.loop (rec .ready none))) (fun W => ∃ c, Ix c W ∧ W.heap[l]? = some (.loop (rec .done (some c)))) W1 hpre (.inr rfl)
  (fun b hb => hb.elim (fun h => by have := hS b h; omega) (fun h => by omega)) (fun k => ((hI k).le (by omega)).and (own_rec hKx _ hlt1)) (OwnT.ex fun c => ((hIx c).le (by omega)).and (own_rec hKx _ hlt1)) (fun k X h => hInv k X h.1) ?_ ⟨h0, hl⟩).mono ?_)
 ·rintro k x W ⟨hi, hl⟩ hx; have hlt : l < W.heap.size := (Array.getElem?_eq_some_iff.1 hl).1; have hy := run_yield (P := P) (args := x) hl (by rw [hrec]; exact hps x (List.mem_of_getElem? hx))
  rw [hrec] at hy; refine ⟨fn, _, assign, body, hy, roundIn_of_wpIn trivial (hassign k x W _ hi hx ?_)⟩; clear hy; intro a' Wa hta hia hax
  have hla : Wa.heap[l]? = some (.loop (rec .ready none)) := (hta.block l hlt (fun h => by have := hS l h; omega)).trans hl
  have hlta : l < Wa.heap.size := (Array.getElem?_eq_some_iff.1 hla).1; refine ⟨_, run_beginRound hla (by rw [hrec]), ?_⟩
  have hl2 : (Wa.putObj l (.loop { rec .ready none with state := .busy })).heap[l]? = some (.loop { rec .ready none with state := .busy }) := World.putObj_heap_same hlta
  have ht2 : Turn (fun b => S b ∨ b = l) W (Wa.putObj l (.loop { rec .ready none with state := .busy })) := (hta.mono fun _ => .inl).trans (Turn.put _ (.inr rfl))
  refine wpIn_mono (hbody k x a' _ ⟨_, hl2⟩ ((hI k).put _ hia (Nat.le_refl _) hla rfl) ((hAx k a').put _ hax (Nat.le_refl _) hla rfl) hx) ?_
  have fin : ∀ (jump : Option Code) (W3 : World), Turn S (Wa.putObj l (.loop { rec .ready none with state := .busy })) W3 →
    (Instr.endRound l jump).run P W3 = .ok (.bool jump.isNone) (W3.putObj l (.loop (rec (if jump.isNone then .ready else .done) jump))) ∧ W3.heap[l]? = some (.loop { rec .ready none with state := .busy }) ∧
    (W3.putObj l (.loop (rec (if jump.isNone then .ready else .done) jump))).heap[l]? = some (.loop (rec (if jump.isNone then .ready else .done) jump)) ∧ Turn (fun b => S b ∨ b = l) W (W3.putObj l (.loop (rec (if jump.isNone then .ready else .done) jump))) := fun jump W3 ht3 => by
   have hl3 : W3.heap[l]? = some (.loop { rec .ready none with state := .busy }) := (ht3.block l (by simpa using hlta) (fun h => by have := hS l h; omega)).trans hl2
   have hr := run_endRound (P := P) jump hl3
   refine ⟨by rw [hr, hrec], hl3, World.putObj_heap_same (Array.getElem?_eq_some_iff.1 hl3).1, (ht2.trans (ht3.mono fun _ => .inl)).trans (Turn.put _ (.inr rfl))⟩
  rintro e a3 W3 hp
  cases e with
  | normal =>
   obtain ⟨hk3, hi3⟩ := hp; obtain ⟨hr, hl3, hl4, ht4⟩ := fin none W3 hk3; exact ⟨_, _, hr, ht4, .inl ⟨rfl, (hI (k + 1)).put _ hi3 (Nat.le_refl _) hl3 rfl, hl4⟩⟩
  | ret =>
   obtain ⟨hk3, hi3⟩ := hp; obtain ⟨hr, hl3, hl4, ht4⟩ := fin (some .ret) W3 hk3; exact ⟨_, _, hr, ht4, .inr ⟨rfl, .ret, (hIx _).put _ hi3 (Nat.le_refl _) hl3 rfl, hl4⟩⟩
  | exit id =>
   obtain ⟨hk3, hi3⟩ := hp; obtain ⟨hr, hl3, hl4, ht4⟩ := fin (some (.exit id)) W3 hk3; exact ⟨_, _, hr, ht4, .inr ⟨rfl, .exit id, (hIx _).put _ hi3 (Nat.le_refl _) hl3 rfl, hl4⟩⟩
  | goto t =>
   obtain ⟨hk3, hi3⟩ := hp; obtain ⟨hr, hl3, hl4, ht4⟩ := fin (some (.goto t)) W3 hk3; exact ⟨_, _, hr, ht4, .inr ⟨rfl, .goto t, (hIx _).put _ hi3 (Nat.le_refl _) hl3 rfl, hl4⟩⟩
  | panic ch => exact hp.elim
  | outgrown => exact hp.elim
 ·rintro e W2 h; exact h
theorem wpIn_rangeI {n : Nat} {g : Operand} {ps : Array Tmp} {assign body : Code} {Q : Exit → Act → World → Prop} {a : Act} {w : World} {gf : Nat} {lb : Array Value} (hg : a.eval g = .func (.func gf) #[] lb)
  (eg : ∀ args w, (callFunc gf args).run P w = .ok (.enter gf args) w) {encs : List (Array Value)} {Pre : (Nat → Prop) → World → Prop} {Inv : World → Prop} (hseq : SeqI P gf lb encs Ty Kx Pre Inv) (hKx : KeepsRec Kx) (hps : ∀ x ∈ encs, x.size = ps.size)
  (S : Nat → Prop) (hS : ∀ b, S b → b < w.heap.size) (hpre : ∀ r, Pre (fun b => S b ∨ b = w.heap.size + 1) ((w.alloc (.deferred (some []))).alloc (.loop r)))
  (I : Nat → World → Prop) (Ix : Code → World → Prop) (hI : ∀ k, OwnT w.heap.size Ty Kx (I k)) (hIx : ∀ c, OwnT w.heap.size Ty Kx (Ix c)) (hInv : ∀ k W, I k W → Inv W) (h0 : I 0 w) (Ax : Nat → Act → World → Prop) (hAx : ∀ k a', OwnT w.heap.size Ty Kx (Ax k a'))
  (hassign : ∀ (l k : Nat) (x : Array Value) (W : World) (K : Act → World → Prop), I k W → encs[k]? = some x → (∀ a' W', Turn S W W' → I k W' → Ax k a' W' → K a' W') →
   assign.wpIn (Fence.wide.inRound l) 0 P (Exit.then K (fun _ _ _ => False)) { tmps := (ps.zip x).foldl (fun t (p, v) => t.setIfInBounds p v) a.tmps, defers := [] } W)
  (hbody : ∀ (l k : Nat) (x : Array Value) (a' : Act) (W : World), w.heap.size ≤ l → (∃ r, W.heap[l]? = some (.loop r)) → I k W → Ax k a' W → encs[k]? = some x → body.wpIn (Fence.wide.inRound l) 0 P (postL S I Ix k W) a' W)
  (hdone : ∀ (D : Nat) (W : World), D = w.heap.size → I encs.length W → W.heap[D]? = some (.deferred (some [])) → Q .normal { a with defers := { target := .collected D, args := #[] } :: a.defers } W)
  (hstop : ∀ (D : Nat) (c : Code) (W : World), D = w.heap.size → Ix c W → W.heap[D]? = some (.deferred (some [])) → c.wpIn Fence.wide n P Q { a with defers := { target := .collected D, args := #[] } :: a.defers } W) :
  (Code.rangeFunc g ps assign body).wpIn Fence.wide n P Q a w := by
 refine wpIn_rangeFunc ?_; intro fn _
 obtain ⟨rec, hrec⟩ : ∃ rec : LoopState → Option Code → Loop, rec = fun st pe => { state := st, pending := pe, fn, tmps := a.tmps, params := ps, assign, body, defers := w.heap.size } := ⟨_, rfl⟩
 obtain ⟨W1, hW1⟩ : ∃ W1, (w.alloc (.deferred (some []))).alloc (.loop (rec .ready none)) = W1 := ⟨_, rfl⟩
 have hL1 : W1.heap[w.heap.size + 1]? = some (.loop (rec .ready none)) := by
  rw [← hW1]; have := World.alloc_heap_new (w.alloc (.deferred (some []))) (.loop (rec .ready none)); rwa [World.size_alloc] at this
 have hD1 : W1.heap[w.heap.size]? = some (.deferred (some [])) := by
  rw [← hW1]; exact (Below.heap_alloc _ _ _ (by simp)).trans (World.alloc_heap_new w _)
 have hI1 : I 0 W1 := by rw [← hW1]; exact (hI 0).alloc _ ((hI 0).alloc _ h0)
 refine ⟨w.heap.size + 1, [{ target := .collected w.heap.size, args := #[] }], W1, { target := .fn (.func gf) lb, args := #[.func (.yield (w.heap.size + 1)) #[] #[]] }, W1, gf, #[.func (.yield (w.heap.size + 1)) #[] #[]] ++ lb, W1, ?_, ?_, fun _ _ => trivial, ?_, fun h => (by cases h), ?_⟩
 ·rw [← hW1, hrec]; exact run_enterLoop_outer _ _ _ _ _
 ·simp only [resolve, hg]
  simp [go_sem]
 ·simp [invoke, go_sem, eg]
 ·have hp1 := hpre (rec .ready none); rw [hW1] at hp1
  refine (core (F := Fence.wide) (fun h => callsIn_wide.2 h) hseq hKx hrec hL1 hps S (fun b h => by have := hS b h; omega) hp1 (fun k W => I k W ∧ W.heap[w.heap.size]? = some (.deferred (some []))) (fun c W => Ix c W ∧ W.heap[w.heap.size]? = some (.deferred (some [])))
   (fun k => ((hI k).le (by omega)).and (own_def hKx _ (by omega))) (fun c => ((hIx c).le (by omega)).and (own_def hKx _ (by omega))) (fun k W h => hInv k W h.1) ⟨hI1, hD1⟩ (fun k a' W => Ax k a' W ∧ W.heap[w.heap.size]? = some (.deferred (some []))) (fun k a' => ((hAx k a').le (by omega)).and (own_def hKx _ (by omega))) ?_ ?_).mono ?_
  ·rintro k x W K ⟨hi, hd⟩ hx hK
   exact hassign _ k x W K hi hx fun a' W' ht hi' ha' => by
    have hd' : W'.heap[w.heap.size]? = some (.deferred (some [])) := (ht.block _ (Array.getElem?_eq_some_iff.1 hd).1 (fun h => by have := hS _ h; omega)).trans hd
    exact hK a' W' ht ⟨hi', hd'⟩ ⟨ha', hd'⟩
  ·rintro k x a' W hr ⟨hi, hd⟩ ⟨ha, _⟩ hx; refine wpIn_mono (hbody _ k x a' W (by omega) hr hi ha hx) ?_
   have hdd : ∀ W', Turn S W W' → W'.heap[w.heap.size]? = some (.deferred (some [])) := fun W' ht => (ht.block _ (Array.getElem?_eq_some_iff.1 hd).1 (fun h => by have := hS _ h; omega)).trans hd
   rintro e a3 W3 hp
   cases e with
   | normal => exact ⟨hp.1, hp.2, hdd _ hp.1⟩
   | ret => exact ⟨hp.1, hp.2, hdd _ hp.1⟩
   | exit id => exact ⟨hp.1, hp.2, hdd _ hp.1⟩
   | goto t => exact ⟨hp.1, hp.2, hdd _ hp.1⟩
   | panic ch => exact hp.elim
   | outgrown => exact hp.elim
  ·rintro e W2 ⟨⟨v, rfl⟩, (⟨⟨hi, hd⟩, hl⟩ | ⟨c, ⟨hi, hd⟩, hl⟩)⟩
   ·exact ⟨none, _, by have := run_endLoop (P := P) hl (by rw [hrec]; simp); rw [hrec] at this; exact this, hdone _ _ rfl ((hI _).put _ hi (by omega) hl rfl) ((World.putObj_heap_other (by omega)).trans hd)⟩
   ·exact ⟨some c, _, by have := run_endLoop (P := P) hl (by rw [hrec]; simp); rw [hrec] at this; exact this, hstop _ c _ rfl ((hIx c).put _ hi (by omega) hl rfl) ((World.putObj_heap_other (by omega)).trans hd)⟩
theorem wpIn_rangeI_slots {β : Type} {n : Nat} {g : Operand} {ps : Array Tmp} {assign body : Code} {Q : Exit → Act → World → Prop} {a : Act} {w : World} {gf : Nat} {lb : Array Value} (hg : a.eval g = .func (.func gf) #[] lb)
  (eg : ∀ args w, (callFunc gf args).run P w = .ok (.enter gf args) w) {encs : List (Array Value)} {Pre : (Nat → Prop) → World → Prop} {Inv : World → Prop} (hseq : SeqI P gf lb encs Ty Kx Pre Inv) (hKx : KeepsRec Kx) (hps : ∀ x ∈ encs, x.size = ps.size)
  (S : Nat → Prop) (hS : ∀ b, S b → b < w.heap.size) (hpre : ∀ r, Pre (fun b => S b ∨ b = w.heap.size + 1) ((w.alloc (.deferred (some []))).alloc (.loop r)))
  (I : Nat → World → Prop) (Ix : Code → World → Prop) (hI : ∀ k, OwnT w.heap.size Ty Kx (I k)) (hIx : ∀ c, OwnT w.heap.size Ty Kx (Ix c)) (hInv : ∀ k W, I k W → Inv W) (h0 : I 0 w) (G : Nat → β → Array Value → Array Value) (A : Nat → β → World → Prop) (hA : ∀ k y, OwnT w.heap.size Ty Kx (A k y))
  (hassign : ∀ (l k : Nat) (x : Array Value) (W : World) (K : Act → World → Prop), I k W → encs[k]? = some x → (∀ y W', Turn S W W' → I k W' → A k y W' → K { tmps := G k y a.tmps, defers := [] } W') →
   assign.wpIn (Fence.wide.inRound l) 0 P (Exit.then K (fun _ _ _ => False)) { tmps := (ps.zip x).foldl (fun t (p, v) => t.setIfInBounds p v) a.tmps, defers := [] } W)
  (hbody : ∀ (l k : Nat) (x : Array Value) (y : β) (W : World), w.heap.size ≤ l → (∃ r, W.heap[l]? = some (.loop r)) → I k W → A k y W → encs[k]? = some x → body.wpIn (Fence.wide.inRound l) 0 P (postL S I Ix k W) { tmps := G k y a.tmps, defers := [] } W)
  (hdone : ∀ (D : Nat) (W : World), D = w.heap.size → I encs.length W → W.heap[D]? = some (.deferred (some [])) → Q .normal { a with defers := { target := .collected D, args := #[] } :: a.defers } W)
  (hstop : ∀ (D : Nat) (c : Code) (W : World), D = w.heap.size → Ix c W → W.heap[D]? = some (.deferred (some [])) → c.wpIn Fence.wide n P Q { a with defers := { target := .collected D, args := #[] } :: a.defers } W) :
  (Code.rangeFunc g ps assign body).wpIn Fence.wide n P Q a w :=
 wpIn_rangeI hg eg hseq hKx hps S hS hpre I Ix hI hIx hInv h0 (fun k a' W => ∃ y, A k y W ∧ a' = { tmps := G k y a.tmps, defers := [] }) (fun k _ => ⟨fun X Y row ⟨y, h, e⟩ hg hr => ⟨y, (hA k y).1 X Y row h hg hr, e⟩, fun X Y ⟨y, h, e⟩ hk => ⟨y, (hA k y).2 X Y h hk, e⟩⟩)
  (fun l k x W K hi hx hK => hassign l k x W K hi hx fun y W' ht hi' ha => hK _ W' ht hi' ⟨y, ha, rfl⟩) (fun l k x _ W hl hr hi ⟨y, ha, e⟩ hx => e ▸ hbody l k x y W hl hr hi ha hx) hdone hstop
theorem wpIn_rangeL_slots {β : Type} {n : Nat} {g : Operand} {ps : Array Tmp} {assign body : Code} {Q : Exit → Act → World → Prop} {a : Act} {w : World} {gf : Nat} {lb : Array Value} (hg : a.eval g = .func (.func gf) #[] lb)
  (eg : ∀ args w, (callFunc gf args).run P w = .ok (.enter gf args) w) {encs : List (Array Value)} {Pre : (Nat → Prop) → World → Prop} (hseq : SeqL P gf lb encs Ty Kx Pre) (hKx : KeepsRec Kx) (hps : ∀ x ∈ encs, x.size = ps.size)
  (S : Nat → Prop) (hS : ∀ b, S b → b < w.heap.size) (hpre : ∀ r, Pre (fun b => S b ∨ b = w.heap.size + 1) ((w.alloc (.deferred (some []))).alloc (.loop r)))
  (I : Nat → World → Prop) (Ix : Code → World → Prop) (hI : ∀ k, OwnT w.heap.size Ty Kx (I k)) (hIx : ∀ c, OwnT w.heap.size Ty Kx (Ix c)) (h0 : I 0 w) (G : Nat → β → Array Value → Array Value) (A : Nat → β → World → Prop) (hA : ∀ k y, OwnT w.heap.size Ty Kx (A k y))
  (hassign : ∀ (l k : Nat) (x : Array Value) (W : World) (K : Act → World → Prop), I k W → encs[k]? = some x → (∀ y W', Turn S W W' → I k W' → A k y W' → K { tmps := G k y a.tmps, defers := [] } W') →
   assign.wpIn (Fence.wide.inRound l) 0 P (Exit.then K (fun _ _ _ => False)) { tmps := (ps.zip x).foldl (fun t (p, v) => t.setIfInBounds p v) a.tmps, defers := [] } W)
  (hbody : ∀ (l k : Nat) (x : Array Value) (y : β) (W : World), w.heap.size ≤ l → (∃ r, W.heap[l]? = some (.loop r)) → I k W → A k y W → encs[k]? = some x → body.wpIn (Fence.wide.inRound l) 0 P (postL S I Ix k W) { tmps := G k y a.tmps, defers := [] } W)
  (hdone : ∀ (D : Nat) (W : World), D = w.heap.size → I encs.length W → W.heap[D]? = some (.deferred (some [])) → Q .normal { a with defers := { target := .collected D, args := #[] } :: a.defers } W)
  (hstop : ∀ (D : Nat) (c : Code) (W : World), D = w.heap.size → Ix c W → W.heap[D]? = some (.deferred (some [])) → c.wpIn Fence.wide n P Q { a with defers := { target := .collected D, args := #[] } :: a.defers } W) :
  (Code.rangeFunc g ps assign body).wpIn Fence.wide n P Q a w :=
 wpIn_rangeI_slots hg eg (SeqL.toI hseq) hKx hps S hS hpre I Ix hI hIx (fun _ _ _ => trivial) h0 G A hA hassign hbody hdone hstop
end
end Go.Sq
namespace Go.Hav
open Go.RowKit
section
variable {P : Program} {ops : Array Oper}
theorem oper_in {o : Oper} {l n : Nat} {a : Act} {w : World} {K : Act → World → Prop} {Q : Exit → Act → World → Prop} (hd : ∀ c, o.op ≠ .defer c) (h : o.wp P a w K Q) : o.wpIn (Fence.wide.inRound l) n P a w K Q := by
 refine ⟨fun _ _ => trivial, ?_⟩
 show o.uponIn _ n P a K Q ((o.semAt (some l) a.eval).run P w); rw [Oper.semAt_some l _ _ hd]; unfold Oper.wp at h
 cases hr : (execOp a.eval o).run P w with
 | ok x w' =>
  rw [hr] at h
  cases x <;> simp only [Oper.upon, Oper.uponIn] at h ⊢
  all_goals first | exact h | exact ⟨fun hn => absurd hn (by simp [Fence.inRound, Fence.wide]), (callsIn_wide.2 h).inRound l⟩ | exact ⟨fun hn => absurd hn (by simp [Fence.inRound, Fence.wide]), fun c cs _ => let ⟨v, w2, r, s⟩ := h c cs; ⟨v, w2, r, stepsIn_wide.2 s⟩⟩
 | halt x w' =>
  rw [hr] at h
  cases x <;> simp only [Oper.upon, Oper.uponIn] at h ⊢ <;> exact h
theorem wpAny_in {md : Region.Mode} {l n : Nat} {Q : Exit → Act → World → Prop} (hd : ∀ (i : Nat) (o : Oper), ops[i]? = some o → ∀ c, o.op ≠ .defer c) (hQ : ¬ LetsOut Q) :
  ∀ (fuel : Nat) (listed : Array Bool) (a : Act) (w : World), wpAny P md ops Q fuel listed a w → wpAnyIn (Fence.wide.inRound l) n P md ops Q fuel listed a w := by
 intro fuel
 induction fuel with
 | zero => intro listed a w h; exact h
 | succ fuel ih =>
  intro listed a w h
  refine ⟨h.1, fun i hi => ?_⟩
  have h1 := h.2 i hi; unfold wpOp at h1; unfold wpOpIn
  cases ho : ops[i]? with
  | none => rw [ho] at h1; exact ih _ _ _ h1
  | some o =>
   rw [ho] at h1; simp only at h1 ⊢
   split
   ·rename_i hw
    rw [if_pos hw] at h1; rcases h1 with h1 | ⟨_, h1⟩
    ·exact Oper.wpIn_mono (fun a w => ih _ a w) (oper_in (hd i o ho) h1)
    ·exact absurd h1 hQ
   ·rename_i hw
    rw [if_neg hw] at h1
    exact ⟨fun _ _ => trivial, ih _ _ _ h1⟩
def noDefer (ops : Array Oper) : Bool := ops.all fun o => match o.op with | .defer _ => false | _ => true
theorem noDefer_spec (h : noDefer ops = true) (i : Nat) (o : Oper) (ho : ops[i]? = some o) (c : Call) : o.op ≠ .defer c := by
 intro e; have h1 := (Array.all_eq_true_iff_forall_mem.1 h) o (Array.mem_of_getElem? ho); rw [e] at h1; simp at h1
end
end Go.Hav
namespace Go.HavG
open Go.RowKit
section
variable {R : Rel} {P : Program} {ops : Array Oper}
theorem tail_in {l m : Nat} {Q : Exit → Act → World → Prop} (hlow : ∀ i o e, ops[i]? = some o → e ∈ o.after → Region.binds .any e = true → e.on < i) :
  ∀ (τ : List Nat) (listed : Array Bool) (a : Act) (w : World), listed.size = ops.size → Closed ops listed → chainOk (Region.before ops) τ = true → (∀ i, i < ops.size → (¬ listed.getD i false = true ↔ i ∈ τ)) →
   (∀ i ∈ τ, i < ops.size) → wpListIn (Fence.wide.inRound l) m P ops Q (τ.filterMap (ops[·]?)) a w → wpAnyIn (Fence.wide.inRound l) m P .any ops Q τ.length listed a w := by
 intro τ
 induction τ with
 | nil =>
  intro listed a w hsz _ _ hun _ h; refine ⟨?_, h⟩
  have : ∀ i, i ∉ Region.ready .any ops listed := fun i hi => by
   obtain ⟨h0, o, ho, _⟩ := mem_ready.1 hi; have hlt := (Array.getElem?_eq_some_iff.1 ho).1; exact absurd ((hun i hlt).1 ((getD_false_iff (by omega)).1 h0)) (by simp)
  exact List.eq_nil_iff_forall_not_mem.2 this
 | cons t τ ih =>
  intro listed a w hsz hcl hch hun hlt h; simp only [chainOk, Bool.and_eq_true, List.all_eq_true, bne_iff_ne] at hch; obtain ⟨hch1, hch2⟩ := hch; have htl := hlt t (by simp)
  have htu := (hun t htl).2 (by simp)
  have only : ∀ i, i ∈ Region.ready .any ops listed → i = t := fun i hi => by
   obtain ⟨h0, o, ho, _⟩ := mem_ready.1 hi; have hil := (Array.getElem?_eq_some_iff.1 ho).1; have hm := (hun i hil).1 ((getD_false_iff (by omega)).1 h0)
   rcases List.mem_cons.1 hm with h1 | h1
   ·exact h1
   ·exact absurd (ready_deps hcl hi (hch1 i h1).2) htu
  refine ⟨fun h0 => absurd h0 (ready_some hsz hlow htl htu), fun i hi => ?_⟩
  obtain rfl := only i hi; have hoi : ops[i]? = some ops[i] := Array.getElem?_eq_getElem htl; rw [List.filterMap_cons_some hoi] at h; unfold wpOpIn; simp only [hoi]; simp only [wpListIn] at h
  have next : ∀ a' w', wpListIn (Fence.wide.inRound l) m P ops Q (τ.filterMap (ops[·]?)) a' w' → wpAnyIn (Fence.wide.inRound l) m P .any ops Q τ.length (listed.setIfInBounds i true) a' w' := fun a' w' h' => by
   refine ih _ a' w' (by simpa using hsz) (hcl.step hi) hch2 (fun k hk => ?_) (fun k hk => hlt k (List.mem_cons_of_mem _ hk)) h'
   by_cases hik : i = k
   ·subst hik; rw [Array.getD_eq_getD_getElem?, Array.getElem?_setIfInBounds_self_of_lt (by omega)]
    simp only [Option.getD_some, not_true_eq_false, false_iff]
    exact fun h1 => (hch1 i h1).1 rfl
   ·rw [getD_set_ne false hik, hun k hk]
    simp [Ne.symm hik]
  split
  ·rename_i hw
   rw [if_pos hw] at h; exact Oper.wpIn_mono next h
  ·rename_i hw
   rw [if_neg hw] at h; exact ⟨h.1, next _ _ h.2⟩

theorem hav_in {l m : Nat} {Q : Exit → Act → World → Prop} {Qp : List PanicEntry → World → Prop} {w0 : World} {a0 : Act} {S : List Nat} (hsel : Region.noSelect ops = true) (hnd : ∀ (i : Nat) (o : Oper), ops[i]? = some o → ∀ c, o.op ≠ .defer c)
  (hlow : ∀ i o e, ops[i]? = some o → e ∈ o.after → Region.binds .any e = true → e.on < i) (hQ : ∀ ch a w, Agree ops S a0 a → Qp ch w → Q (.panic ch) a w)
  (τ : List Nat) (hch : chainOk (Region.before ops) τ = true) (hlt : ∀ i ∈ τ, i < ops.size) :
  ∀ (n : Nat) (π : List (Nat × Bool)) (listed : Array Bool) (a : Act) (w : World) (F : World → Prop), π.length = n → listed.size = ops.size → Closed ops listed → pairsOk ops (Region.before ops) π = true →
   (∀ t ∈ τ, ∀ x ∈ π, t ≠ x.1 ∧ ((Region.before ops).getD t 0).testBit x.1 = true) → (∀ x ∈ π, x.1 < ops.size) → (∀ x ∈ π, x.1 ∈ S) → (∀ i, i < ops.size → (¬ listed.getD i false = true ↔ i ∈ π.map (·.1) ∨ i ∈ τ)) →
   (∀ w w', F w → R.G w w' → F w') → F w → R.G w0 w → Agree ops S a0 a →
   wpHav R P ops Qp w0 (fun a F => ∀ w, R.G w0 w → F w → wpListIn (Fence.wide.inRound l) m P ops Q (τ.filterMap (ops[·]?)) a w) π a F →
   wpAnyIn (Fence.wide.inRound l) m P .any ops Q (n + τ.length) listed a w := by
 intro n
 induction n with
 | zero =>
  intro π listed a w F hn hsz hcl _ _ _ _ hun _ hF hG _ h; obtain rfl : π = [] := List.eq_nil_of_length_eq_zero hn; rw [Nat.zero_add]
  exact tail_in hlow τ listed a w hsz hcl hch (fun i hi => by simpa using hun i hi) hlt (h w hG hF)
 | succ n ih =>
  intro π listed a w F hn hsz hcl hpo hτ hπ hS hun hFs hF hG hag h
  have hne : Region.ready .any ops listed ≠ [] := by
   match π, hn with
   | x :: π', _ =>
    have hx := hπ x (by simp)
    exact ready_some hsz hlow hx ((hun x.1 hx).2 (.inl (by simp)))
  rw [show n + 1 + τ.length = (n + τ.length) + 1 by omega]
  refine ⟨fun h0 => absurd h0 hne, fun i hi => ?_⟩
  obtain ⟨h0, o, ho, _⟩ := mem_ready.1 hi; have hil := (Array.getElem?_eq_some_iff.1 ho).1; have hiu := (getD_false_iff (by omega)).1 h0
  have hmem : i ∈ π.map (·.1) := by
   rcases (hun i hil).1 hiu with h1 | h1
   ·exact h1
   ·exfalso
    match π, hn with
    | x :: π', _ =>
     have hx := hπ x (by simp)
     exact ((hun x.1 hx).2 (.inl (by simp))) (ready_deps hcl hi (hτ i h1 x (by simp)).2)
  obtain ⟨⟨i', g⟩, hm, rfl⟩ := List.mem_map.1 hmem
  simp only at *
  obtain ⟨pre, rest, rfl⟩ := List.append_of_mem hm
  have hpre : ∀ (pre : List (Nat × Bool)) (rest : List (Nat × Bool)), pairsOk ops (Region.before ops) (pre ++ (i', g) :: rest) = true → (∀ x ∈ pre, x.1 < ops.size ∧ ¬ listed.getD x.1 false = true) →
    (∀ x ∈ pre, x.2 = false ∧ ∀ ox oy, ops[x.1]? = some ox → ops[i']? = some oy → ox.apart ops oy = true) ∧ pairsOk ops (Region.before ops) (pre ++ rest) = true ∧ i' ∉ (pre ++ rest).map (·.1) := by
   intro pre
   induction pre with
   | nil =>
    intro rest hp _; simp only [List.nil_append, pairsOk, Bool.and_eq_true, List.all_eq_true, bne_iff_ne] at hp ⊢
    refine ⟨by simp, hp.2, fun hc => ?_⟩
    obtain ⟨y, hy, he⟩ := List.mem_map.1 hc; exact (hp.1 y hy).1 he
   | cons x pre ihp =>
    intro rest hp hx; obtain ⟨x, gx⟩ := x; simp only [List.cons_append, pairsOk, Bool.and_eq_true, List.all_eq_true, bne_iff_ne] at hp
    obtain ⟨r1, r2, r3⟩ := ihp rest hp.2 (fun z hz => hx z (List.mem_cons_of_mem _ hz))
    have h1 := hp.1 (i', g) (by simp)
    have hnd : ((Region.before ops).getD i' 0).testBit x = false := by
     cases hb : ((Region.before ops).getD i' 0).testBit x
     ·rfl
     ·exact absurd (ready_deps hcl hi hb) (hx (x, gx) (by simp)).2
    simp only [hnd, Bool.false_or, Bool.and_eq_true, Bool.not_eq_true'] at h1
    refine ⟨fun z hz => ?_, ?_, ?_⟩
    ·rcases List.mem_cons.1 hz with rfl | hz
     ·exact ⟨h1.2.1, fun ox oy hox hoy => by simpa [hox, hoy] using h1.2.2⟩
     ·exact r1 z hz
    ·simp only [List.cons_append, pairsOk, Bool.and_eq_true, List.all_eq_true, bne_iff_ne]
     refine ⟨fun y hy => hp.1 y ?_, r2⟩
     rcases List.mem_append.1 hy with hy | hy
     ·exact List.mem_append_left _ hy
     ·exact List.mem_append_right _ (List.mem_cons_of_mem _ hy)
    ·simp only [List.cons_append, List.map_cons, List.mem_cons, not_or]; exact ⟨h1.1, r3⟩
  obtain ⟨q1, q2, q3⟩ := hpre pre rest hpo (fun x hx => ⟨hπ x (List.mem_append_left _ hx), (hun x.1 (hπ x (List.mem_append_left _ hx))).2 (.inl (List.mem_map.2 ⟨x, List.mem_append_left _ hx, rfl⟩))⟩)
  have hf := wpHav_front hsel pre rest a F q1 h; obtain ⟨o', ho', hf⟩ := hf; rw [ho] at ho'; obtain rfl := Option.some.inj ho'
  have next : ∀ (v : Value) (w' : World) (F' : World → Prop), (∀ w w', F' w → R.G w w' → F' w') → F' w' → R.G w w' → wpHav R P ops Qp w0 (fun a F => ∀ w, R.G w0 w → F w → wpListIn (Fence.wide.inRound l) m P ops Q (τ.filterMap (ops[·]?)) a w) (pre ++ rest) (a.put o.dst v) F' →
    wpAnyIn (Fence.wide.inRound l) m P .any ops Q (n + τ.length) (listed.setIfInBounds i' true) (a.put o.dst v) w' := fun v w' F' hs1 hs2 hs3 hs4 => by
   refine ih (pre ++ rest) _ _ w' F' (by simp at hn ⊢; omega) (by simpa using hsz) (hcl.step hi) q2 (fun t ht x hx => hτ t ht x ?_) (fun x hx => hπ x ?_) (fun x hx => hS x ?_) (fun k hk => ?_) hs1 hs2 (R.trans hG hs3) (hag.put (hS (i', g) (by simp)) ho v) hs4
   ·rcases List.mem_append.1 hx with hx | hx
    ·exact List.mem_append_left _ hx
    ·exact List.mem_append_right _ (List.mem_cons_of_mem _ hx)
   ·rcases List.mem_append.1 hx with hx | hx
    ·exact List.mem_append_left _ hx
    ·exact List.mem_append_right _ (List.mem_cons_of_mem _ hx)
   ·rcases List.mem_append.1 hx with hx | hx
    ·exact List.mem_append_left _ hx
    ·exact List.mem_append_right _ (List.mem_cons_of_mem _ hx)
   ·by_cases hik : i' = k
    ·subst hik; rw [Array.getD_eq_getD_getElem?, Array.getElem?_setIfInBounds_self_of_lt (by omega)]
     simp only [Option.getD_some, not_true_eq_false, false_iff, not_or]
     exact ⟨q3, fun h1 => (hτ i' h1 (i', g) (by simp)).1 rfl⟩
    ·rw [getD_set_ne false hik, hun k hk]
     simp [Ne.symm hik]
  have fin : ∀ (Φ : Value → World → Prop) , Obl R P ops Qp o a w Φ → (∀ v w', R.G w w' → Φ v w' → wpAnyIn (Fence.wide.inRound l) m P .any ops Q (n + τ.length) (listed.setIfInBounds i' true) (a.put o.dst v) w') →
    wpOpIn (Fence.wide.inRound l) m P ops Q i' (wpAnyIn (Fence.wide.inRound l) m P .any ops Q (n + τ.length) (listed.setIfInBounds i' true)) a w := fun Φ hO hN => by
   unfold wpOpIn; simp only [ho]; unfold Obl stepOf at hO
   split
   ·rename_i hw
    rw [if_pos hw] at hO
    exact Oper.wpIn_mono (fun a w hx => hx) (Hav.oper_in (hnd _ o ho) (Oper.wp_mono (fun a' w' ⟨v, e, h1, h2⟩ => by rw [e]; exact hN v w' h1 h2) (wp_of_Qh (fun ch w' hc => hQ ch a w' hag hc) hO)))
   ·rename_i hw
    rw [if_neg hw] at hO; obtain ⟨v, e, h1, h2⟩ := hO; rw [e]
    exact ⟨fun _ _ => trivial, hN v w h1 h2⟩
  cases g
  ·simp only [Bool.false_eq_true, if_false] at hf; obtain ⟨V, hV, hf⟩ := hf
   exact fin _ (hV w hG hF) fun v w' h1 h2 => by rw [h2]; exact next V w' F hFs (hFs w w' hF h1) h1 hf
  ·simp only [if_true] at hf; obtain ⟨Φ, hst, hV, hf⟩ := hf
   exact fin _ (hV w hG hF) fun v w' h1 h2 => next v w' (fun w => F w ∧ Φ v w) (fun a b h hg => ⟨hFs a b h.1 hg, hst v a b h.2 hg⟩) ⟨hFs w w' hF h1, h2⟩ h1 (hf v)

theorem wpIn_region_tail {l m : Nat} {Q : Exit → Act → World → Prop} (π : List (Nat × Bool)) (τ : List Nat) (Qp : List PanicEntry → World → Prop) {id : Nat} {a : Act} {w : World} (hm : P.follows .mixedOrders = true) (hok : havOk ops π τ = true) (hnd : Hav.noDefer ops = true)
  (hQ : ∀ ch a' w', Agree ops (π.map (·.1)) a a' → Qp ch w' → Q (.panic ch) a' w')
  (h : wpHav R P ops Qp w (fun a F => ∀ w', R.G w w' → F w' → wpListIn (Fence.wide.inRound l) m P ops Q (τ.filterMap (ops[·]?)) a w') π a (fun _ => True)) : (Code.region id ops true).wpIn (Fence.wide.inRound l) m P Q a w := by
 simp only [havOk, Bool.and_eq_true, List.all_eq_true, List.mem_range, Bool.or_eq_true, List.any_eq_true, beq_iff_eq, decide_eq_true_eq, bne_iff_ne, List.contains_iff_mem] at hok; obtain ⟨c1, c2, c3, c4, c5, ⟨c6, c7⟩, c8, c9⟩ := hok; have hg0 : R.G w { w with drawn := w.drawn + 1 } := R.drew w
 have hlow : ∀ i o e, ops[i]? = some o → e ∈ o.after → Region.binds .any e = true → e.on < i := fun i o e ho he hb => by
  have h1 := c9 i (Array.getElem?_eq_some_iff.1 ho).1; simp only [ho, Array.all_eq_true_iff_forall_mem, Bool.or_eq_true, Bool.not_eq_true', decide_eq_true_eq] at h1; exact (h1 e he).resolve_left (by simp [hb])
 refine wpIn_region_any hm ?_; rw [← c8]
 refine hav_in (w0 := w) (a0 := a) (Qp := Qp) c1 (Hav.noDefer_spec hnd) hlow hQ τ c3 c7 π.length π _ a _ (fun _ => True) rfl (by simp [c8]) ?_ c2 c4 c6 (fun x hx => List.mem_map.2 ⟨x, hx, rfl⟩) (fun i hi => ?_) (fun _ _ _ _ => trivial) trivial hg0 ⟨rfl, rfl, fun _ _ => rfl⟩ h
 ·intro i o e _ hl
  simp [Array.getD_eq_getD_getElem?, Array.getElem?_replicate] at hl
  split at hl <;> simp at hl
 ·have hr : ¬ (Array.replicate (π.length + τ.length) false).getD i false = true := by
   simp [Array.getD_eq_getD_getElem?, Array.getElem?_replicate]
   split <;> rfl
  refine ⟨fun _ => ?_, fun _ => by simpa [c8] using hr⟩
  rcases c5 i hi with ⟨x, hx, he⟩ | hx
  ·exact .inl (List.mem_map.2 ⟨x, hx, he⟩)
  ·exact .inr hx
end
end Go.HavG
namespace Go.Proofs.YtgmfhngcehkibaaGreat
open Go.RowKit
theorem ofInt64 (a : Nat) (ha : a < 18446744073709551616) : (BitVec.ofInt 64 (a : Int)).toNat = a := by
 rw [BitVec.ofInt_natCast, BitVec.toNat_ofNat]; exact Nat.mod_eq_of_lt (by omega)
theorem wrap_small (a : Nat) (ha : a < 4611686018427387904) : IntKind.i64.wrap (a : Int) = a := by
 rw [IntKind.wrap_i64]; omega
theorem and_u64 (a b : Nat) (ha : a < 4611686018427387904) (hb : b < 4611686018427387904) : bits BinOp.and IntKind.u64 (a : Int) (b : Int) = ((a &&& b : Nat) : Int) := bits_and_u64_nat a b (by omega) (by omega)
theorem or_u64 (a b : Nat) (ha : a < 4611686018427387904) (hb : b < 4611686018427387904) : bits BinOp.or IntKind.u64 (a : Int) (b : Int) = ((a ||| b : Nat) : Int) := bits_or_u64_nat a b (by omega) (by omega)
theorem and_i64 (a b : Nat) (ha : a < 4611686018427387904) (hb : b < 4611686018427387904) : bits BinOp.and IntKind.i64 (a : Int) (b : Int) = ((a &&& b : Nat) : Int) := by
 have hx : a &&& b ≤ a := Nat.and_le_left; show IntKind.i64.wrap ((BitVec.ofInt 64 (a : Int) &&& BitVec.ofInt 64 (b : Int)).toNat : Int) = _; rw [BitVec.toNat_and, ofInt64 a (by omega), ofInt64 b (by omega), wrap_small _ (by omega)]
theorem or_i64 (a b : Nat) (ha : a < 4611686018427387904) (hb : b < 4611686018427387904) : bits BinOp.or IntKind.i64 (a : Int) (b : Int) = ((a ||| b : Nat) : Int) := by
 have hx : a ||| b < 2 ^ 62 := Nat.or_lt_two_pow (by omega) (by omega)
 show IntKind.i64.wrap ((BitVec.ofInt 64 (a : Int) ||| BitVec.ofInt 64 (b : Int)).toNat : Int) = _; rw [BitVec.toNat_or, ofInt64 a (by omega), ofInt64 b (by omega), wrap_small _ (by omega)]
theorem div_cast (s k : Nat) : (s : Int) / 2 ^ k = ((s / 2 ^ k : Nat) : Int) := by
 rw [Int.natCast_ediv]; simp
theorem and_one (k : IntKind) (hk : k = .u64 ∨ k = .i64) (s i : Nat) (hs : s < 4611686018427387904) : bits BinOp.and k ((s : Int) / 2 ^ i) 1 = if s.testBit i = true then 1 else 0 := by
 have h1 : s / 2 ^ i ≤ s := Nat.div_le_self _ _
 have h2 : bits BinOp.and k ((s : Int) / 2 ^ i) 1 = ((s / 2 ^ i &&& 1 : Nat) : Int) := by
  rw [div_cast]; rcases hk with rfl | rfl
  ·exact and_u64 _ 1 (by omega) (by omega)
  ·exact and_i64 _ 1 (by omega) (by omega)
 rw [h2, Nat.and_one_is_mod, Nat.testBit_eq_decide_div_mod_eq]; have : s / 2 ^ i % 2 < 2 := Nat.mod_lt _ (by omega)
 split
 ·rename_i h; simp only [decide_eq_true_eq] at h; omega
 ·rename_i h; simp only [decide_eq_true_eq] at h; omega
theorem tb_u64 (s k : Nat) (hs : s < 4611686018427387904) : (bits BinOp.and IntKind.u64 ((s : Int) / 2 ^ k) 1 == 1) = s.testBit k := by
 rw [and_one _ (.inl rfl) s k hs]
 cases s.testBit k <;> rfl
theorem tb_i64 (s k : Nat) (hs : s < 4611686018427387904) : (bits BinOp.and IntKind.i64 ((s : Int) / 2 ^ k) 1 == 1) = s.testBit k := by
 rw [and_one _ (.inr rfl) s k hs]
 cases s.testBit k <;> rfl
theorem pow_cast (k : Nat) : ((2 ^ k : Nat) : Int) = 2 ^ k := by simp
end Go.Proofs.YtgmfhngcehkibaaGreat
