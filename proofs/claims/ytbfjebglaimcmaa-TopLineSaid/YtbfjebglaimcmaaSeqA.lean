/- A range over a function, by a law of my own over the kit's: the iterator yields a known list; the body may turn blocks of a given set, the iterator those that are its own, or a map that both keep. No condition. -/
import Derived.Test.YtbfjebglaimcmaaCore
import Derived.RangeFuncNested
import Derived.RangeFuncBound
import Derived.RangeFuncCalls
import Derived.RangeFuncLeaves
import Derived.RangeFuncWrites
import Derived.Shelf.Abstract
import Derived.OwnWalkIn
import Derived.TacticsInMore
import Derived.LoopNIn
import Derived.LoopIn
namespace Go.Sq
open Go.RowKit Go.Proofs.Ytbfjebglaimcmaa
/-- All blocks are kept but those of a set. -/
structure Turn (S : Nat → Prop) (X Y : World) : Prop where
  os : Y.os = X.os
  tape : Y.tape = X.tape
  output : Y.output = X.output
  size : X.heap.size ≤ Y.heap.size
  block : ∀ b, b < X.heap.size → ¬ S b → Y.heap[b]? = X.heap[b]?
variable {S S' : Nat → Prop} {X Y Z : World}
theorem Turn.refl (S : Nat → Prop) (X : World) : Turn S X X := ⟨rfl, rfl, rfl, Nat.le_refl _, fun _ _ _ => rfl⟩
theorem Turn.trans (h : Turn S X Y) (k : Turn S Y Z) : Turn S X Z := ⟨k.os.trans h.os, k.tape.trans h.tape, k.output.trans h.output, Nat.le_trans h.size k.size, fun b hb hs => (k.block b (Nat.lt_of_lt_of_le hb h.size) hs).trans (h.block b hb hs)⟩
theorem Turn.mono (h : Turn S X Y) (hs : ∀ b, S b → S' b) : Turn S' X Y := { h with block := fun b hb hn => h.block b hb (fun e => hn (hs b e)) }
/-- What is turned lay not yet, or is of the set. -/
theorem Turn.join (h : Turn S X Y) (k : Turn S' Y Z) (hs : ∀ b, S' b → b < X.heap.size → S b) : Turn S X Z := ⟨k.os.trans h.os, k.tape.trans h.tape, k.output.trans h.output, Nat.le_trans h.size k.size, fun b hb hn => (k.block b (Nat.lt_of_lt_of_le hb h.size) (fun e => hn (hs b e hb))).trans (h.block b hb hn)⟩
theorem Turn.of_grown {row : Option Nat} (h : X.grownBy Y row) (hr : ∀ r, row = some r → r < X.heap.size → S r) : Turn S X Y := ⟨h.os, h.tape, h.output, h.size, fun b hb hn => h.block b hb (fun e => hn (hr b e.symm hb))⟩
theorem Turn.of_below (h : Below X.heap.size X Y) : Turn S X Y := ⟨h.os, h.tape, h.output, h.size, fun b hb _ => h.block b hb⟩
theorem Turn.alloc (h : Turn S X Y) (o : Obj) : Turn S X (Y.alloc o) := h.trans (Turn.of_grown (World.grownBy_alloc Y o none) (fun _ e => by cases e))
theorem Turn.put {l : Nat} (o : Obj) (hl : S l) : Turn S X (X.putObj l o) := Turn.of_grown (grownBy_putObj' X l o) (fun r e _ => by cases e; exact hl)
theorem Turn.set (a : Addr) (v : Value) (hl : a.block < X.heap.size → S a.block) : Turn S X (X.setCell a v) :=
  ⟨rfl, rfl, rfl, by simp [World.setCell], fun b hb hn => Below.heap_setCell X a v b (fun e => hn (e ▸ hl (e ▸ hb)))⟩
theorem Turn.drew (h : Turn S X Y) : Turn S X Y.drew := ⟨h.os, h.tape, h.output, h.size, h.block⟩
theorem Turn.grown (h : Turn (fun _ => False) X Y) : X.grownBy Y none := ⟨h.os, h.tape, h.output, h.size, fun b hb _ => h.block b hb id⟩
theorem Turn.below {B : Nat} (h : Turn S X Y) (hB : B ≤ X.heap.size) (hs : ∀ b, S b → B ≤ b) : Below B X Y := ⟨h.os, h.tape, h.output, h.size, fun b hb => h.block b (by omega) (fun e => by have := hs b e; omega)⟩
/-- What an iterator turns of its own: what is no cells, or cells of a type that it writes; or a step that all keep. -/
def OwnT (B : Nat) (Ty : TypeId → Prop) (Kx : World → World → Prop) (J : World → Prop) : Prop :=
  (∀ X Y row, J X → X.grownBy Y row → (∀ r, row = some r → B ≤ r ∧ ∃ o : Obj, X.heap[r]? = some o ∧ ((o.isCells = false ∧ o.isWalk = false) ∨ ∃ cs t g, o = .cells cs t g ∧ Ty t)) → J Y) ∧ ∀ X Y, J X → Kx X Y → J Y
variable {B B' : Nat} {Ty Ty' : TypeId → Prop} {Kx : World → World → Prop} {J J' : World → Prop}
theorem OwnT.alloc (h : OwnT B Ty Kx J) (o : Obj) (hJ : J X) : J (X.alloc o) := h.1 X _ none hJ (World.grownBy_alloc X o none) (fun _ e => by cases e)
theorem OwnT.below (h : OwnT B Ty Kx J) (hJ : J X) (hb : Below X.heap.size X Y) : J Y := h.1 X _ none hJ ⟨hb.os, hb.tape, hb.output, hb.size, fun k hk _ => hb.block k hk⟩ (fun _ e => by cases e)
theorem OwnT.put (h : OwnT B Ty Kx J) {l : Nat} {o : Obj} (o' : Obj) (hJ : J X) (hB : B ≤ l) (hl : X.heap[l]? = some o) (ho : o.isCells = false) (hw : o.isWalk = false := by rfl) : J (X.putObj l o') :=
  h.1 X _ (some l) hJ (grownBy_putObj' X l o') (fun r e => by cases e; exact ⟨hB, o, hl, .inl ⟨ho, hw⟩⟩)
theorem OwnT.set (h : OwnT B Ty Kx J) {g : Nat} {t : TypeId} {cs : Array Value} (hJ : J X) (hg : Blk X g t cs) (hB : B ≤ g) (ht : Ty t) (i : Nat) (v : Value) : J (X.setCell ⟨g, i, none⟩ v) :=
  h.1 X _ (some g) hJ ⟨rfl, rfl, rfl, by simp [World.setCell], fun k _ hk => Below.heap_setCell X ⟨g, i, none⟩ v k (fun e => hk (by rw [e]))⟩ (fun r e => by cases e; exact ⟨hB, _, hg, .inr ⟨_, _, _, rfl, ht⟩⟩)
theorem OwnT.le (h : OwnT B Ty Kx J) (hB : B ≤ B') : OwnT B' Ty Kx J := ⟨fun X Y row hJ hg hr => h.1 X Y row hJ hg (fun r e => ⟨Nat.le_trans hB (hr r e).1, (hr r e).2⟩), h.2⟩
theorem OwnT.ty (h : OwnT B Ty Kx J) (ht : ∀ t, Ty' t → Ty t) : OwnT B Ty' Kx J := ⟨fun X Y row hJ hg hr => h.1 X Y row hJ hg (fun r e => by
  obtain ⟨h1, o, h2, h3⟩ := hr r e
  exact ⟨h1, o, h2, h3.imp id (fun ⟨cs, t, g, e, k⟩ => ⟨cs, t, g, e, ht t k⟩)⟩), h.2⟩
theorem OwnT.and (h : OwnT B Ty Kx J) (k : OwnT B Ty Kx J') : OwnT B Ty Kx (fun X => J X ∧ J' X) := ⟨fun X Y row hJ hg hr => ⟨h.1 X Y row hJ.1 hg hr, k.1 X Y row hJ.2 hg hr⟩, fun X Y hJ hk => ⟨h.2 X Y hJ.1 hk, k.2 X Y hJ.2 hk⟩⟩
theorem OwnT.pure (B : Nat) (Ty : TypeId → Prop) (Kx : World → World → Prop) (p : Prop) : OwnT B Ty Kx (fun _ => p) := ⟨fun _ _ _ h _ _ => h, fun _ _ h _ => h⟩
theorem OwnT.ex {α : Sort _} {J : α → World → Prop} (h : ∀ a, OwnT B Ty Kx (J a)) : OwnT B Ty Kx (fun X => ∃ a, J a X) := ⟨fun X Y row ⟨a, hJ⟩ hg hr => ⟨a, (h a).1 X Y row hJ hg hr⟩, fun X Y ⟨a, hJ⟩ hk => ⟨a, (h a).2 X Y hJ hk⟩⟩
/-- What lay ahead of the iteration is kept. -/
theorem OwnT.turn (Ty : TypeId → Prop) {W : World} (hW : W.heap.size ≤ B) (hK : ∀ X Y, Turn S W X → Kx X Y → Turn S W Y) : OwnT B Ty Kx (fun X => Turn S W X) :=
  ⟨fun X Y row hJ hg hr => ⟨hg.os.trans hJ.os, hg.tape.trans hJ.tape, hg.output.trans hJ.output, Nat.le_trans hJ.size hg.size, fun b hb hs => (hg.block b (Nat.lt_of_lt_of_le hb hJ.size) (fun e => by have := (hr b e.symm).1; omega)).trans (hJ.block b hb hs)⟩, hK⟩
/-- A block of cells of a type that the iterator does not write. -/
theorem OwnT.blk (B : Nat) {Ty : TypeId → Prop} {g : Nat} {t : TypeId} {cs : Array Value} (ht : ¬ Ty t) (hK : ∀ X Y : World, Kx X Y → ∀ (b : Nat) (o : Obj), X.heap[b]? = some o → o.isCells = true → Y.heap[b]? = some o) : OwnT B Ty Kx (fun X => Blk X g t cs) :=
  ⟨fun X Y row hJ hg hr => (hg.block g hJ.lt (fun e => by
    obtain ⟨_, o, h1, h2⟩ := hr g e.symm
    rw [show X.heap[g]? = _ from hJ] at h1
    cases h1
    rcases h2 with ⟨h2, _⟩ | ⟨cs', t', g', e', h3⟩
    · cases h2
    · cases e'; exact ht h3)).trans hJ, fun X Y hJ hk => hK X Y hk g _ hJ rfl⟩
/-- A function value that is an iterator: its code's function, what it has captured; it yields just a list. -/
def SeqL (P : Program) (gf : Nat) (lb : Array Value) (encs : List (Array Value)) (Ty : TypeId → Prop) (Kx : World → World → Prop) (Pre : (Nat → Prop) → World → Prop) : Prop :=
  ∀ (S : Nat → Prop) (L : Nat) (J : Nat → World → Prop) (Jx : World → Prop) (W : World), Pre S W → S L → (∀ b, S b → b < W.heap.size) → (∀ k, OwnT W.heap.size Ty Kx (J k)) → OwnT W.heap.size Ty Kx Jx →
    (∀ k x X, J k X → encs[k]? = some x → YieldAt Fence.wide 0 P L x X fun e X' => Turn S X X' ∧ ((e = .returned (.bool true) ∧ J (k + 1) X') ∨ (e = .returned (.bool false) ∧ Jx X'))) →
    J 0 W → Calls P gf (#[.func (.yield L) #[] #[]] ++ lb) W fun e W' => (∃ v, e = .returned v) ∧ (J encs.length W' ∨ Jx W')
/-- The same where the iterator needs something of the world between two rounds: who ranges over it sees to that. -/
def SeqI (P : Program) (gf : Nat) (lb : Array Value) (encs : List (Array Value)) (Ty : TypeId → Prop) (Kx : World → World → Prop) (Pre : (Nat → Prop) → World → Prop) (Inv : World → Prop) : Prop :=
  ∀ (S : Nat → Prop) (L : Nat) (J : Nat → World → Prop) (Jx : World → Prop) (W : World), Pre S W → S L → (∀ b, S b → b < W.heap.size) → (∀ k, OwnT W.heap.size Ty Kx (J k)) → OwnT W.heap.size Ty Kx Jx → (∀ k X, J k X → Inv X) →
    (∀ k x X, J k X → encs[k]? = some x → YieldAt Fence.wide 0 P L x X fun e X' => Turn S X X' ∧ ((e = .returned (.bool true) ∧ J (k + 1) X') ∨ (e = .returned (.bool false) ∧ Jx X'))) →
    J 0 W → Calls P gf (#[.func (.yield L) #[] #[]] ++ lb) W fun e W' => (∃ v, e = .returned v) ∧ (J encs.length W' ∨ Jx W')
theorem SeqL.toI {P : Program} {gf : Nat} {lb : Array Value} {encs : List (Array Value)} {Ty : TypeId → Prop} {Kx : World → World → Prop} {Pre : (Nat → Prop) → World → Prop} (h : SeqL P gf lb encs Ty Kx Pre) : SeqI P gf lb encs Ty Kx Pre (fun _ => True) :=
  fun S L J Jx W h1 h2 h3 h4 h5 _ h7 h8 => h S L J Jx W h1 h2 h3 h4 h5 h7 h8
/-- How the body of a round may be left. -/
def postL (S : Nat → Prop) (I : Nat → World → Prop) (Ix : Code → World → Prop) (k : Nat) (W : World) : Exit → Act → World → Prop
  | .normal, _, W' => Turn S W W' ∧ I (k + 1) W'
  | .ret, _, W' => Turn S W W' ∧ Ix .ret W'
  | .exit id, _, W' => Turn S W W' ∧ Ix (.exit id) W'
  | .goto t, _, W' => Turn S W W' ∧ Ix (.goto t) W'
  | .panic _, _, _ => False
  | .outgrown, _, _ => False
/-- What is a loop's record, or calls that wait, is no cells, and a step that all keep leaves it. -/
def KeepsRec (Kx : World → World → Prop) : Prop := ∀ X Y : World, Kx X Y → (∀ (b : Nat) (r : Loop), X.heap[b]? = some (.loop r) → Y.heap[b]? = some (.loop r)) ∧ ∀ (b : Nat) (r : Option (List Deferred)), X.heap[b]? = some (.deferred r) → Y.heap[b]? = some (.deferred r)
theorem keepsRec_none : KeepsRec (fun _ _ => False) := fun _ _ h => h.elim
theorem own_rec (hK : KeepsRec Kx) {l : Nat} (r : Loop) (hl : l < B) : OwnT B Ty Kx (fun X => X.heap[l]? = some (.loop r)) :=
  ⟨fun X Y row hJ hg hr => (hg.block l (Array.getElem?_eq_some_iff.1 hJ).1 (fun e => by have := (hr l e.symm).1; omega)).trans hJ, fun X Y hJ hk => (hK X Y hk).1 l r hJ⟩
theorem own_def (hK : KeepsRec Kx) {l : Nat} (r : Option (List Deferred)) (hl : l < B) : OwnT B Ty Kx (fun X => X.heap[l]? = some (.deferred r)) :=
  ⟨fun X Y row hJ hg hr => (hg.block l (Array.getElem?_eq_some_iff.1 hJ).1 (fun e => by have := (hr l e.symm).1; omega)).trans hJ, fun X Y hJ hk => (hK X Y hk).2 l r hJ⟩
section
variable {P : Program}
theorem core {F : Fence} (hc : ∀ {n f args w R}, Calls P f args w R → CallsIn F n P f args w R) {gf : Nat} {lb : Array Value} {encs : List (Array Value)} {Pre : (Nat → Prop) → World → Prop} {Inv : World → Prop}
    (hseq : SeqI P gf lb encs Ty Kx Pre Inv) (hKx : KeepsRec Kx) {ps : Array Tmp} {assign body : Code} {a : Act} {W1 : World} {l n : Nat} {fn : FuncId} {dd : Nat} {rec : LoopState → Option Code → Loop}
    (hrec : rec = fun st pe => { state := st, pending := pe, fn, tmps := a.tmps, params := ps, assign, body, defers := dd }) (hl : W1.heap[l]? = some (.loop (rec .ready none))) (hps : ∀ x ∈ encs, x.size = ps.size)
    (S : Nat → Prop) (hS : ∀ b, S b → b < l) (hpre : Pre (fun b => S b ∨ b = l) W1) (I : Nat → World → Prop) (Ix : Code → World → Prop) (hI : ∀ k, OwnT l Ty Kx (I k)) (hIx : ∀ c, OwnT l Ty Kx (Ix c)) (hInv : ∀ k W, I k W → Inv W) (h0 : I 0 W1)
    (Ax : Nat → Act → World → Prop) (hAx : ∀ k a', OwnT l Ty Kx (Ax k a'))
    (hassign : ∀ (k : Nat) (x : Array Value) (W : World) (K : Act → World → Prop), I k W → encs[k]? = some x → (∀ a' W', Turn S W W' → I k W' → Ax k a' W' → K a' W') →
      assign.wpIn (Fence.wide.inRound l) 0 P (Exit.then K (fun _ _ _ => False)) { tmps := (ps.zip x).foldl (fun t (p, v) => t.setIfInBounds p v) a.tmps, defers := [] } W)
    (hbody : ∀ (k : Nat) (x : Array Value) (a' : Act) (W : World), (∃ r, W.heap[l]? = some (.loop r)) → I k W → Ax k a' W → encs[k]? = some x → body.wpIn (Fence.wide.inRound l) 0 P (postL S I Ix k W) a' W) :
    CallsIn F n P gf (#[.func (.yield l) #[] #[]] ++ lb) W1 fun e W' => (∃ v, e = .returned v) ∧ ((I encs.length W' ∧ W'.heap[l]? = some (.loop (rec .ready none))) ∨ ∃ c, Ix c W' ∧ W'.heap[l]? = some (.loop (rec .done (some c)))) := by
  have hlt1 : l < W1.heap.size := (Array.getElem?_eq_some_iff.1 hl).1
  refine hc ((hseq (fun b => S b ∨ b = l) l (fun k W => I k W ∧ W.heap[l]? = some (.loop (rec .ready none))) (fun W => ∃ c, Ix c W ∧ W.heap[l]? = some (.loop (rec .done (some c)))) W1 hpre (.inr rfl)
    (fun b hb => hb.elim (fun h => by have := hS b h; omega) (fun h => by omega)) (fun k => ((hI k).le (by omega)).and (own_rec hKx _ hlt1)) (OwnT.ex fun c => ((hIx c).le (by omega)).and (own_rec hKx _ hlt1)) (fun k X h => hInv k X h.1) ?_ ⟨h0, hl⟩).mono ?_)
  · rintro k x W ⟨hi, hl⟩ hx
    have hlt : l < W.heap.size := (Array.getElem?_eq_some_iff.1 hl).1
    have hy := run_yield (P := P) (args := x) hl (by rw [hrec]; exact hps x (List.mem_of_getElem? hx))
    rw [hrec] at hy
    refine ⟨fn, _, assign, body, hy, roundIn_of_wpIn trivial (hassign k x W _ hi hx ?_)⟩
    clear hy
    intro a' Wa hta hia hax
    have hla : Wa.heap[l]? = some (.loop (rec .ready none)) := (hta.block l hlt (fun h => by have := hS l h; omega)).trans hl
    have hlta : l < Wa.heap.size := (Array.getElem?_eq_some_iff.1 hla).1
    refine ⟨_, run_beginRound hla (by rw [hrec]), ?_⟩
    have hl2 : (Wa.putObj l (.loop { rec .ready none with state := .busy })).heap[l]? = some (.loop { rec .ready none with state := .busy }) := World.putObj_heap_same hlta
    have ht2 : Turn (fun b => S b ∨ b = l) W (Wa.putObj l (.loop { rec .ready none with state := .busy })) := (hta.mono fun _ => .inl).trans (Turn.put _ (.inr rfl))
    refine wpIn_mono (hbody k x a' _ ⟨_, hl2⟩ ((hI k).put _ hia (Nat.le_refl _) hla rfl) ((hAx k a').put _ hax (Nat.le_refl _) hla rfl) hx) ?_
    have fin : ∀ (jump : Option Code) (W3 : World), Turn S (Wa.putObj l (.loop { rec .ready none with state := .busy })) W3 →
        (Instr.endRound l jump).run P W3 = .ok (.bool jump.isNone) (W3.putObj l (.loop (rec (if jump.isNone then .ready else .done) jump))) ∧ W3.heap[l]? = some (.loop { rec .ready none with state := .busy }) ∧
        (W3.putObj l (.loop (rec (if jump.isNone then .ready else .done) jump))).heap[l]? = some (.loop (rec (if jump.isNone then .ready else .done) jump)) ∧ Turn (fun b => S b ∨ b = l) W (W3.putObj l (.loop (rec (if jump.isNone then .ready else .done) jump))) := fun jump W3 ht3 => by
      have hl3 : W3.heap[l]? = some (.loop { rec .ready none with state := .busy }) := (ht3.block l (by simpa using hlta) (fun h => by have := hS l h; omega)).trans hl2
      have hr := run_endRound (P := P) jump hl3
      refine ⟨by rw [hr, hrec], hl3, World.putObj_heap_same (Array.getElem?_eq_some_iff.1 hl3).1, (ht2.trans (ht3.mono fun _ => .inl)).trans (Turn.put _ (.inr rfl))⟩
    rintro e a3 W3 hp
    cases e with
    | normal =>
      obtain ⟨hk3, hi3⟩ := hp
      obtain ⟨hr, hl3, hl4, ht4⟩ := fin none W3 hk3
      exact ⟨_, _, hr, ht4, .inl ⟨rfl, (hI (k + 1)).put _ hi3 (Nat.le_refl _) hl3 rfl, hl4⟩⟩
    | ret =>
      obtain ⟨hk3, hi3⟩ := hp
      obtain ⟨hr, hl3, hl4, ht4⟩ := fin (some .ret) W3 hk3
      exact ⟨_, _, hr, ht4, .inr ⟨rfl, .ret, (hIx _).put _ hi3 (Nat.le_refl _) hl3 rfl, hl4⟩⟩
    | exit id =>
      obtain ⟨hk3, hi3⟩ := hp
      obtain ⟨hr, hl3, hl4, ht4⟩ := fin (some (.exit id)) W3 hk3
      exact ⟨_, _, hr, ht4, .inr ⟨rfl, .exit id, (hIx _).put _ hi3 (Nat.le_refl _) hl3 rfl, hl4⟩⟩
    | goto t =>
      obtain ⟨hk3, hi3⟩ := hp
      obtain ⟨hr, hl3, hl4, ht4⟩ := fin (some (.goto t)) W3 hk3
      exact ⟨_, _, hr, ht4, .inr ⟨rfl, .goto t, (hIx _).put _ hi3 (Nat.le_refl _) hl3 rfl, hl4⟩⟩
    | panic ch => exact hp.elim
    | outgrown => exact hp.elim
  · rintro e W2 h
    exact h
/-- A range over an iterator that yields a list, at the outermost. -/
theorem wpIn_rangeI {n : Nat} {g : Operand} {ps : Array Tmp} {assign body : Code} {Q : Exit → Act → World → Prop} {a : Act} {w : World} {gf : Nat} {lb : Array Value} (hg : a.eval g = .func (.func gf) #[] lb)
    (eg : ∀ args w, (callFunc gf args).run P w = .ok (.enter gf args) w) {encs : List (Array Value)} {Pre : (Nat → Prop) → World → Prop} {Inv : World → Prop} (hseq : SeqI P gf lb encs Ty Kx Pre Inv) (hKx : KeepsRec Kx) (hps : ∀ x ∈ encs, x.size = ps.size)
    (S : Nat → Prop) (hS : ∀ b, S b → b < w.heap.size) (hpre : ∀ r, Pre (fun b => S b ∨ b = w.heap.size + 1) ((w.alloc (.deferred (some []))).alloc (.loop r)))
    (I : Nat → World → Prop) (Ix : Code → World → Prop) (hI : ∀ k, OwnT w.heap.size Ty Kx (I k)) (hIx : ∀ c, OwnT w.heap.size Ty Kx (Ix c)) (hInv : ∀ k W, I k W → Inv W) (h0 : I 0 w) (Ax : Nat → Act → World → Prop) (hAx : ∀ k a', OwnT w.heap.size Ty Kx (Ax k a'))
    (hassign : ∀ (l k : Nat) (x : Array Value) (W : World) (K : Act → World → Prop), I k W → encs[k]? = some x → (∀ a' W', Turn S W W' → I k W' → Ax k a' W' → K a' W') →
      assign.wpIn (Fence.wide.inRound l) 0 P (Exit.then K (fun _ _ _ => False)) { tmps := (ps.zip x).foldl (fun t (p, v) => t.setIfInBounds p v) a.tmps, defers := [] } W)
    (hbody : ∀ (l k : Nat) (x : Array Value) (a' : Act) (W : World), w.heap.size ≤ l → (∃ r, W.heap[l]? = some (.loop r)) → I k W → Ax k a' W → encs[k]? = some x → body.wpIn (Fence.wide.inRound l) 0 P (postL S I Ix k W) a' W)
    (hdone : ∀ (D : Nat) (W : World), D = w.heap.size → I encs.length W → W.heap[D]? = some (.deferred (some [])) → Q .normal { a with defers := { target := .collected D, args := #[] } :: a.defers } W)
    (hstop : ∀ (D : Nat) (c : Code) (W : World), D = w.heap.size → Ix c W → W.heap[D]? = some (.deferred (some [])) → c.wpIn Fence.wide n P Q { a with defers := { target := .collected D, args := #[] } :: a.defers } W) :
    (Code.rangeFunc g ps assign body).wpIn Fence.wide n P Q a w := by
  refine wpIn_rangeFunc ?_
  intro fn _
  obtain ⟨rec, hrec⟩ : ∃ rec : LoopState → Option Code → Loop, rec = fun st pe => { state := st, pending := pe, fn, tmps := a.tmps, params := ps, assign, body, defers := w.heap.size } := ⟨_, rfl⟩
  obtain ⟨W1, hW1⟩ : ∃ W1, (w.alloc (.deferred (some []))).alloc (.loop (rec .ready none)) = W1 := ⟨_, rfl⟩
  have hL1 : W1.heap[w.heap.size + 1]? = some (.loop (rec .ready none)) := by
    rw [← hW1]; have := World.alloc_heap_new (w.alloc (.deferred (some []))) (.loop (rec .ready none)); rwa [World.size_alloc] at this
  have hD1 : W1.heap[w.heap.size]? = some (.deferred (some [])) := by
    rw [← hW1]; exact (Below.heap_alloc _ _ _ (by simp)).trans (World.alloc_heap_new w _)
  have hI1 : I 0 W1 := by rw [← hW1]; exact (hI 0).alloc _ ((hI 0).alloc _ h0)
  refine ⟨w.heap.size + 1, [{ target := .collected w.heap.size, args := #[] }], W1, { target := .fn (.func gf) lb, args := #[.func (.yield (w.heap.size + 1)) #[] #[]] }, W1, gf, #[.func (.yield (w.heap.size + 1)) #[] #[]] ++ lb, W1, ?_, ?_, fun _ _ => trivial, ?_, fun h => (by cases h), ?_⟩
  · rw [← hW1, hrec]; exact run_enterLoop_outer _ _ _ _ _
  · simp only [resolve, hg]
    simp [go_sem]
  · simp [invoke, go_sem, eg]
  · have hp1 := hpre (rec .ready none)
    rw [hW1] at hp1
    refine (core (F := Fence.wide) (fun h => callsIn_wide.2 h) hseq hKx hrec hL1 hps S (fun b h => by have := hS b h; omega) hp1 (fun k W => I k W ∧ W.heap[w.heap.size]? = some (.deferred (some []))) (fun c W => Ix c W ∧ W.heap[w.heap.size]? = some (.deferred (some [])))
      (fun k => ((hI k).le (by omega)).and (own_def hKx _ (by omega))) (fun c => ((hIx c).le (by omega)).and (own_def hKx _ (by omega))) (fun k W h => hInv k W h.1) ⟨hI1, hD1⟩ (fun k a' W => Ax k a' W ∧ W.heap[w.heap.size]? = some (.deferred (some []))) (fun k a' => ((hAx k a').le (by omega)).and (own_def hKx _ (by omega))) ?_ ?_).mono ?_
    · rintro k x W K ⟨hi, hd⟩ hx hK
      exact hassign _ k x W K hi hx fun a' W' ht hi' ha' => by
        have hd' : W'.heap[w.heap.size]? = some (.deferred (some [])) := (ht.block _ (Array.getElem?_eq_some_iff.1 hd).1 (fun h => by have := hS _ h; omega)).trans hd
        exact hK a' W' ht ⟨hi', hd'⟩ ⟨ha', hd'⟩
    · rintro k x a' W hr ⟨hi, hd⟩ ⟨ha, _⟩ hx
      refine wpIn_mono (hbody _ k x a' W (by omega) hr hi ha hx) ?_
      have hdd : ∀ W', Turn S W W' → W'.heap[w.heap.size]? = some (.deferred (some [])) := fun W' ht => (ht.block _ (Array.getElem?_eq_some_iff.1 hd).1 (fun h => by have := hS _ h; omega)).trans hd
      rintro e a3 W3 hp
      cases e with
      | normal => exact ⟨hp.1, hp.2, hdd _ hp.1⟩
      | ret => exact ⟨hp.1, hp.2, hdd _ hp.1⟩
      | exit id => exact ⟨hp.1, hp.2, hdd _ hp.1⟩
      | goto t => exact ⟨hp.1, hp.2, hdd _ hp.1⟩
      | panic ch => exact hp.elim
      | outgrown => exact hp.elim
    · rintro e W2 ⟨⟨v, rfl⟩, (⟨⟨hi, hd⟩, hl⟩ | ⟨c, ⟨hi, hd⟩, hl⟩)⟩
      · exact ⟨none, _, by have := run_endLoop (P := P) hl (by rw [hrec]; simp); rw [hrec] at this; exact this, hdone _ _ rfl ((hI _).put _ hi (by omega) hl rfl) ((World.putObj_heap_other (by omega)).trans hd)⟩
      · exact ⟨some c, _, by have := run_endLoop (P := P) hl (by rw [hrec]; simp); rw [hrec] at this; exact this, hstop _ c _ rfl ((hIx c).put _ hi (by omega) hl rfl) ((World.putObj_heap_other (by omega)).trans hd)⟩
/-- The same in a round. -/
theorem wpIn_rangeI_in {n : Nat} {g : Operand} {ps : Array Tmp} {assign body : Code} {Q : Exit → Act → World → Prop} {a : Act} {w : World} {l₀ : Nat} {r₀ : Loop} (hl₀ : w.heap[l₀]? = some (.loop r₀)) {gf : Nat} {lb : Array Value} (hg : a.eval g = .func (.func gf) #[] lb)
    (eg : ∀ args w, (callFunc gf args).run P w = .ok (.enter gf args) w) {encs : List (Array Value)} {Pre : (Nat → Prop) → World → Prop} {Inv : World → Prop} (hseq : SeqI P gf lb encs Ty Kx Pre Inv) (hKx : KeepsRec Kx) (hps : ∀ x ∈ encs, x.size = ps.size)
    (S : Nat → Prop) (hS : ∀ b, S b → b < w.heap.size) (hpre : ∀ r, Pre (fun b => S b ∨ b = w.heap.size) (w.alloc (.loop r)))
    (I : Nat → World → Prop) (Ix : Code → World → Prop) (hI : ∀ k, OwnT w.heap.size Ty Kx (I k)) (hIx : ∀ c, OwnT w.heap.size Ty Kx (Ix c)) (hInv : ∀ k W, I k W → Inv W) (h0 : I 0 w) (Ax : Nat → Act → World → Prop) (hAx : ∀ k a', OwnT w.heap.size Ty Kx (Ax k a'))
    (hassign : ∀ (l k : Nat) (x : Array Value) (W : World) (K : Act → World → Prop), I k W → encs[k]? = some x → (∀ a' W', Turn S W W' → I k W' → Ax k a' W' → K a' W') →
      assign.wpIn (Fence.wide.inRound l) 0 P (Exit.then K (fun _ _ _ => False)) { tmps := (ps.zip x).foldl (fun t (p, v) => t.setIfInBounds p v) a.tmps, defers := [] } W)
    (hbody : ∀ (l k : Nat) (x : Array Value) (a' : Act) (W : World), w.heap.size ≤ l → (∃ r, W.heap[l]? = some (.loop r)) → I k W → Ax k a' W → encs[k]? = some x → body.wpIn (Fence.wide.inRound l) 0 P (postL S I Ix k W) a' W)
    (hdone : ∀ (W : World), I encs.length W → Q .normal a W) (hstop : ∀ (c : Code) (W : World), Ix c W → c.wpIn (Fence.wide.inRound l₀) n P Q a W) :
    (Code.rangeFunc g ps assign body).wpIn (Fence.wide.inRound l₀) n P Q a w := by
  refine wpIn_rangeFunc ?_
  intro fn _
  obtain ⟨rec, hrec⟩ : ∃ rec : LoopState → Option Code → Loop, rec = fun st pe => { state := st, pending := pe, fn, tmps := a.tmps, params := ps, assign, body, defers := r₀.defers } := ⟨_, rfl⟩
  obtain ⟨W1, hW1⟩ : ∃ W1, w.alloc (.loop (rec .ready none)) = W1 := ⟨_, rfl⟩
  have hL1 : W1.heap[w.heap.size]? = some (.loop (rec .ready none)) := by rw [← hW1]; exact World.alloc_heap_new w _
  have hI1 : I 0 W1 := by rw [← hW1]; exact (hI 0).alloc _ h0
  refine ⟨w.heap.size, [], W1, { target := .fn (.func gf) lb, args := #[.func (.yield w.heap.size) #[] #[]] }, W1, gf, #[.func (.yield w.heap.size) #[] #[]] ++ lb, W1, ?_, ?_, fun _ _ => trivial, ?_, fun h => (by cases h), ?_⟩
  · rw [← hW1, hrec]; exact run_enterLoop_inner hl₀ _ _ _ _ _
  · simp only [resolve, hg]
    simp [go_sem]
  · simp [invoke, go_sem, eg]
  · have hp1 := hpre (rec .ready none)
    rw [hW1] at hp1
    refine (core (F := Fence.wide.inRound l₀) (fun h => (callsIn_wide.2 h).inRound l₀) hseq hKx hrec hL1 hps S hS hp1 I Ix hI hIx hInv hI1 Ax hAx (hassign _) (fun k x a' W hr => hbody _ k x a' W (Nat.le_refl _) hr)).mono ?_
    rintro e W2 ⟨⟨v, rfl⟩, (⟨hi, hl⟩ | ⟨c, hi, hl⟩)⟩
    · exact ⟨none, _, by have := run_endLoop (P := P) hl (by rw [hrec]; simp); rw [hrec] at this; exact this, hdone _ ((hI _).put _ hi (Nat.le_refl _) hl rfl)⟩
    · exact ⟨some c, _, by have := run_endLoop (P := P) hl (by rw [hrec]; simp); rw [hrec] at this; exact this, hstop c _ ((hIx c).put _ hi (Nat.le_refl _) hl rfl)⟩
/-- The same, the frame of a round told by its slots. -/
theorem wpIn_rangeI_slots {β : Type} {n : Nat} {g : Operand} {ps : Array Tmp} {assign body : Code} {Q : Exit → Act → World → Prop} {a : Act} {w : World} {gf : Nat} {lb : Array Value} (hg : a.eval g = .func (.func gf) #[] lb)
    (eg : ∀ args w, (callFunc gf args).run P w = .ok (.enter gf args) w) {encs : List (Array Value)} {Pre : (Nat → Prop) → World → Prop} {Inv : World → Prop} (hseq : SeqI P gf lb encs Ty Kx Pre Inv) (hKx : KeepsRec Kx) (hps : ∀ x ∈ encs, x.size = ps.size)
    (S : Nat → Prop) (hS : ∀ b, S b → b < w.heap.size) (hpre : ∀ r, Pre (fun b => S b ∨ b = w.heap.size + 1) ((w.alloc (.deferred (some []))).alloc (.loop r)))
    (I : Nat → World → Prop) (Ix : Code → World → Prop) (hI : ∀ k, OwnT w.heap.size Ty Kx (I k)) (hIx : ∀ c, OwnT w.heap.size Ty Kx (Ix c)) (hInv : ∀ k W, I k W → Inv W) (h0 : I 0 w) (G : Nat → β → Array Value → Array Value) (A : Nat → β → World → Prop) (hA : ∀ k y, OwnT w.heap.size Ty Kx (A k y))
    (hassign : ∀ (l k : Nat) (x : Array Value) (W : World) (K : Act → World → Prop), I k W → encs[k]? = some x → (∀ y W', Turn S W W' → I k W' → A k y W' → K { tmps := G k y a.tmps, defers := [] } W') →
      assign.wpIn (Fence.wide.inRound l) 0 P (Exit.then K (fun _ _ _ => False)) { tmps := (ps.zip x).foldl (fun t (p, v) => t.setIfInBounds p v) a.tmps, defers := [] } W)
    (hbody : ∀ (l k : Nat) (x : Array Value) (y : β) (W : World), w.heap.size ≤ l → (∃ r, W.heap[l]? = some (.loop r)) → I k W → A k y W → encs[k]? = some x → body.wpIn (Fence.wide.inRound l) 0 P (postL S I Ix k W) { tmps := G k y a.tmps, defers := [] } W)
    (hdone : ∀ (D : Nat) (W : World), D = w.heap.size → I encs.length W → W.heap[D]? = some (.deferred (some [])) → Q .normal { a with defers := { target := .collected D, args := #[] } :: a.defers } W)
    (hstop : ∀ (D : Nat) (c : Code) (W : World), D = w.heap.size → Ix c W → W.heap[D]? = some (.deferred (some [])) → c.wpIn Fence.wide n P Q { a with defers := { target := .collected D, args := #[] } :: a.defers } W) :
    (Code.rangeFunc g ps assign body).wpIn Fence.wide n P Q a w :=
  wpIn_rangeI hg eg hseq hKx hps S hS hpre I Ix hI hIx hInv h0 (fun k a' W => ∃ y, A k y W ∧ a' = { tmps := G k y a.tmps, defers := [] }) (fun k _ => ⟨fun X Y row ⟨y, h, e⟩ hg hr => ⟨y, (hA k y).1 X Y row h hg hr, e⟩, fun X Y ⟨y, h, e⟩ hk => ⟨y, (hA k y).2 X Y h hk, e⟩⟩)
    (fun l k x W K hi hx hK => hassign l k x W K hi hx fun y W' ht hi' ha => hK _ W' ht hi' ⟨y, ha, rfl⟩) (fun l k x _ W hl hr hi ⟨y, ha, e⟩ hx => e ▸ hbody l k x y W hl hr hi ha hx) hdone hstop
/-- The same, the frame of a round told by its slots. -/
theorem wpIn_rangeI_in_slots {β : Type} {n : Nat} {g : Operand} {ps : Array Tmp} {assign body : Code} {Q : Exit → Act → World → Prop} {a : Act} {w : World} {l₀ : Nat} {r₀ : Loop} (hl₀ : w.heap[l₀]? = some (.loop r₀)) {gf : Nat} {lb : Array Value} (hg : a.eval g = .func (.func gf) #[] lb)
    (eg : ∀ args w, (callFunc gf args).run P w = .ok (.enter gf args) w) {encs : List (Array Value)} {Pre : (Nat → Prop) → World → Prop} {Inv : World → Prop} (hseq : SeqI P gf lb encs Ty Kx Pre Inv) (hKx : KeepsRec Kx) (hps : ∀ x ∈ encs, x.size = ps.size)
    (S : Nat → Prop) (hS : ∀ b, S b → b < w.heap.size) (hpre : ∀ r, Pre (fun b => S b ∨ b = w.heap.size) (w.alloc (.loop r)))
    (I : Nat → World → Prop) (Ix : Code → World → Prop) (hI : ∀ k, OwnT w.heap.size Ty Kx (I k)) (hIx : ∀ c, OwnT w.heap.size Ty Kx (Ix c)) (hInv : ∀ k W, I k W → Inv W) (h0 : I 0 w) (G : Nat → β → Array Value → Array Value) (A : Nat → β → World → Prop) (hA : ∀ k y, OwnT w.heap.size Ty Kx (A k y))
    (hassign : ∀ (l k : Nat) (x : Array Value) (W : World) (K : Act → World → Prop), I k W → encs[k]? = some x → (∀ y W', Turn S W W' → I k W' → A k y W' → K { tmps := G k y a.tmps, defers := [] } W') →
      assign.wpIn (Fence.wide.inRound l) 0 P (Exit.then K (fun _ _ _ => False)) { tmps := (ps.zip x).foldl (fun t (p, v) => t.setIfInBounds p v) a.tmps, defers := [] } W)
    (hbody : ∀ (l k : Nat) (x : Array Value) (y : β) (W : World), w.heap.size ≤ l → (∃ r, W.heap[l]? = some (.loop r)) → I k W → A k y W → encs[k]? = some x → body.wpIn (Fence.wide.inRound l) 0 P (postL S I Ix k W) { tmps := G k y a.tmps, defers := [] } W)
    (hdone : ∀ (W : World), I encs.length W → Q .normal a W) (hstop : ∀ (c : Code) (W : World), Ix c W → c.wpIn (Fence.wide.inRound l₀) n P Q a W) :
    (Code.rangeFunc g ps assign body).wpIn (Fence.wide.inRound l₀) n P Q a w :=
  wpIn_rangeI_in hl₀ hg eg hseq hKx hps S hS hpre I Ix hI hIx hInv h0 (fun k a' W => ∃ y, A k y W ∧ a' = { tmps := G k y a.tmps, defers := [] }) (fun k _ => ⟨fun X Y row ⟨y, h, e⟩ hg hr => ⟨y, (hA k y).1 X Y row h hg hr, e⟩, fun X Y ⟨y, h, e⟩ hk => ⟨y, (hA k y).2 X Y h hk, e⟩⟩)
    (fun l k x W K hi hx hK => hassign l k x W K hi hx fun y W' ht hi' ha => hK _ W' ht hi' ⟨y, ha, rfl⟩) (fun l k x _ W hl hr hi ⟨y, ha, e⟩ hx => e ▸ hbody l k x y W hl hr hi ha hx) hdone hstop
theorem wpIn_rangeL {n : Nat} {g : Operand} {ps : Array Tmp} {assign body : Code} {Q : Exit → Act → World → Prop} {a : Act} {w : World} {gf : Nat} {lb : Array Value} (hg : a.eval g = .func (.func gf) #[] lb)
    (eg : ∀ args w, (callFunc gf args).run P w = .ok (.enter gf args) w) {encs : List (Array Value)} {Pre : (Nat → Prop) → World → Prop} (hseq : SeqL P gf lb encs Ty Kx Pre) (hKx : KeepsRec Kx) (hps : ∀ x ∈ encs, x.size = ps.size)
    (S : Nat → Prop) (hS : ∀ b, S b → b < w.heap.size) (hpre : ∀ r, Pre (fun b => S b ∨ b = w.heap.size + 1) ((w.alloc (.deferred (some []))).alloc (.loop r)))
    (I : Nat → World → Prop) (Ix : Code → World → Prop) (hI : ∀ k, OwnT w.heap.size Ty Kx (I k)) (hIx : ∀ c, OwnT w.heap.size Ty Kx (Ix c)) (h0 : I 0 w) (Ax : Nat → Act → World → Prop) (hAx : ∀ k a', OwnT w.heap.size Ty Kx (Ax k a'))
    (hassign : ∀ (l k : Nat) (x : Array Value) (W : World) (K : Act → World → Prop), I k W → encs[k]? = some x → (∀ a' W', Turn S W W' → I k W' → Ax k a' W' → K a' W') →
      assign.wpIn (Fence.wide.inRound l) 0 P (Exit.then K (fun _ _ _ => False)) { tmps := (ps.zip x).foldl (fun t (p, v) => t.setIfInBounds p v) a.tmps, defers := [] } W)
    (hbody : ∀ (l k : Nat) (x : Array Value) (a' : Act) (W : World), w.heap.size ≤ l → (∃ r, W.heap[l]? = some (.loop r)) → I k W → Ax k a' W → encs[k]? = some x → body.wpIn (Fence.wide.inRound l) 0 P (postL S I Ix k W) a' W)
    (hdone : ∀ (D : Nat) (W : World), D = w.heap.size → I encs.length W → W.heap[D]? = some (.deferred (some [])) → Q .normal { a with defers := { target := .collected D, args := #[] } :: a.defers } W)
    (hstop : ∀ (D : Nat) (c : Code) (W : World), D = w.heap.size → Ix c W → W.heap[D]? = some (.deferred (some [])) → c.wpIn Fence.wide n P Q { a with defers := { target := .collected D, args := #[] } :: a.defers } W) :
    (Code.rangeFunc g ps assign body).wpIn Fence.wide n P Q a w :=
  wpIn_rangeI hg eg (SeqL.toI hseq) hKx hps S hS hpre I Ix hI hIx (fun _ _ _ => trivial) h0 Ax hAx hassign hbody hdone hstop
theorem wpIn_rangeL_in {n : Nat} {g : Operand} {ps : Array Tmp} {assign body : Code} {Q : Exit → Act → World → Prop} {a : Act} {w : World} {l₀ : Nat} {r₀ : Loop} (hl₀ : w.heap[l₀]? = some (.loop r₀)) {gf : Nat} {lb : Array Value} (hg : a.eval g = .func (.func gf) #[] lb)
    (eg : ∀ args w, (callFunc gf args).run P w = .ok (.enter gf args) w) {encs : List (Array Value)} {Pre : (Nat → Prop) → World → Prop} (hseq : SeqL P gf lb encs Ty Kx Pre) (hKx : KeepsRec Kx) (hps : ∀ x ∈ encs, x.size = ps.size)
    (S : Nat → Prop) (hS : ∀ b, S b → b < w.heap.size) (hpre : ∀ r, Pre (fun b => S b ∨ b = w.heap.size) (w.alloc (.loop r)))
    (I : Nat → World → Prop) (Ix : Code → World → Prop) (hI : ∀ k, OwnT w.heap.size Ty Kx (I k)) (hIx : ∀ c, OwnT w.heap.size Ty Kx (Ix c)) (h0 : I 0 w) (Ax : Nat → Act → World → Prop) (hAx : ∀ k a', OwnT w.heap.size Ty Kx (Ax k a'))
    (hassign : ∀ (l k : Nat) (x : Array Value) (W : World) (K : Act → World → Prop), I k W → encs[k]? = some x → (∀ a' W', Turn S W W' → I k W' → Ax k a' W' → K a' W') →
      assign.wpIn (Fence.wide.inRound l) 0 P (Exit.then K (fun _ _ _ => False)) { tmps := (ps.zip x).foldl (fun t (p, v) => t.setIfInBounds p v) a.tmps, defers := [] } W)
    (hbody : ∀ (l k : Nat) (x : Array Value) (a' : Act) (W : World), w.heap.size ≤ l → (∃ r, W.heap[l]? = some (.loop r)) → I k W → Ax k a' W → encs[k]? = some x → body.wpIn (Fence.wide.inRound l) 0 P (postL S I Ix k W) a' W)
    (hdone : ∀ (W : World), I encs.length W → Q .normal a W) (hstop : ∀ (c : Code) (W : World), Ix c W → c.wpIn (Fence.wide.inRound l₀) n P Q a W) :
    (Code.rangeFunc g ps assign body).wpIn (Fence.wide.inRound l₀) n P Q a w :=
  wpIn_rangeI_in hl₀ hg eg (SeqL.toI hseq) hKx hps S hS hpre I Ix hI hIx (fun _ _ _ => trivial) h0 Ax hAx hassign hbody hdone hstop
theorem wpIn_rangeL_slots {β : Type} {n : Nat} {g : Operand} {ps : Array Tmp} {assign body : Code} {Q : Exit → Act → World → Prop} {a : Act} {w : World} {gf : Nat} {lb : Array Value} (hg : a.eval g = .func (.func gf) #[] lb)
    (eg : ∀ args w, (callFunc gf args).run P w = .ok (.enter gf args) w) {encs : List (Array Value)} {Pre : (Nat → Prop) → World → Prop} (hseq : SeqL P gf lb encs Ty Kx Pre) (hKx : KeepsRec Kx) (hps : ∀ x ∈ encs, x.size = ps.size)
    (S : Nat → Prop) (hS : ∀ b, S b → b < w.heap.size) (hpre : ∀ r, Pre (fun b => S b ∨ b = w.heap.size + 1) ((w.alloc (.deferred (some []))).alloc (.loop r)))
    (I : Nat → World → Prop) (Ix : Code → World → Prop) (hI : ∀ k, OwnT w.heap.size Ty Kx (I k)) (hIx : ∀ c, OwnT w.heap.size Ty Kx (Ix c)) (h0 : I 0 w) (G : Nat → β → Array Value → Array Value) (A : Nat → β → World → Prop) (hA : ∀ k y, OwnT w.heap.size Ty Kx (A k y))
    (hassign : ∀ (l k : Nat) (x : Array Value) (W : World) (K : Act → World → Prop), I k W → encs[k]? = some x → (∀ y W', Turn S W W' → I k W' → A k y W' → K { tmps := G k y a.tmps, defers := [] } W') →
      assign.wpIn (Fence.wide.inRound l) 0 P (Exit.then K (fun _ _ _ => False)) { tmps := (ps.zip x).foldl (fun t (p, v) => t.setIfInBounds p v) a.tmps, defers := [] } W)
    (hbody : ∀ (l k : Nat) (x : Array Value) (y : β) (W : World), w.heap.size ≤ l → (∃ r, W.heap[l]? = some (.loop r)) → I k W → A k y W → encs[k]? = some x → body.wpIn (Fence.wide.inRound l) 0 P (postL S I Ix k W) { tmps := G k y a.tmps, defers := [] } W)
    (hdone : ∀ (D : Nat) (W : World), D = w.heap.size → I encs.length W → W.heap[D]? = some (.deferred (some [])) → Q .normal { a with defers := { target := .collected D, args := #[] } :: a.defers } W)
    (hstop : ∀ (D : Nat) (c : Code) (W : World), D = w.heap.size → Ix c W → W.heap[D]? = some (.deferred (some [])) → c.wpIn Fence.wide n P Q { a with defers := { target := .collected D, args := #[] } :: a.defers } W) :
    (Code.rangeFunc g ps assign body).wpIn Fence.wide n P Q a w :=
  wpIn_rangeI_slots hg eg (SeqL.toI hseq) hKx hps S hS hpre I Ix hI hIx (fun _ _ _ => trivial) h0 G A hA hassign hbody hdone hstop
theorem wpIn_rangeL_in_slots {β : Type} {n : Nat} {g : Operand} {ps : Array Tmp} {assign body : Code} {Q : Exit → Act → World → Prop} {a : Act} {w : World} {l₀ : Nat} {r₀ : Loop} (hl₀ : w.heap[l₀]? = some (.loop r₀)) {gf : Nat} {lb : Array Value} (hg : a.eval g = .func (.func gf) #[] lb)
    (eg : ∀ args w, (callFunc gf args).run P w = .ok (.enter gf args) w) {encs : List (Array Value)} {Pre : (Nat → Prop) → World → Prop} (hseq : SeqL P gf lb encs Ty Kx Pre) (hKx : KeepsRec Kx) (hps : ∀ x ∈ encs, x.size = ps.size)
    (S : Nat → Prop) (hS : ∀ b, S b → b < w.heap.size) (hpre : ∀ r, Pre (fun b => S b ∨ b = w.heap.size) (w.alloc (.loop r)))
    (I : Nat → World → Prop) (Ix : Code → World → Prop) (hI : ∀ k, OwnT w.heap.size Ty Kx (I k)) (hIx : ∀ c, OwnT w.heap.size Ty Kx (Ix c)) (h0 : I 0 w) (G : Nat → β → Array Value → Array Value) (A : Nat → β → World → Prop) (hA : ∀ k y, OwnT w.heap.size Ty Kx (A k y))
    (hassign : ∀ (l k : Nat) (x : Array Value) (W : World) (K : Act → World → Prop), I k W → encs[k]? = some x → (∀ y W', Turn S W W' → I k W' → A k y W' → K { tmps := G k y a.tmps, defers := [] } W') →
      assign.wpIn (Fence.wide.inRound l) 0 P (Exit.then K (fun _ _ _ => False)) { tmps := (ps.zip x).foldl (fun t (p, v) => t.setIfInBounds p v) a.tmps, defers := [] } W)
    (hbody : ∀ (l k : Nat) (x : Array Value) (y : β) (W : World), w.heap.size ≤ l → (∃ r, W.heap[l]? = some (.loop r)) → I k W → A k y W → encs[k]? = some x → body.wpIn (Fence.wide.inRound l) 0 P (postL S I Ix k W) { tmps := G k y a.tmps, defers := [] } W)
    (hdone : ∀ (W : World), I encs.length W → Q .normal a W) (hstop : ∀ (c : Code) (W : World), Ix c W → c.wpIn (Fence.wide.inRound l₀) n P Q a W) :
    (Code.rangeFunc g ps assign body).wpIn (Fence.wide.inRound l₀) n P Q a w :=
  wpIn_rangeI_in_slots hl₀ hg eg (SeqL.toI hseq) hKx hps S hS hpre I Ix hI hIx (fun _ _ _ => trivial) h0 G A hA hassign hbody hdone hstop
end
end Go.Sq
