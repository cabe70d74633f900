/- What run reads of its own; its code's pieces; states are small; what a range's rounds keep. Condition: what the statements say. -/
import Derived.Test.YtgmfhngcehkibaaGreatPkB6
import Derived.Outline
import Derived.RegionTactic
import Derived.Deep.LoopGhost
import Derived.Laws.EntriesVeiled
import Derived.Deep.CutBlock
set_option maxRecDepth 100000
set_option maxHeartbeats 6400000
namespace Go.Proofs.YtgmfhngcehkibaaGreat
open Go.RowKit Go.Hav Go.Shelf Go.Sq
def runC (ms : Nat → Option Nat) : Array Value := #[.map (ms 0), .map (ms 1), .map (ms 2), .map (ms 3), .map (ms 4), .map (ms 5), .map (ms 6), .map (ms 7), .map (ms 8), .map (ms 9), .map (ms 10)]
theorem runC_get (ms : Nat → Option Nat) {i : Nat} (h : i < 11) : (runC ms)[i]? = some (.map (ms i)) := by
 have : i = 0 ∨ i = 1 ∨ i = 2 ∨ i = 3 ∨ i = 4 ∨ i = 5 ∨ i = 6 ∨ i = 7 ∨ i = 8 ∨ i = 9 ∨ i = 10 := by omega
 rcases this with rfl | rfl | rfl | rfl | rfl | rfl | rfl | rfl | rfl | rfl | rfl <;> rfl
def updM (ms : Nat → Option Nat) (i : Nat) (b : Nat) : Nat → Option Nat := fun j => if j = i then some b else ms j
theorem runC_set (ms : Nat → Option Nat) {i : Nat} (h : i < 11) (b : Nat) : (runC ms).setIfInBounds i (.map (some b)) = runC (updM ms i b) := by
 have : i = 0 ∨ i = 1 ∨ i = 2 ∨ i = 3 ∨ i = 4 ∨ i = 5 ∨ i = 6 ∨ i = 7 ∨ i = 8 ∨ i = 9 ∨ i = 10 := by omega
 rcases this with rfl | rfl | rfl | rfl | rfl | rfl | rfl | rfl | rfl | rfl | rfl <;> rfl
def set11 (w : World) (g : Nat) (ms : Nat → Option Nat) : World := (((((((((((w.setCell ⟨g, 0, none⟩ (.map (ms 0))).setCell ⟨g, 1, none⟩ (.map (ms 1))).setCell ⟨g, 2, none⟩ (.map (ms 2))).setCell ⟨g, 3, none⟩ (.map (ms 3))).setCell ⟨g, 4, none⟩ (.map (ms 4))).setCell ⟨g, 5, none⟩ (.map (ms 5))).setCell ⟨g, 6, none⟩ (.map (ms 6))).setCell ⟨g, 7, none⟩ (.map (ms 7))).setCell ⟨g, 8, none⟩ (.map (ms 8))).setCell ⟨g, 9, none⟩ (.map (ms 9))).setCell ⟨g, 10, none⟩ (.map (ms 10)))
theorem set11_blk {w : World} {g : Nat} {ms1 : Nat → Option Nat} (h : Blk w g 184 (runC ms1)) (ms : Nat → Option Nat) : Blk (set11 w g ms) g 184 (runC ms) := by
 have h0 : Blk w g 184 #[.map (ms1 0), .map (ms1 1), .map (ms1 2), .map (ms1 3), .map (ms1 4), .map (ms1 5), .map (ms1 6), .map (ms1 7), .map (ms1 8), .map (ms1 9), .map (ms1 10)] := h; have h1 : Blk (w.setCell ⟨g, 0, none⟩ (.map (ms 0))) g 184 #[.map (ms 0), .map (ms1 1), .map (ms1 2), .map (ms1 3), .map (ms1 4), .map (ms1 5), .map (ms1 6), .map (ms1 7), .map (ms1 8), .map (ms1 9), .map (ms1 10)] := h0.set_ 0 _; have h2 : Blk ((w.setCell ⟨g, 0, none⟩ (.map (ms 0))).setCell ⟨g, 1, none⟩ (.map (ms 1))) g 184 #[.map (ms 0), .map (ms 1), .map (ms1 2), .map (ms1 3), .map (ms1 4), .map (ms1 5), .map (ms1 6), .map (ms1 7), .map (ms1 8), .map (ms1 9), .map (ms1 10)] := h1.set_ 1 _; have h3 : Blk (((w.setCell ⟨g, 0, none⟩ (.map (ms 0))).setCell ⟨g, 1, none⟩ (.map (ms 1))).setCell ⟨g, 2, none⟩ (.map (ms 2))) g 184 #[.map (ms 0), .map (ms 1), .map (ms 2), .map (ms1 3), .map (ms1 4), .map (ms1 5), .map (ms1 6), .map (ms1 7), .map (ms1 8), .map (ms1 9), .map (ms1 10)] := h2.set_ 2 _; have h4 : Blk ((((w.setCell ⟨g, 0, none⟩ (.map (ms 0))).setCell ⟨g, 1, none⟩ (.map (ms 1))).setCell ⟨g, 2, none⟩ (.map (ms 2))).setCell ⟨g, 3, none⟩ (.map (ms 3))) g 184 #[.map (ms 0), .map (ms 1), .map (ms 2), .map (ms 3), .map (ms1 4), .map (ms1 5), .map (ms1 6), .map (ms1 7), .map (ms1 8), .map (ms1 9), .map (ms1 10)] := h3.set_ 3 _
 have h5 : Blk (((((w.setCell ⟨g, 0, none⟩ (.map (ms 0))).setCell ⟨g, 1, none⟩ (.map (ms 1))).setCell ⟨g, 2, none⟩ (.map (ms 2))).setCell ⟨g, 3, none⟩ (.map (ms 3))).setCell ⟨g, 4, none⟩ (.map (ms 4))) g 184 #[.map (ms 0), .map (ms 1), .map (ms 2), .map (ms 3), .map (ms 4), .map (ms1 5), .map (ms1 6), .map (ms1 7), .map (ms1 8), .map (ms1 9), .map (ms1 10)] := h4.set_ 4 _; have h6 : Blk ((((((w.setCell ⟨g, 0, none⟩ (.map (ms 0))).setCell ⟨g, 1, none⟩ (.map (ms 1))).setCell ⟨g, 2, none⟩ (.map (ms 2))).setCell ⟨g, 3, none⟩ (.map (ms 3))).setCell ⟨g, 4, none⟩ (.map (ms 4))).setCell ⟨g, 5, none⟩ (.map (ms 5))) g 184 #[.map (ms 0), .map (ms 1), .map (ms 2), .map (ms 3), .map (ms 4), .map (ms 5), .map (ms1 6), .map (ms1 7), .map (ms1 8), .map (ms1 9), .map (ms1 10)] := h5.set_ 5 _; have h7 : Blk (((((((w.setCell ⟨g, 0, none⟩ (.map (ms 0))).setCell ⟨g, 1, none⟩ (.map (ms 1))).setCell ⟨g, 2, none⟩ (.map (ms 2))).setCell ⟨g, 3, none⟩ (.map (ms 3))).setCell ⟨g, 4, none⟩ (.map (ms 4))).setCell ⟨g, 5, none⟩ (.map (ms 5))).setCell ⟨g, 6, none⟩ (.map (ms 6))) g 184 #[.map (ms 0), .map (ms 1), .map (ms 2), .map (ms 3), .map (ms 4), .map (ms 5), .map (ms 6), .map (ms1 7), .map (ms1 8), .map (ms1 9), .map (ms1 10)] := h6.set_ 6 _
 have h8 : Blk ((((((((w.setCell ⟨g, 0, none⟩ (.map (ms 0))).setCell ⟨g, 1, none⟩ (.map (ms 1))).setCell ⟨g, 2, none⟩ (.map (ms 2))).setCell ⟨g, 3, none⟩ (.map (ms 3))).setCell ⟨g, 4, none⟩ (.map (ms 4))).setCell ⟨g, 5, none⟩ (.map (ms 5))).setCell ⟨g, 6, none⟩ (.map (ms 6))).setCell ⟨g, 7, none⟩ (.map (ms 7))) g 184 #[.map (ms 0), .map (ms 1), .map (ms 2), .map (ms 3), .map (ms 4), .map (ms 5), .map (ms 6), .map (ms 7), .map (ms1 8), .map (ms1 9), .map (ms1 10)] := h7.set_ 7 _; have h9 : Blk (((((((((w.setCell ⟨g, 0, none⟩ (.map (ms 0))).setCell ⟨g, 1, none⟩ (.map (ms 1))).setCell ⟨g, 2, none⟩ (.map (ms 2))).setCell ⟨g, 3, none⟩ (.map (ms 3))).setCell ⟨g, 4, none⟩ (.map (ms 4))).setCell ⟨g, 5, none⟩ (.map (ms 5))).setCell ⟨g, 6, none⟩ (.map (ms 6))).setCell ⟨g, 7, none⟩ (.map (ms 7))).setCell ⟨g, 8, none⟩ (.map (ms 8))) g 184 #[.map (ms 0), .map (ms 1), .map (ms 2), .map (ms 3), .map (ms 4), .map (ms 5), .map (ms 6), .map (ms 7), .map (ms 8), .map (ms1 9), .map (ms1 10)] := h8.set_ 8 _
 have h10 : Blk ((((((((((w.setCell ⟨g, 0, none⟩ (.map (ms 0))).setCell ⟨g, 1, none⟩ (.map (ms 1))).setCell ⟨g, 2, none⟩ (.map (ms 2))).setCell ⟨g, 3, none⟩ (.map (ms 3))).setCell ⟨g, 4, none⟩ (.map (ms 4))).setCell ⟨g, 5, none⟩ (.map (ms 5))).setCell ⟨g, 6, none⟩ (.map (ms 6))).setCell ⟨g, 7, none⟩ (.map (ms 7))).setCell ⟨g, 8, none⟩ (.map (ms 8))).setCell ⟨g, 9, none⟩ (.map (ms 9))) g 184 #[.map (ms 0), .map (ms 1), .map (ms 2), .map (ms 3), .map (ms 4), .map (ms 5), .map (ms 6), .map (ms 7), .map (ms 8), .map (ms 9), .map (ms1 10)] := h9.set_ 9 _; have h11 : Blk (((((((((((w.setCell ⟨g, 0, none⟩ (.map (ms 0))).setCell ⟨g, 1, none⟩ (.map (ms 1))).setCell ⟨g, 2, none⟩ (.map (ms 2))).setCell ⟨g, 3, none⟩ (.map (ms 3))).setCell ⟨g, 4, none⟩ (.map (ms 4))).setCell ⟨g, 5, none⟩ (.map (ms 5))).setCell ⟨g, 6, none⟩ (.map (ms 6))).setCell ⟨g, 7, none⟩ (.map (ms 7))).setCell ⟨g, 8, none⟩ (.map (ms 8))).setCell ⟨g, 9, none⟩ (.map (ms 9))).setCell ⟨g, 10, none⟩ (.map (ms 10))) g 184 #[.map (ms 0), .map (ms 1), .map (ms 2), .map (ms 3), .map (ms 4), .map (ms 5), .map (ms 6), .map (ms 7), .map (ms 8), .map (ms 9), .map (ms 10)] := h10.set_ 10 _; exact h11
theorem set11_turn (w : World) (g : Nat) (ms : Nat → Option Nat) : Turn (fun b => b = g) w (set11 w g ms) := by
 unfold set11
 refine Turn.trans (Turn.trans (Turn.trans (Turn.trans (Turn.trans (Turn.trans (Turn.trans (Turn.trans (Turn.trans (Turn.trans (Turn.set _ _ (fun _ => rfl)) (Turn.set _ _ (fun _ => rfl))) (Turn.set _ _ (fun _ => rfl))) (Turn.set _ _ (fun _ => rfl))) (Turn.set _ _ (fun _ => rfl))) (Turn.set _ _ (fun _ => rfl))) (Turn.set _ _ (fun _ => rfl))) (Turn.set _ _ (fun _ => rfl))) (Turn.set _ _ (fun _ => rfl))) (Turn.set _ _ (fun _ => rfl))) (Turn.set _ _ (fun _ => rfl))
structure RunB (w wr : World) (B2 B3 B4 d by_ looks : Nat) (ms : Nat → Option Nat) : Prop where
 b : Below w.heap.size w wr
 g : Blk wr B2 115 #[.pointer (some ⟨d, 0, none⟩)]
 q : Blk wr B3 187 #[.int .i64 by_, .int .u64 looks]
 a : Blk wr B4 184 (runC ms)
theorem RunB.turn {S : Nat → Prop} {w X Y : World} {B2 B3 B4 d by_ looks : Nat} {ms : Nat → Option Nat} (h : RunB w X B2 B3 B4 d by_ looks ms) (t : Turn S X Y) (hs : ∀ b, S b → w.heap.size ≤ b ∧ b ≠ B2 ∧ b ≠ B3 ∧ b ≠ B4) : RunB w Y B2 B3 B4 d by_ looks ms :=
 ⟨h.b.trans (t.below h.b.size (fun b hb => (hs b hb).1)), h.g.turn t (fun e => (hs _ e).2.1 rfl), h.q.turn t (fun e => (hs _ e).2.2.1 rfl), h.a.turn t (fun e => (hs _ e).2.2.2 rfl)⟩
theorem RunB.grow {w X Y : World} {B2 B3 B4 d by_ looks : Nat} {ms : Nat → Option Nat} (h : RunB w X B2 B3 B4 d by_ looks ms) (hb : Below X.heap.size X Y) : RunB w Y B2 B3 B4 d by_ looks ms := h.turn (S := fun _ => False) (Turn.of_below hb) (fun _ h => h.elim)

theorem MapS.turn {S : Nat → Prop} {X Y : World} {b : Nat} {T : List St} (h : MapS X b T) (t : Turn S X Y) (hs : ¬ S b) : MapS Y b T := h.keep (t.block b h.lt hs)
theorem RanS.lt_map {w : World} {b r : Nat} {S T : List St} (h : RanS w b r S T) : b < w.heap.size := h.owns.lt
theorem RanS.turn {S : Nat → Prop} {X Y : World} {b g : Nat} {U T : List St} (h : RanS X b g U T) (t : Turn S X Y) (hb : ¬ S b) (hg : ¬ S g) : RanS Y b g U T := h.keep (t.block b h.lt_map hb) (t.block g h.ne.2 hg)
theorem MapS.ne_blk {w : World} {b : Nat} {S : List St} (h : MapS w b S) {g : Nat} {t : TypeId} {cs : Array Value} (hg : Blk w g t cs) : b ≠ g := by
 rintro rfl; obtain ⟨D, ⟨es, clock, hb, _⟩, _⟩ := h; rw [show w.heap[b]? = _ from hg] at hb
 cases hb
theorem own_mapS {B b : Nat} {S : List St} (hb : b < B) : OwnT B TyB KxN (fun X => MapS X b S) :=
 ⟨fun X Y row h hg hr => h.keep (hg.block b h.lt (fun e => by have := (hr b e.symm).1; omega)), fun _ _ _ h => h.elim⟩
theorem nexts_le {day : Nat} {x : St} : ∀ (fs : List NFr) (i : Nat) (s : St), (∀ f ∈ fs, f.rise.hi ≤ 20) → i + fs.length ≤ 3 → s.2 < 8 → x ∈ nexts fs i day s → x.1 ≤ s.1 + 20 * fs.length ∧ x.2 < 8 := by
 intro fs
 induction fs with
 | nil =>
  intro i s _ _ h2 hx; simp only [nexts, List.mem_singleton] at hx; subst hx; exact ⟨by simp, h2⟩
 | cons f fs ih =>
  intro i s hf hi h2 hx; rw [nexts, List.mem_flatMap] at hx; obtain ⟨z, hz, hx⟩ := hx; have hfr := hf f (by simp)
  simp only [List.length_cons] at hi ⊢
  have key : z.1 ≤ s.1 + 20 ∧ z.2 < 8 := by
   rcases mem_opts.1 hz with ⟨_, rfl⟩ | ⟨_, _, _, k, _, hk, rfl⟩
   ·exact ⟨by omega, h2⟩
   ·refine ⟨by simp only; omega, ?_⟩
    have h4 : (2 : Nat) ^ i < 2 ^ 3 := Nat.pow_lt_pow_right (by omega) (by omega)
    exact Nat.or_lt_two_pow (n := 3) h2 h4
  obtain ⟨k1, k2⟩ := ih (i + 1) z (fun g hg => hf g (by simp [hg])) (by omega) key.2 hx
  exact ⟨by omega, k2⟩
theorem next_le {r : Riv} (hv : r.Good) {by_ day : Nat} {s x : St} (h2 : s.2 < 8) (hx : x ∈ next r by_ day s) : x.1 ≤ s.1 + 60 ∧ x.2 < 8 := by
 have hl := hv.fl
 obtain ⟨k1, k2⟩ := nexts_le r.fr 0 (s.1 - by_, s.2) (fun f hf => (hv.fr f hf).2.2.2.2.2.2.1) (by omega) h2 hx
 simp only at k1; exact ⟨by omega, k2⟩
theorem fwd_le {r : Riv} (hv : r.Good) {by_ looks : Nat} : ∀ (day : Nat) (s : St), fwd r by_ looks day s → s.1 ≤ 60 + 60 * day ∧ s.2 < 8
 | 0, s, h => ⟨by have := h.2.2.1; have := hv.d2; omega, by rw [h.1]; omega⟩
 | k + 1, s, h => by
  obtain ⟨p, h1, h2, _⟩ := h; obtain ⟨k1, k2⟩ := fwd_le hv k p h1; obtain ⟨k3, k4⟩ := next_le hv k2 h2; exact ⟨by omega, k4⟩
structure MapsN (B : Nat) (w : World) (ms : Nat → Option Nat) (n : Nat) (F : Nat → St → Prop) : Prop where
 at_ : ∀ j, j < n → ∃ b S, ms j = some b ∧ B ≤ b ∧ MapS w b S ∧ ∀ s, s ∈ S ↔ F j s
 inj : ∀ i j, i < n → j < n → ms i = ms j → i = j
theorem MapsN.turn {B : Nat} {S : Nat → Prop} {X Y : World} {ms : Nat → Option Nat} {n : Nat} {F : Nat → St → Prop} (h : MapsN B X ms n F) (t : Turn S X Y) (hs : ∀ j b, j < n → ms j = some b → ¬ S b) : MapsN B Y ms n F :=
 ⟨fun j hj => by
  obtain ⟨b, T, h1, h2, h3, h4⟩ := h.at_ j hj
  exact ⟨b, T, h1, h2, h3.turn t (hs j b hj h1), h4⟩, h.inj⟩
theorem MapsN.push {B : Nat} {X Y : World} {S : Nat → Prop} {ms : Nat → Option Nat} {n : Nat} {F : Nat → St → Prop} (h : MapsN B X ms n F) (t : Turn S X Y) (hs : ∀ b, b < X.heap.size → ¬ S b ∨ ∀ j, j < n → ms j ≠ some b) {b : Nat} {T : List St} (hB : B ≤ b) (hX : X.heap.size ≤ b) (hM : MapS Y b T) (hT : ∀ s, s ∈ T ↔ F n s) : MapsN B Y (updM ms n b) (n + 1) F := by
 have hlt : ∀ j b', j < n → ms j = some b' → b' < X.heap.size := fun j b' hj e => by
  obtain ⟨b2, T2, h1, h2, h3, h4⟩ := h.at_ j hj; rw [h1] at e; cases e
  exact h3.lt
 refine ⟨fun j hj => ?_, fun i j hi hj e => ?_⟩
 ·by_cases e : j = n
  ·subst e; exact ⟨b, T, by simp [updM], hB, hM, hT⟩
  ·obtain ⟨b', T', h1, h2, h3, h4⟩ := h.at_ j (by omega)
   refine ⟨b', T', by simp [updM, e, h1], h2, h3.turn t (fun hS => ?_), h4⟩
   rcases hs b' h3.lt with h5 | h5
   ·exact h5 hS
   ·exact h5 j (by omega) h1
 ·have hne : ∀ j, j < n → ms j ≠ some b := fun j hj e => by have := hlt j b hj e; omega
  unfold updM at e
  by_cases h1 : i = n
  ·subst h1
   by_cases h2 : j = i
   ·exact h2.symm
   ·rw [if_pos rfl, if_neg h2] at e; exact absurd e.symm (hne j (by omega))
  ·by_cases h2 : j = n
   ·subst h2; rw [if_neg h1, if_pos rfl] at e; exact absurd e (hne i (by omega))
   ·rw [if_neg h1, if_neg h2] at e; exact h.inj i j (by omega) (by omega) e
def dropSeq : Nat → Code → Code
 | 0, c => c
 | n + 1, .seq _ b => dropSeq n b
 | _ + 1, c => c
def headSeq : Code → Code
 | .seq a _ => a
 | c => c
def tailSeq : Code → Code
 | .seq _ b => b
 | c => c
def innerC : Code → Code
 | .block _ c => c
 | .loop c => c
 | .scope c => c
 | c => c
noncomputable def runTail (n : Nat) : Code := dropSeq n (Tryz.f134.body.getD .skip)
noncomputable def fwdL : Code := innerC (innerC (tailSeq (headSeq (runTail 4))))
noncomputable def fwdB : Code := innerC (headSeq (tailSeq fwdL))
noncomputable def fwdR : Code := tailSeq (tailSeq fwdB)
noncomputable def fwdS : Code := innerC (tailSeq (tailSeq (innerC (innerC fwdR))))
noncomputable def bckL : Code := innerC (innerC (tailSeq (headSeq (runTail 5))))
noncomputable def bckB : Code := innerC (innerC (headSeq (tailSeq bckL)))
noncomputable def bckR : Code := tailSeq (tailSeq bckB)
noncomputable def bckS : Code := tailSeq (tailSeq (innerC (innerC bckR)))
end Go.Proofs.YtgmfhngcehkibaaGreat
namespace Go.Proofs.YtgmfhngcehkibaaGreat
open Go.RowKit Go.Hav Go.Shelf Go.Sq
attribute [local go_sem] Oper.semAt_some
section
variable {B d k : Nat} {fa la : Option Addr} {fl fc ll lc : Nat} {r : Riv}
def FwdPost (r : Riv) (by_ looks day : Nat) (s : St) (S : List St) (b : Nat) (w : World) (ds ds' : List Deferred) (w' : World) : Prop :=
 Turn (fun x => x = b) w w' ∧ (∃ S', MapS w' b S' ∧ ∀ x, x ∈ S' ↔ x ∈ S ∨ (x ∈ next r by_ day s ∧ fits r looks day x.1 = true)) ∧ ∃ D, w.heap.size ≤ D ∧ w'.heap[D]? = some (.deferred (some [])) ∧ ds' = markD D :: ds
def InFwd (r : Riv) (looks day : Nat) (O S : List St) (n : Nat) (S' : List St) : Prop := ∀ x, x ∈ S' ↔ x ∈ S ∨ ∃ j, j < n ∧ O[j]? = some x ∧ fits r looks day x.1 = true
theorem fwdS_any (hv : r.Good) {w0 w : World} {B2 B3 B4 Bd by_ looks day b rg : Nat} {ms : Nat → Option Nat} {s : St} {S : List St} (hD : GauIn w0 B d k fa fl fc la ll lc r) (hR : RunB w0 w B2 B3 B4 d by_ looks ms) (hday : Blk w Bd 3 #[.int .i64 day]) (hms : ms day = some b) (hM : MapS w b S) (hbB : w0.heap.size ≤ b) (hB0 : B ≤ w0.heap.size)
  (hen : (Instr.entry (.pointer (some ⟨rg, 0, none⟩))).run Tryz.prog w = .ok (.tuple #[stV s, .bool true]) w) (h1 : by_ < 1000) (h2 : looks < 1000) (h3 : day ≤ 10) (hs : s.1 ≤ 1000 ∧ s.2 < 8)
  {ds : List Deferred} {Q : Exit → Act → World → Prop} {c0 c1 c5 c6 c7 c8 c10 c11 c12 c13 c14 c15 c16 c17 c18 c19 c20 c21 c22 c23 c24 c25 c26 c27 c28 c29 c30 c31 c32 c33 c34 c35 c36 c37 c38 c39 c40 c41 c42 c43 c44 c45 c46 c47 c48 c49 c50 c51 c52 c53 c54 c55 c56 c57 c58 c59 c60 c61 c62 c63 c64 c65 c66 c67 c68 c69 c71 c72 c73 c74 c75 c76 c77 c78 c79 c80 c81 c82 c83 c84 c85 c86 c87 c88 c89 c90 c91 c92 c93 c94 c95 c96 c97 c98 c99 c100 c101 c102 c103 c104 c105 c106 c107 c108 c109 c110 c111 c112 c113 c114 c115 c116 c117 c118 c119 c120 c121 c122 c123 c124 c125 c126 c127 c128 c129 c130 c131 c132 c133 c134 c135 c136 : Value}
  (HQ : Hid (∀ (u10 u11 u73 u74 u75 u76 u77 u78 u79 u80 u81 u82 u83 u84 u85 u86 u87 u88 u89 u90 u91 : Value) (ds' : List Deferred) (w' : World), FwdPost r by_ looks day s S b w ds ds' w' → Q .normal ⟨(c0::c1::(.pointer (some ⟨B2, 0, none⟩))::(.pointer (some ⟨B3, 0, none⟩))::(.pointer (some ⟨B4, 0, none⟩))::c5::c6::c7::c8::(.pointer (some ⟨Bd, 0, none⟩))::u10::u11::c12::c13::c14::c15::c16::c17::c18::c19::c20::c21::c22::c23::c24::c25::c26::c27::c28::c29::c30::c31::c32::c33::c34::c35::c36::c37::c38::c39::c40::c41::c42::c43::c44::c45::c46::c47::c48::c49::c50::c51::c52::c53::c54::c55::c56::c57::c58::c59::c60::c61::c62::c63::c64::c65::c66::c67::c68::c69::(.pointer (some ⟨rg, 0, none⟩))::c71::c72::u73::u74::u75::u76::u77::u78::u79::u80::u81::u82::u83::u84::u85::u86::u87::u88::u89::u90::u91::c92::c93::c94::c95::c96::c97::c98::c99::c100::c101::c102::c103::c104::c105::c106::c107::c108::c109::c110::c111::c112::c113::c114::c115::c116::c117::c118::c119::c120::c121::c122::c123::c124::c125::c126::c127::c128::c129::c130::c131::c132::c133::c134::c135::c136::[]).toArray, ds'⟩ w')) :
  Code.wp Tryz.prog fwdS Q ⟨(c0::c1::(.pointer (some ⟨B2, 0, none⟩))::(.pointer (some ⟨B3, 0, none⟩))::(.pointer (some ⟨B4, 0, none⟩))::c5::c6::c7::c8::(.pointer (some ⟨Bd, 0, none⟩))::c10::c11::c12::c13::c14::c15::c16::c17::c18::c19::c20::c21::c22::c23::c24::c25::c26::c27::c28::c29::c30::c31::c32::c33::c34::c35::c36::c37::c38::c39::c40::c41::c42::c43::c44::c45::c46::c47::c48::c49::c50::c51::c52::c53::c54::c55::c56::c57::c58::c59::c60::c61::c62::c63::c64::c65::c66::c67::c68::c69::(.pointer (some ⟨rg, 0, none⟩))::c71::c72::c73::c74::c75::c76::c77::c78::c79::c80::c81::c82::c83::c84::c85::c86::c87::c88::c89::c90::c91::c92::c93::c94::c95::c96::c97::c98::c99::c100::c101::c102::c103::c104::c105::c106::c107::c108::c109::c110::c111::c112::c113::c114::c115::c116::c117::c118::c119::c120::c121::c122::c123::c124::c125::c126::c127::c128::c129::c130::c131::c132::c133::c134::c135::c136::[]).toArray, ds⟩ w := by
 conv => arg 2; whnf
 have HD := Lib.hid (hD.grow hR.b); have HV := Lib.hid hv; have HR := Lib.hid hR; have HM := Lib.hid hM; have HMS := Lib.hid hms; have HDY := Lib.hid hday
 have hc11 : ∀ j, j < 11 → w.cell? ⟨B4, j, none⟩ = some (.map (ms j)) := fun j hj => (hR.a.cell j).trans (runC_get ms hj)
 obtain ⟨x, c⟩ := s; have u2 : w.cell? ⟨B2, 0, none⟩ = some (.pointer (some ⟨d, 0, none⟩)) := hR.g.cell 0; have u3 : w.cell? ⟨B3, 0, none⟩ = some (.int .i64 by_) := hR.q.cell 0; have u4 : w.cell? ⟨Bd, 0, none⟩ = some (.int .i64 day) := hday.cell 0; have m2 := hR.g.lt; have m3 := hR.q.lt; have m4 := hday.lt; have HC11 := Lib.hid hc11; have HS := Lib.hid hs; have H3 := Lib.hid h3; dsimp only [stV, stC] at hen; clear hD hv hR hM hms hday hc11 hs h3; go_wp2_with fail; obtain ⟨w1, hw1⟩ : ∃ w1, w1 = w.alloc (.cells #[.int .i64 x, .int .u64 c] 189) := ⟨_, rfl⟩; have HB1 : Hid (Below w.heap.size w w1) := by rw [hw1]; exact (Below.refl _ _).alloc (Nat.le_refl _) _
 have hs1 : w1.heap.size = w.heap.size + 1 := by rw [hw1]; simp
 rw [← hw1]; clear hw1; have hnx := next_any HV.out (x, c) by_ day w1 (HD.out.grow HB1.out); dsimp only [stV, stC] at hnx; refine hnx.mono ?_; rintro e w2 ⟨bc, g, cp, rfl, hb2, hbc, k1, k2, k3, k4, hg, hgl⟩; have HB2 : Hid (Below w.heap.size w w2) := HB1.out.trans (hb2.mono HB1.out.size); have HK1 := Lib.hid k1; have HK2 := Lib.hid k2; have HK3 := Lib.hid k3; have HG := Lib.hid k4; have hl1 := k1.lt; have hl2 := k2.lt; have HS1 := Lib.hid hs1; have hsz2 := hb2.size; clear hnx hb2 k1 k2 k3 k4 u2 u3 u4 hen hs1; go_wp2_with fail; obtain ⟨O, hO⟩ : ∃ O, O = next r by_ day (x, c) := ⟨_, rfl⟩; have hseq := next_seq (fl := fl) HV.out HD.out.efl h1 (day := day) (x, c) (show Sm 0 (x, c) from ⟨by have := HS.out.1; simp only at this ⊢; omega, HS.out.2⟩) bc (w1.heap.size + 1) w1.heap.size g cp
 rw [← hO] at hseq
 have hO3 : ∀ y, y ∈ O → Tiny y := by
  intro y hy; rw [hO] at hy; obtain ⟨q1, q2⟩ := next_le HV.out HS.out.2 hy; exact ⟨by have := HS.out.1; simp only at q1 this; omega, q2⟩
 have HT3 := Lib.hid hO3; have HSEQ := Lib.hid hseq; have HOE := Lib.hid hO; have heg : ∀ args w, (callFunc 150 args).run Tryz.prog w = .ok (.enter 150 args) w := enters_of Tryz.func150 (by kernel_rfl) rfl
 have HEG := Lib.hid heg; have hbw : b < w.heap.size := HM.out.lt; have HM2 : Hid (MapS w2 b S) := HM.out.keep (HB2.out.block b hbw); have hbw2 : b < w2.heap.size := HM2.out.lt; have hbc1 : w.heap.size ≤ bc := by have := HS1.out; omega
 have hg1 : w.heap.size ≤ g := by have := HS1.out; omega
 have hw1 : w.heap.size ≤ w1.heap.size := HB1.out.size; clear hO hseq hO3 heg
 refine wpIn_wide.1 (wpIn_rangeL_slots (n := 6) rfl HEG.out HSEQ.out keepsRec_none (fun x hx => by obtain ⟨y, _, rfl⟩ := List.mem_map.1 hx; rfl) (fun x => x = b) (fun x e => by omega)
  (fun rec => ⟨⟨(HK1.out.alloc _).alloc _, fun e => by rcases e with e | e <;> (have e' : _ = _ := e; omega)⟩, ⟨(HK2.out.alloc _).alloc _, fun e => by rcases e with e | e <;> (have e' : _ = _ := e; omega)⟩, (HK3.out.alloc _).alloc _, HG.out.turn (S := fun _ => False) (((Turn.refl _ _).alloc _).alloc _) hgl id, by simp; omega, fun e => by rcases e with e | e <;> (have e' : _ = _ := e; omega)⟩)
  (fun n Xw => Turn (fun x => x = b) w2 Xw ∧ ∃ S', MapS Xw b S' ∧ InFwd r looks day O S n S') (fun _ _ => False)
  (fun n => (OwnT.turn TyB (Nat.le_refl _) (fun _ _ _ h => h.elim)).and (OwnT.ex fun S' => (own_mapS hbw2).and (OwnT.pure _ _ _ _))) (fun cd => OwnT.pure _ _ _ False)
  ⟨Turn.refl _ _, S, HM2.out, fun x => by simp⟩
  (fun n (Bx : Nat) T => (T.setIfInBounds 81 (stV (O[n]?.getD (0, 0)))).setIfInBounds 11 (.pointer (some ⟨Bx, 0, none⟩))) (fun n Bx Xw => w2.heap.size ≤ Bx ∧ Blk Xw Bx 189 (stC (O[n]?.getD (0, 0)))) (fun _ Bx => (OwnT.pure _ _ _ _).and (OwnT.blk _ (by decide) (fun _ _ h => h.elim)))
  ?assign ?body ?done ?stop)
 case assign =>
  rintro l n xx Xw K ⟨hT, hS'⟩ hx hK; rw [List.getElem?_map] at hx
  obtain ⟨⟨x2, c2⟩, hy⟩ : ∃ y, O[n]? = some y := by
   cases h : O[n]? with
   | none => rw [h] at hx; cases hx
   | some y => exact ⟨y, rfl⟩
  rw [hy] at hx hK; obtain rfl : encS (x2, c2) = xx := Option.some.inj hx; simp only [Option.getD_some] at hK; simp only [List.setIfInBounds_toArray, List.set_cons_succ, List.set_cons_zero] at hK; dsimp only [encS]; simp only [stV, stC] at hK ⊢; have HK := Lib.hid hK; clear hK hx
  gi_wp2
  exact HK.out Xw.heap.size _ ((Turn.refl _ Xw).alloc _) ⟨hT.alloc _, by obtain ⟨S', q1, q2⟩ := hS'; exact ⟨S', q1.turn (S := fun _ => False) ((Turn.refl _ _).alloc _) id, q2⟩⟩ ⟨hT.size, Blk.new _ _ _⟩
 case body =>
  rintro l n xx Bx Xw hl ⟨r0, hr⟩ ⟨hT, S', hM', hI⟩ ⟨hBx, hX⟩ hx; rw [List.getElem?_map] at hx
  obtain ⟨⟨x2, c2⟩, hy⟩ : ∃ y, O[n]? = some y := by
   cases h : O[n]? with
   | none => rw [h] at hx; cases hx
   | some y => exact ⟨y, rfl⟩
  have HW := Lib.hid hT; have HMX := Lib.hid hM'; have HIN := Lib.hid hI; have HTY := Lib.hid (HT3.out _ (List.mem_of_getElem? hy)); have HY := Lib.hid hy; have hszX := hT.size; rw [hy] at hX ⊢; simp only [Option.getD_some] at hX ⊢; simp only [List.setIfInBounds_toArray, List.set_cons_succ, List.set_cons_zero]; simp only [stV, stC]
  have HTW : Hid (Turn (fun x => x = b) w Xw) := (Turn.of_below HB2.out).trans hT
  have HXX := Lib.hid hX
  have e2 : ¬ B2 = b := fun e => HM.out.ne_blk HR.out.g e.symm
  have e3 : ¬ B3 = b := fun e => HM.out.ne_blk HR.out.q e.symm
  have e4 : ¬ B4 = b := fun e => HM.out.ne_blk HR.out.a e.symm
  have ed : ¬ Bd = b := fun e => HM.out.ne_blk HDY.out e.symm
  have HG2 : Hid (Blk Xw B2 115 #[(.pointer (some ⟨d, 0, none⟩))]) := HR.out.g.turn HTW.out e2; have HG3 : Hid (Blk Xw B3 187 #[.int .i64 by_, .int .u64 looks]) := HR.out.q.turn HTW.out e3; have HGD : Hid (Blk Xw Bd 3 #[.int .i64 day]) := HDY.out.turn HTW.out ed; have HG4 : Hid (Blk Xw B4 184 (runC ms)) := HR.out.a.turn HTW.out e4; have n2 : Xw.cell? ⟨B2, 0, none⟩ = some (.pointer (some ⟨d, 0, none⟩)) := HG2.out.cell 0; have n3 : Xw.cell? ⟨B3, 1, none⟩ = some (.int .u64 looks) := HG3.out.cell 1; have n4 : Xw.cell? ⟨Bd, 0, none⟩ = some (.int .i64 day) := HGD.out.cell 0; have n5 : Xw.cell? ⟨Bx, 0, none⟩ = some (.int .i64 x2) := hX.cell 0; have n6 : Xw.cell? ⟨Bx, 1, none⟩ = some (.int .u64 c2) := hX.cell 1
  have HDX : Hid (GauIn Xw B d k fa fl fc la ll lc r) := HD.out.turn HTW.out (fun x e => by have e' : x = b := e; have := hB0; omega) (fun e => (HM.out.ne_blk HD.out.blk) (show d = b from e).symm)
  clear hT hM' hI hX hx hr hy e2 e3 e4 ed
  gi_wp2_with fail
  have hfit := fits_any HV.out (x2, c2) day looks (by omega) Xw HDX.out
  dsimp only [stV, stC] at hfit; refine ⟨trivial, rfl, (CallsIn.inRound l (callsIn_wide.2 hfit)).mono ?_⟩; rintro e Y ⟨rfl, hbY⟩; have HBY := Lib.hid hbY; have hszY := hbY.size; clear hfit hbY n2 n3 n4 n5 n6; dsimp only
  cases hfv : fits r looks day x2
  ·have HF := Lib.hid hfv; clear hfv
   gi_wp2
   refine ⟨Turn.of_below HBY.out, HW.out.trans (Turn.of_below HBY.out), S', HMX.out.turn (Turn.of_below (S := fun _ => False) HBY.out) id, fun z => ?_⟩
   rw [HIN.out z]; constructor
   ·rintro (q | ⟨j, q1, q2, q3⟩)
    ·exact .inl q
    ·exact .inr ⟨j, by omega, q2, q3⟩
   ·rintro (q | ⟨j, q1, q2, q3⟩)
    ·exact .inl q
    ·by_cases ej : j = n
     ·subst ej; rw [HY.out] at q2; cases q2
      have := HF.out; rw [this] at q3; cases q3
     ·exact .inr ⟨j, by omega, q2, q3⟩
  ·have HF := Lib.hid hfv; clear hfv; have HYD : Hid (Blk Y Bd 3 #[.int .i64 day]) := HGD.out.below HBY.out HGD.out.lt; have HYA : Hid (Blk Y B4 184 (runC ms)) := HG4.out.below HBY.out HG4.out.lt; have HYX : Hid (Blk Y Bx 189 (stC (x2, c2))) := HXX.out.below HBY.out HXX.out.lt; have n4 : Y.cell? ⟨Bd, 0, none⟩ = some (.int .i64 day) := HYD.out.cell 0; have n5 : Y.cell? ⟨Bx, 0, none⟩ = some (.int .i64 x2) := HYX.out.cell 0; have n6 : Y.cell? ⟨Bx, 1, none⟩ = some (.int .u64 c2) := HYX.out.cell 1; have n7 : Y.cell? ⟨B4, day, none⟩ = some (.map (some b)) := by rw [← HMS.out]; exact (HYA.out.cell day).trans (runC_get ms (by have := H3.out; omega))
   have l4 := HYD.out.lt; have l5 := HYX.out.lt; have l7 := HYA.out.lt; have hd10 : day < 11 := by have := H3.out; omega
   have hd11 : (day : Int) < 11 := by omega
   gi_wp2
   refine HavG.wpIn_region_tail (R := RelB) [(0,false),(1,false),(2,false),(3,false)] [4] (fun _ _ => False) (by kernel_rfl) (by kernel_rfl) (by kernel_rfl) (fun _ _ _ _ h => h.elim) ?_
   (apply HavG.hav_same (by exact ho rfl) (by kernel_rfl); (focus (intro wv hgv _; have hcv := cvB hgv; (try go_simp); try rfl; done)); simp only [Act.put, List.setIfInBounds_toArray, List.set_cons_succ, List.set_cons_zero])
   iterate 3 (apply HavG.hav_same (by exact ho rfl) (by kernel_rfl); (focus (intro wv hgv _; have hcv := cvB hgv; (try go_simp); try rfl; done)); simp only [Act.put, List.setIfInBounds_toArray, List.set_cons_succ, List.set_cons_zero])
   refine HavG.hav_end (fun wz hgz _ => ?_)
   simp only [List.filterMap]; have HBZ : Hid (Below Y.heap.size Y wz) := hgz; obtain ⟨Y3, hrun, hM3, hg3, hs3⟩ := ((HMX.out.keep (HBY.out.block b HMX.out.lt)).keep (HBZ.out.block b (Nat.lt_of_lt_of_le HMX.out.lt hszY))).store (x2, c2) HTY.out; dsimp only [stV, stC] at hrun; have HM3 := Lib.hid hM3
   have HG3' : Hid (Turn (fun x => x = b) Xw Y3) := ((Turn.of_below HBY.out).trans (Turn.of_below HBZ.out)).trans (Turn.of_grown hg3 (fun q e _ => by cases e; rfl))
   clear hM3 hg3 hs3 hgz n4 n5 n6 n7
   gi_wp2
   refine ⟨HG3'.out, HW.out.trans HG3'.out, _, HM3.out, fun z => ?_⟩
   have hz : z ∈ (if (x2, c2) ∈ S' then S' else (x2, c2) :: S') ↔ z = (x2, c2) ∨ z ∈ S' := by
    by_cases hm : (x2, c2) ∈ S'
    ·rw [if_pos hm]; exact ⟨.inr, fun h => h.elim (fun e => e ▸ hm) id⟩
    ·rw [if_neg hm]; simp
   rw [hz, HIN.out z]; constructor
   ·rintro (rfl | q | ⟨j, q1, q2, q3⟩)
    ·exact .inr ⟨n, by omega, HY.out, HF.out⟩
    ·exact .inl q
    ·exact .inr ⟨j, by omega, q2, q3⟩
   ·rintro (q | ⟨j, q1, q2, q3⟩)
    ·exact .inr (.inl q)
    ·by_cases ej : j = n
     ·subst ej; rw [HY.out] at q2; cases q2
      exact .inl rfl
     ·exact .inr (.inr ⟨j, by omega, q2, q3⟩)
 case done =>
  rintro D Xw hDe ⟨hT, S', hM', hI⟩ hD
  refine HQ.out _ _ _ _ _ _ _ _ _ _ _ _ _ _ _ _ _ _ _ _ _ _ _ ⟨(Turn.of_below HB2.out).trans hT, ⟨S', hM', fun z => ?_⟩, D, by have := HB2.out.size; omega, hD, rfl⟩
  rw [hI z, ← HOE.out]; refine or_congr Iff.rfl ⟨?_, ?_⟩
  ·rintro ⟨j, _, q2, q3⟩; exact ⟨List.mem_of_getElem? q2, q3⟩
  ·rintro ⟨q2, q3⟩; obtain ⟨j, hj⟩ := List.getElem?_of_mem q2; exact ⟨j, by rw [List.length_map]; exact (List.getElem?_eq_some_iff.1 hj).1, hj, q3⟩
 case stop => exact fun D c W _ h _ => h.elim
end
end Go.Proofs.YtgmfhngcehkibaaGreat
namespace Go.Proofs.YtgmfhngcehkibaaGreat
open Go.RowKit Go.Hav Go.Shelf Go.Sq
attribute [local go_sem] Oper.semAt_some
section
variable {B d k : Nat} {fa la : Option Addr} {fl fc ll lc : Nat} {r : Riv}
def BckPost (r : Riv) (by_ day : Nat) (s : St) (S T N : List St) (b rg : Nat) (w : World) (ds ds' : List Deferred) (w' : World) : Prop :=
 Turn (fun x => x = b) w w' ∧ (∃ S', RanS w' b rg S' T ∧ ∀ x, x ∈ S' ↔ x ∈ S ∧ (x = s → ∃ y, y ∈ next r by_ (day + 1) s ∧ y ∈ N)) ∧ ∃ D, w.heap.size ≤ D ∧ w'.heap[D]? = some (.deferred (some [])) ∧ ds' = markD D :: ds
def NoneOf (O N : List St) (n : Nat) : Prop := ∀ j x, j < n → O[j]? = some x → x ∉ N
def SomeOf (O N : List St) : Prop := ∃ x, x ∈ O ∧ x ∈ N
theorem bckS_any (hv : r.Good) {w0 w : World} {B2 B3 B4 Bd by_ looks day b bn rg : Nat} {ms : Nat → Option Nat} {s : St} {S T N : List St} (hD : GauIn w0 B d k fa fl fc la ll lc r) (hR : RunB w0 w B2 B3 B4 d by_ looks ms) (hday : Blk w Bd 3 #[.int .i64 day]) (hms : ms day = some b) (hmn : ms (day + 1) = some bn) (hM : RanS w b rg S T) (hN : MapS w bn N) (hbn : b ≠ bn)
  (hen : (Instr.entry (.pointer (some ⟨rg, 0, none⟩))).run Tryz.prog w = .ok (.tuple #[stV s, .bool true]) w) (h1 : by_ < 1000) (h3 : day < 10) (hs : s.1 ≤ 1000 ∧ s.2 < 8) (hsS : s ∈ S) (hsT : s ∉ T)
  {ds : List Deferred} {Q : Exit → Act → World → Prop} {c0 c1 c5 c6 c7 c8 c9 c10 c11 c13 c14 c15 c16 c17 c18 c19 c20 c21 c22 c23 c24 c25 c26 c27 c28 c29 c30 c31 c32 c33 c34 c35 c36 c37 c38 c39 c40 c41 c42 c43 c44 c45 c46 c47 c48 c49 c50 c51 c52 c53 c54 c55 c56 c57 c58 c59 c60 c61 c62 c63 c64 c65 c66 c67 c68 c69 c70 c71 c72 c73 c74 c75 c76 c77 c78 c79 c80 c81 c82 c83 c84 c85 c86 c87 c88 c89 c90 c91 c92 c93 c94 c95 c96 c97 c98 c99 c100 c101 c102 c103 c104 c105 c107 c108 c109 c110 c111 c112 c113 c114 c115 c116 c117 c118 c119 c120 c121 c122 c123 c124 c125 c126 c127 c128 c129 c130 c131 c132 c133 c134 c135 c136 : Value}
  (HQ : Hid (∀ (u13 u14 u109 u110 u111 u112 u113 u114 u115 u116 u117 u118 u119 u120 u121 u122 u123 u124 u125 u126 u127 u128 : Value) (ds' : List Deferred) (w' : World), BckPost r by_ day s S T N b rg w ds ds' w' → Q .normal ⟨(c0::c1::(.pointer (some ⟨B2, 0, none⟩))::(.pointer (some ⟨B3, 0, none⟩))::(.pointer (some ⟨B4, 0, none⟩))::c5::c6::c7::c8::c9::c10::c11::(.pointer (some ⟨Bd, 0, none⟩))::u13::u14::c15::c16::c17::c18::c19::c20::c21::c22::c23::c24::c25::c26::c27::c28::c29::c30::c31::c32::c33::c34::c35::c36::c37::c38::c39::c40::c41::c42::c43::c44::c45::c46::c47::c48::c49::c50::c51::c52::c53::c54::c55::c56::c57::c58::c59::c60::c61::c62::c63::c64::c65::c66::c67::c68::c69::c70::c71::c72::c73::c74::c75::c76::c77::c78::c79::c80::c81::c82::c83::c84::c85::c86::c87::c88::c89::c90::c91::c92::c93::c94::c95::c96::c97::c98::c99::c100::c101::c102::c103::c104::c105::(.pointer (some ⟨rg, 0, none⟩))::c107::c108::u109::u110::u111::u112::u113::u114::u115::u116::u117::u118::u119::u120::u121::u122::u123::u124::u125::u126::u127::u128::c129::c130::c131::c132::c133::c134::c135::c136::[]).toArray, ds'⟩ w')) :
  Code.wp Tryz.prog bckS Q ⟨(c0::c1::(.pointer (some ⟨B2, 0, none⟩))::(.pointer (some ⟨B3, 0, none⟩))::(.pointer (some ⟨B4, 0, none⟩))::c5::c6::c7::c8::c9::c10::c11::(.pointer (some ⟨Bd, 0, none⟩))::c13::c14::c15::c16::c17::c18::c19::c20::c21::c22::c23::c24::c25::c26::c27::c28::c29::c30::c31::c32::c33::c34::c35::c36::c37::c38::c39::c40::c41::c42::c43::c44::c45::c46::c47::c48::c49::c50::c51::c52::c53::c54::c55::c56::c57::c58::c59::c60::c61::c62::c63::c64::c65::c66::c67::c68::c69::c70::c71::c72::c73::c74::c75::c76::c77::c78::c79::c80::c81::c82::c83::c84::c85::c86::c87::c88::c89::c90::c91::c92::c93::c94::c95::c96::c97::c98::c99::c100::c101::c102::c103::c104::c105::(.pointer (some ⟨rg, 0, none⟩))::c107::c108::c109::c110::c111::c112::c113::c114::c115::c116::c117::c118::c119::c120::c121::c122::c123::c124::c125::c126::c127::c128::c129::c130::c131::c132::c133::c134::c135::c136::[]).toArray, ds⟩ w := by
 conv => arg 2; whnf
 have HD := Lib.hid (hD.grow hR.b); have HV := Lib.hid hv; have HR := Lib.hid hR; have HM := Lib.hid hM; have HN := Lib.hid hN; have HBN := Lib.hid hbn; have HMS := Lib.hid hms; have HMN := Lib.hid hmn; have HDY := Lib.hid hday; obtain ⟨x, c⟩ := s; have u2 : w.cell? ⟨B2, 0, none⟩ = some (.pointer (some ⟨d, 0, none⟩)) := hR.g.cell 0; have u3 : w.cell? ⟨B3, 0, none⟩ = some (.int .i64 by_) := hR.q.cell 0; have u4 : w.cell? ⟨Bd, 0, none⟩ = some (.int .i64 day) := hday.cell 0; have m2 := hR.g.lt; have m3 := hR.q.lt; have m4 := hday.lt; have HS := Lib.hid hs; have H3 := Lib.hid h3; have HSS := Lib.hid hsS; have HST := Lib.hid hsT; have hdd : (day : Int) < 10 := by omega
 dsimp only [stV, stC] at hen; clear hD hv hR hM hN hbn hms hmn hday hs h3 hsS hsT; go_wp2_with fail; obtain ⟨w1, hw1⟩ : ∃ w1, w1 = w.alloc (.cells #[.int .i64 x, .int .u64 c] 189) := ⟨_, rfl⟩; have HB1 : Hid (Below w.heap.size w w1) := by rw [hw1]; exact (Below.refl _ _).alloc (Nat.le_refl _) _
 have HX0 : Hid (Blk w1 w.heap.size 189 #[.int .i64 x, .int .u64 c]) := by rw [hw1]; exact Blk.new _ _ _
 have hs1 : w1.heap.size = w.heap.size + 1 := by rw [hw1]; simp
 rw [← hw1]; clear hw1; have hnx := next_any HV.out (x, c) by_ (day + 1) w1 (HD.out.grow HB1.out); rw [show ((day + 1 : Nat) : Int) = (day : Int) + 1 by omega] at hnx
 dsimp only [stV, stC] at hnx; refine hnx.mono ?_; rintro e w2 ⟨bc, g, cp, rfl, hb2, hbc, k1, k2, k3, k4, hg, hgl⟩; have HB2 : Hid (Below w.heap.size w w2) := HB1.out.trans (hb2.mono HB1.out.size); have HX2 : Hid (Blk w2 w.heap.size 189 #[.int .i64 x, .int .u64 c]) := HX0.out.below hb2 HX0.out.lt; have HK1 := Lib.hid k1; have HK2 : Hid (Blk w2 (w1.heap.size + 1) 3 #[.int .i64 ((day + 1 : Nat) : Int)]) := by rw [show ((day + 1 : Nat) : Int) = (day : Int) + 1 by omega]; exact k2
 have HK3 := Lib.hid k3; have HG := Lib.hid k4; have hl1 := k1.lt; have hl2 := k2.lt; have HS1 := Lib.hid hs1; have hsz2 := hb2.size; clear hnx hb2 k1 k2 k3 k4 u2 u3 u4 hen hs1; go_wp2_with fail; obtain ⟨O, hO⟩ : ∃ O, O = next r by_ (day + 1) (x, c) := ⟨_, rfl⟩; have hseq := next_seq (fl := fl) HV.out HD.out.efl h1 (day := day + 1) (x, c) (show Sm 0 (x, c) from ⟨by have := HS.out.1; simp only at this ⊢; omega, HS.out.2⟩) bc (w1.heap.size + 1) w1.heap.size g cp
 rw [← hO] at hseq
 have hO3 : ∀ y, y ∈ O → Tiny y := by
  intro y hy; rw [hO] at hy; obtain ⟨q1, q2⟩ := next_le HV.out HS.out.2 hy; exact ⟨by have := HS.out.1; simp only at q1 this; omega, q2⟩
 have HT3 := Lib.hid hO3; have HSEQ := Lib.hid hseq; have HOE := Lib.hid hO; have heg : ∀ args w, (callFunc 150 args).run Tryz.prog w = .ok (.enter 150 args) w := enters_of Tryz.func150 (by kernel_rfl) rfl
 have HEG := Lib.hid heg; have hbw : b < w.heap.size := HM.out.lt_map; have hrw : rg < w.heap.size := HM.out.ne.2; have hnw : bn < w.heap.size := HN.out.lt; have HM2 : Hid (RanS w2 b rg S T) := HM.out.keep (HB2.out.block b hbw) (HB2.out.block rg hrw); have HN2 : Hid (MapS w2 bn N) := HN.out.keep (HB2.out.block bn hnw); have hbw2 : b < w2.heap.size := HM2.out.lt_map; have hbc1 : w.heap.size ≤ bc := by have := HS1.out; omega
 have hg1 : w.heap.size ≤ g := by have := HS1.out; omega
 have hw1 : w.heap.size ≤ w1.heap.size := HB1.out.size; have HRD2 : Hid (Blk w2 Bd 3 #[.int .i64 day]) := HDY.out.below HB2.out HDY.out.lt; have HRA2 : Hid (Blk w2 B4 184 (runC ms)) := HR.out.a.below HB2.out HR.out.a.lt; clear hO hseq hO3 heg
 refine wpIn_wide.1 (wpIn_rangeL_slots (n := 6) rfl HEG.out HSEQ.out keepsRec_none (fun x hx => by obtain ⟨y, _, rfl⟩ := List.mem_map.1 hx; rfl) (fun _ => False) (fun x e => e.elim)
  (fun rec => ⟨⟨(HK1.out.alloc _).alloc _, fun e => by rcases e with e | e <;> (first | exact e.elim | (have e' : _ = _ := e; omega))⟩, ⟨(HK2.out.alloc _).alloc _, fun e => by rcases e with e | e <;> (first | exact e.elim | (have e' : _ = _ := e; omega))⟩, (HK3.out.alloc _).alloc _, HG.out.turn (S := fun _ => False) (((Turn.refl _ _).alloc _).alloc _) hgl id, by simp; omega, fun e => by rcases e with e | e <;> (first | exact e.elim | (have e' : _ = _ := e; omega))⟩)
  (fun n Xw => Turn (fun _ => False) w2 Xw ∧ NoneOf O N n) (fun cd Xw => Turn (fun _ => False) w2 Xw ∧ cd = .exit 11 ∧ SomeOf O N)
  (fun n => (OwnT.turn TyB (Nat.le_refl _) (fun _ _ _ h => h.elim)).and (OwnT.pure _ _ _ _)) (fun cd => (OwnT.turn TyB (Nat.le_refl _) (fun _ _ _ h => h.elim)).and (OwnT.pure _ _ _ _))
  ⟨Turn.refl _ _, fun j x h => by omega⟩
  (fun n (Bx : Nat) T => (T.setIfInBounds 118 (stV (O[n]?.getD (0, 0)))).setIfInBounds 14 (.pointer (some ⟨Bx, 0, none⟩))) (fun n Bx Xw => w2.heap.size ≤ Bx ∧ Blk Xw Bx 189 (stC (O[n]?.getD (0, 0)))) (fun _ Bx => (OwnT.pure _ _ _ _).and (OwnT.blk _ (by decide) (fun _ _ h => h.elim)))
  ?assign ?body ?done ?stop)
 case assign =>
  rintro l n xx Xw K ⟨hT, hS'⟩ hx hK; rw [List.getElem?_map] at hx
  obtain ⟨⟨x2, c2⟩, hy⟩ : ∃ y, O[n]? = some y := by
   cases h : O[n]? with
   | none => rw [h] at hx; cases hx
   | some y => exact ⟨y, rfl⟩
  rw [hy] at hx hK; obtain rfl : encS (x2, c2) = xx := Option.some.inj hx; simp only [Option.getD_some] at hK; simp only [List.setIfInBounds_toArray, List.set_cons_succ, List.set_cons_zero] at hK; dsimp only [encS]; simp only [stV, stC] at hK ⊢; have HK := Lib.hid hK; clear hK hx
  gi_wp2
  exact HK.out Xw.heap.size _ ((Turn.refl _ Xw).alloc _) ⟨hT.alloc _, hS'⟩ ⟨hT.size, Blk.new _ _ _⟩
 case body =>
  rintro l n xx Bx Xw hl ⟨r0, hr⟩ ⟨hT, hI⟩ ⟨hBx, hX⟩ hx; rw [List.getElem?_map] at hx
  obtain ⟨⟨x2, c2⟩, hy⟩ : ∃ y, O[n]? = some y := by
   cases h : O[n]? with
   | none => rw [h] at hx; cases hx
   | some y => exact ⟨y, rfl⟩
  have HW := Lib.hid hT; have HIN := Lib.hid hI; have HTY := Lib.hid (HT3.out _ (List.mem_of_getElem? hy)); have HY := Lib.hid hy; have hszX := hT.size; rw [hy] at hX ⊢; simp only [Option.getD_some] at hX ⊢; simp only [List.setIfInBounds_toArray, List.set_cons_succ, List.set_cons_zero]; simp only [stV, stC]; have HXX := Lib.hid hX; have HGD : Hid (Blk Xw Bd 3 #[.int .i64 day]) := HRD2.out.turn hT id; have HG4 : Hid (Blk Xw B4 184 (runC ms)) := HRA2.out.turn hT id; have HNX : Hid (MapS Xw bn N) := HN2.out.turn hT id; have n4 : Xw.cell? ⟨Bd, 0, none⟩ = some (.int .i64 day) := HGD.out.cell 0; have n5 : Xw.cell? ⟨Bx, 0, none⟩ = some (.int .i64 x2) := hX.cell 0; have n6 : Xw.cell? ⟨Bx, 1, none⟩ = some (.int .u64 c2) := hX.cell 1; have n7 : Xw.cell? ⟨B4, day + 1, none⟩ = some (.map (some bn)) := by rw [← HMN.out]; exact (HG4.out.cell (day + 1)).trans (runC_get ms (by have := H3.out; omega))
  have l4 := HGD.out.lt; have l5 := hX.lt; have l7 := HG4.out.lt; have ln := HNX.out.lt; have hd11 : (day : Int) + 1 < 11 := by omega
  have hwr : IntKind.i64.wrap ((day : Int) + 1) = (day : Int) + 1 := by rw [IntKind.wrap_i64]; omega
  have hnn : ((day : Int) + 1).toNat = day + 1 := by omega
  have hge : 0 ≤ (day : Int) + 1 := by omega
  have HLK : Hid (∀ wv, Below Xw.heap.size Xw wv → (Instr.lookup 182 (.map (some bn)) (stV (x2, c2)) false).run Tryz.prog wv = .ok (.bool (decide ((x2, c2) ∈ N))) wv) := fun wv hb => (HNX.out.keep (hb.block bn ln)).look (x2, c2) HTY.out
  dsimp only [stV, stC] at HLK; clear hT hI hX hx hr hy
  gi_wp2
  refine HavG.wpIn_region_tail (R := RelB) [(0,false),(1,false),(2,false),(3,false),(4,false),(5,false)] [] (fun _ _ => False) (by kernel_rfl) (by kernel_rfl) (by kernel_rfl) (fun _ _ _ _ h => h.elim) ?_
  (apply HavG.hav_same (by exact ho rfl) (by kernel_rfl); (focus (intro wv hgv _; have hcv := cvB hgv; (try go_simp); try rfl; done)); simp only [Act.put, List.setIfInBounds_toArray, List.set_cons_succ, List.set_cons_zero])
  iterate 4 (apply HavG.hav_same (by exact ho rfl) (by kernel_rfl); (focus (intro wv hgv _; have hcv := cvB hgv; (try go_simp); try rfl; done)); simp only [Act.put, List.setIfInBounds_toArray, List.set_cons_succ, List.set_cons_zero])
  (apply HavG.hav_same (by exact ho rfl) (by kernel_rfl); (focus (intro wv hgv _; have hcv := cvB hgv; have hlk := HLK.out wv hgv; (try go_simp); try rfl; done)); simp only [Act.put, List.setIfInBounds_toArray, List.set_cons_succ, List.set_cons_zero])
  refine HavG.hav_end (fun wz hgz _ => ?_)
  simp only [List.filterMap]; have HBZ : Hid (Below Xw.heap.size Xw wz) := hgz
  have HWZ : Hid (Turn (fun _ => False) w2 wz) := HW.out.trans (Turn.of_below HBZ.out)
  have HTZ : Hid (Turn (fun _ => False) Xw wz) := Turn.of_below HBZ.out
  clear hgz n4 n5 n6 n7 hwr hnn hge
  cases hin : decide ((x2, c2) ∈ N)
  ·have hni : (x2, c2) ∉ N := by simpa using hin
   have HNI : Hid (NoneOf O N (n + 1)) := fun j y hj hy => by
    by_cases ej : j = n
    ·subst ej; rw [HY.out] at hy; cases hy
     exact hni
    ·exact HIN.out j y (by omega) hy
   clear hin hni
   gi_wp2
   exact ⟨HTZ.out, HWZ.out, HNI.out⟩
  ·have hni : (x2, c2) ∈ N := by simpa using hin
   have HNI : Hid (SomeOf O N) := ⟨(x2, c2), List.mem_of_getElem? HY.out, hni⟩; clear hin hni
   gi_wp2
   exact ⟨HTZ.out, HWZ.out, rfl, HNI.out⟩
 case done =>
  rintro D Xw hDe ⟨hT, hI⟩ hD; have HTX := Lib.hid hT; have HIX := Lib.hid hI; have HDX := Lib.hid hD; have HDE := Lib.hid hDe; have HGD : Hid (Blk Xw Bd 3 #[.int .i64 day]) := HRD2.out.turn hT id; have HG4 : Hid (Blk Xw B4 184 (runC ms)) := HRA2.out.turn hT id; have HGX : Hid (Blk Xw w.heap.size 189 #[.int .i64 x, .int .u64 c]) := HX2.out.turn hT id; have n4 : Xw.cell? ⟨Bd, 0, none⟩ = some (.int .i64 day) := HGD.out.cell 0; have n5 : Xw.cell? ⟨w.heap.size, 0, none⟩ = some (.int .i64 x) := HGX.out.cell 0; have n6 : Xw.cell? ⟨w.heap.size, 1, none⟩ = some (.int .u64 c) := HGX.out.cell 1; have n7 : Xw.cell? ⟨B4, day, none⟩ = some (.map (some b)) := by rw [← HMS.out]; exact (HG4.out.cell day).trans (runC_get ms (by have := H3.out; omega))
  have l4 := HGD.out.lt; have l5 := HGX.out.lt; have l7 := HG4.out.lt; have hd11 : (day : Int) < 11 := by omega
  have hd12 : day < 11 := by omega
  clear hT hI hD hDe; go_wp2
  refine HavG.wp_region_havoc (R := RelB) [(0,false),(1,false),(2,false),(3,false)] [4] (fun _ _ => False) (by kernel_rfl) (by kernel_rfl) (fun _ _ _ _ h => h.elim) ?_
  (apply HavG.hav_same (by exact ho rfl) (by kernel_rfl); (focus (intro wv hgv _; have hcv := cvB hgv; (try go_simp); try rfl; done)); simp only [Act.put, List.setIfInBounds_toArray, List.set_cons_succ, List.set_cons_zero])
  iterate 3 (apply HavG.hav_same (by exact ho rfl) (by kernel_rfl); (focus (intro wv hgv _; have hcv := cvB hgv; (try go_simp); try rfl; done)); simp only [Act.put, List.setIfInBounds_toArray, List.set_cons_succ, List.set_cons_zero])
  refine HavG.hav_end (fun wz hgz _ => ?_)
  simp only [List.filterMap]; have HBZ : Hid (Below Xw.heap.size Xw wz) := hgz
  have HMZ : Hid (RanS wz b rg S T) := (HM2.out.turn HTX.out id id).turn (S := fun _ => False) (Turn.of_below HBZ.out) id id
  have HDZ : Hid (wz.heap[D]? = some (.deferred (some []))) := (HBZ.out.block D (Array.getElem?_eq_some_iff.1 HDX.out).1).trans HDX.out; obtain ⟨Y3, hrun, hM3, hg3, hs3⟩ := HMZ.out.drop (x, c) HSS.out HST.out 0; dsimp only [stV, stC] at hrun; have hrgb : rg ≠ b := HM.out.ne.1
  have HP : Hid (BckPost r by_ day (x, c) S T N b rg w ds (markD D :: ds) Y3) := by
   have hbz : b < wz.heap.size := HMZ.out.lt_map; have hDb : D ≠ b := by have := HDE.out; omega
   refine ⟨((Turn.of_below HB2.out).trans ((HTX.out.trans (Turn.of_below HBZ.out)).mono (fun _ h => h.elim))).trans (Turn.of_grown hg3 (fun q e _ => by cases e; rfl)), ⟨_, hM3, fun z => ?_⟩, D, by have := HDE.out; have := HB2.out.size; omega, (hg3.block D (Array.getElem?_eq_some_iff.1 HDZ.out).1 (fun e => hDb (Option.some.inj e))).trans HDZ.out, rfl⟩
   obtain ⟨_, D0, _, _, _, hD0, _⟩ := HM.out; rw [hD0.nd.mem_erase_iff]; constructor
   ·rintro ⟨q1, q2⟩
    exact ⟨q2, fun e => absurd e q1⟩
   ·rintro ⟨q1, q2⟩
    refine ⟨fun e => ?_, q1⟩
    obtain ⟨y, q3, q4⟩ := q2 e; rw [← HOE.out] at q3; obtain ⟨j, hj⟩ := List.getElem?_of_mem q3; exact HIX.out j y (by rw [List.length_map]; exact (List.getElem?_eq_some_iff.1 hj).1) hj q4
  clear hM3 hg3 hs3 n4 n5 n6 n7 hgz; go_wp2; exact HQ.out _ _ _ _ _ _ _ _ _ _ _ _ _ _ _ _ _ _ _ _ _ _ _ _ HP.out
 case stop =>
  rintro D cd Xw hDe ⟨hT, rfl, hI⟩ hD
  have HP : Hid (BckPost r by_ day (x, c) S T N b rg w ds (markD D :: ds) Xw) := by
   refine ⟨(Turn.of_below HB2.out).trans (hT.mono (fun _ h => h.elim)), ⟨S, HM2.out.turn hT id id, fun z => ⟨fun q => ⟨q, fun _ => ?_⟩, fun q => q.1⟩⟩, D, by have := HB2.out.size; omega, hD, rfl⟩
   obtain ⟨y, q1, q2⟩ := hI; exact ⟨y, by rw [← HOE.out]; exact q1, q2⟩
  clear hT hI hD hDe
  gi_wp2
  exact HQ.out _ _ _ _ _ _ _ _ _ _ _ _ _ _ _ _ _ _ _ _ _ _ _ _ HP.out
end
end Go.Proofs.YtgmfhngcehkibaaGreat
namespace Go.Proofs.YtgmfhngcehkibaaGreat
open Go.RowKit Go.Hav Go.Shelf Go.Sq
attribute [local go_sem] Oper.semAt_some
theorem Marks.turn {B : Nat} {S : Nat → Prop} {X Y : World} {ds : List Deferred} (h : Marks B X ds) (t : Turn S X Y) (hs : ∀ D, S D → X.heap[D]? ≠ some (.deferred (some []))) : Marks B Y ds :=
 h.keep fun D _ hd => (t.block D (Array.getElem?_eq_some_iff.1 hd).1 (fun e => hs D e hd)).trans hd
theorem MapS.no_mark {w : World} {b : Nat} {S : List St} (h : MapS w b S) (r : Option (List Deferred)) : w.heap[b]? ≠ some (.deferred r) := by
 obtain ⟨D, ⟨es, clock, hb, _⟩, _⟩ := h; rw [hb]
 exact fun e => by cases e
theorem RanS.no_mark {w : World} {b g : Nat} {S T : List St} (h : RanS w b g S T) (r : Option (List Deferred)) : w.heap[g]? ≠ some (.deferred r) := by
 obtain ⟨_, _, _, _, ⟨es, clock, since, seen, c0, _, _, _, _, q5, _⟩, _⟩ := h; rw [q5]
 exact fun e => by cases e
theorem RanS.ne_blk {w : World} {b rg : Nat} {S T : List St} (h : RanS w b rg S T) {g : Nat} {t : TypeId} {cs : Array Value} (hg : Blk w g t cs) : rg ≠ g := by
 rintro rfl; obtain ⟨_, _, _, _, ⟨es, clock, since, seen, c0, _, _, _, _, q5, _⟩, _⟩ := h; rw [show w.heap[rg]? = _ from hg] at q5
 cases q5
theorem RanS.sub {w : World} {b rg : Nat} {S T : List St} (h : RanS w b rg S T) : T.Nodup ∧ (∀ s ∈ T, s ∈ S) ∧ S.Nodup := by
 obtain ⟨_, D, _, _, _, hD, h1, h2, _⟩ := h; exact ⟨h1, h2, hD.nd⟩
theorem Marks.add {B : Nat} {S : Nat → Prop} {X Y : World} {ds : List Deferred} (h : Marks B X ds) (t : Turn S X Y) (hs : ∀ D, S D → X.heap[D]? ≠ some (.deferred (some []))) (hB : B ≤ X.heap.size) {D : Nat} (hD : X.heap.size ≤ D) (hY : Y.heap[D]? = some (.deferred (some []))) : Marks B Y (markD D :: ds) := by
 refine (h.turn t hs).cons (by omega) hY fun l hl hm => ?_
 obtain ⟨l', e1, _, e3⟩ := h
 have : l = l' := by
  have e : l.map markD = l'.map markD := hl.symm.trans e1
  exact List.map_inj_right (fun a b hab => by simpa [markD] using hab) |>.1 e
 subst this; have := (Array.getElem?_eq_some_iff.1 (e3 D hm).2).1
 omega
section
variable {B d k : Nat} {fa la : Option Addr} {fl fc ll lc : Nat} {r : Riv}
structure FwdInv (r : Riv) (by_ looks day : Nat) (B0 b bn rg : Nat) (Sp T : List St) (w : World) (ds : List Deferred) (wr : World) : Prop where
 t : Turn (fun x => x = bn ∨ x = rg) w wr
 ran : RanS wr b rg Sp T
 map : ∃ S', MapS wr bn S' ∧ ∀ x, x ∈ S' ↔ ∃ s, s ∈ Sp ∧ s ∉ T ∧ x ∈ next r by_ day s ∧ fits r looks day x.1 = true
 mrk : Marks B0 wr ds
theorem fwdR_any (hv : r.Good) {w0 w : World} {B2 B3 B4 Bd by_ looks day b bn rg : Nat} {ms : Nat → Option Nat} {Sp : List St} (hD : GauIn w0 B d k fa fl fc la ll lc r) (hR : RunB w0 w B2 B3 B4 d by_ looks ms) (hday : Blk w Bd 3 #[.int .i64 day]) (hms : ms day = some bn) (hM : RanS w b rg Sp Sp) (hN : MapS w bn []) (hbn : b ≠ bn) (hrn : rg ≠ bn) (hbB : w0.heap.size ≤ bn) (hrB : w0.heap.size ≤ rg) (hB0 : B ≤ w0.heap.size)
  (h1 : by_ < 1000) (h2 : looks < 1000) (h3 : day ≤ 10) (hs : ∀ s ∈ Sp, s.1 ≤ 1000 ∧ s.2 < 8)
  {ds : List Deferred} (hmk : Marks w0.heap.size w ds) {Q : Exit → Act → World → Prop} {c0 c1 c5 c6 c7 c8 c10 c11 c12 c13 c14 c15 c16 c17 c18 c19 c20 c21 c22 c23 c24 c25 c26 c27 c28 c29 c30 c31 c32 c33 c34 c35 c36 c37 c38 c39 c40 c41 c42 c43 c44 c45 c46 c47 c48 c49 c50 c51 c52 c53 c54 c55 c56 c57 c58 c59 c60 c61 c62 c63 c64 c65 c66 c67 c68 c69 c71 c72 c73 c74 c75 c76 c77 c78 c79 c80 c81 c82 c83 c84 c85 c86 c87 c88 c89 c90 c91 c92 c93 c94 c95 c96 c97 c98 c99 c100 c101 c102 c103 c104 c105 c106 c107 c108 c109 c110 c111 c112 c113 c114 c115 c116 c117 c118 c119 c120 c121 c122 c123 c124 c125 c126 c127 c128 c129 c130 c131 c132 c133 c134 c135 c136 : Value}
  (HQ : Hid (∀ (u10 u11 u71 u72 u73 u74 u75 u76 u77 u78 u79 u80 u81 u82 u83 u84 u85 u86 u87 u88 u89 u90 u91 : Value) (ds' : List Deferred) (w' : World), FwdInv r by_ looks day w0.heap.size b bn rg Sp [] w ds' w' → Q .normal ⟨(c0::c1::(.pointer (some ⟨B2, 0, none⟩))::(.pointer (some ⟨B3, 0, none⟩))::(.pointer (some ⟨B4, 0, none⟩))::c5::c6::c7::c8::(.pointer (some ⟨Bd, 0, none⟩))::u10::u11::c12::c13::c14::c15::c16::c17::c18::c19::c20::c21::c22::c23::c24::c25::c26::c27::c28::c29::c30::c31::c32::c33::c34::c35::c36::c37::c38::c39::c40::c41::c42::c43::c44::c45::c46::c47::c48::c49::c50::c51::c52::c53::c54::c55::c56::c57::c58::c59::c60::c61::c62::c63::c64::c65::c66::c67::c68::c69::(.pointer (some ⟨rg, 0, none⟩))::u71::u72::u73::u74::u75::u76::u77::u78::u79::u80::u81::u82::u83::u84::u85::u86::u87::u88::u89::u90::u91::c92::c93::c94::c95::c96::c97::c98::c99::c100::c101::c102::c103::c104::c105::c106::c107::c108::c109::c110::c111::c112::c113::c114::c115::c116::c117::c118::c119::c120::c121::c122::c123::c124::c125::c126::c127::c128::c129::c130::c131::c132::c133::c134::c135::c136::[]).toArray, ds'⟩ w')) :
  Code.wp Tryz.prog fwdR Q ⟨(c0::c1::(.pointer (some ⟨B2, 0, none⟩))::(.pointer (some ⟨B3, 0, none⟩))::(.pointer (some ⟨B4, 0, none⟩))::c5::c6::c7::c8::(.pointer (some ⟨Bd, 0, none⟩))::c10::c11::c12::c13::c14::c15::c16::c17::c18::c19::c20::c21::c22::c23::c24::c25::c26::c27::c28::c29::c30::c31::c32::c33::c34::c35::c36::c37::c38::c39::c40::c41::c42::c43::c44::c45::c46::c47::c48::c49::c50::c51::c52::c53::c54::c55::c56::c57::c58::c59::c60::c61::c62::c63::c64::c65::c66::c67::c68::c69::(.pointer (some ⟨rg, 0, none⟩))::c71::c72::c73::c74::c75::c76::c77::c78::c79::c80::c81::c82::c83::c84::c85::c86::c87::c88::c89::c90::c91::c92::c93::c94::c95::c96::c97::c98::c99::c100::c101::c102::c103::c104::c105::c106::c107::c108::c109::c110::c111::c112::c113::c114::c115::c116::c117::c118::c119::c120::c121::c122::c123::c124::c125::c126::c127::c128::c129::c130::c131::c132::c133::c134::c135::c136::[]).toArray, ds⟩ w := by
 conv => arg 2; whnf
 refine wp_block ?_
 refine wp_loop_ghost (fun n a' wr => ∃ (u10 u11 u71 u72 u73 u74 u75 u76 u77 u78 u79 u80 u81 u82 u83 u84 u85 u86 u87 u88 u89 u90 u91 : Value) (ds' : List Deferred) (T : List St), (T.length = n ∧ FwdInv r by_ looks day w0.heap.size b bn rg Sp T w ds' wr) ∧ a' = ⟨(c0::c1::(.pointer (some ⟨B2, 0, none⟩))::(.pointer (some ⟨B3, 0, none⟩))::(.pointer (some ⟨B4, 0, none⟩))::c5::c6::c7::c8::(.pointer (some ⟨Bd, 0, none⟩))::u10::u11::c12::c13::c14::c15::c16::c17::c18::c19::c20::c21::c22::c23::c24::c25::c26::c27::c28::c29::c30::c31::c32::c33::c34::c35::c36::c37::c38::c39::c40::c41::c42::c43::c44::c45::c46::c47::c48::c49::c50::c51::c52::c53::c54::c55::c56::c57::c58::c59::c60::c61::c62::c63::c64::c65::c66::c67::c68::c69::(.pointer (some ⟨rg, 0, none⟩))::u71::u72::u73::u74::u75::u76::u77::u78::u79::u80::u81::u82::u83::u84::u85::u86::u87::u88::u89::u90::u91::c92::c93::c94::c95::c96::c97::c98::c99::c100::c101::c102::c103::c104::c105::c106::c107::c108::c109::c110::c111::c112::c113::c114::c115::c116::c117::c118::c119::c120::c121::c122::c123::c124::c125::c126::c127::c128::c129::c130::c131::c132::c133::c134::c135::c136::[]).toArray, ds'⟩) Sp.length ?_ ?_
 ·exact ⟨_, _, _, _, _, _, _, _, _, _, _, _, _, _, _, _, _, _, _, _, _, _, _, ds, Sp, ⟨rfl, Turn.refl _ _, hM, ⟨[], hN, fun x => ⟨fun h => by simp at h, fun ⟨s, q1, q2, _⟩ => absurd q1 q2⟩⟩, hmk⟩, rfl⟩
 ·rintro n a wr ⟨u10, u11, u71, u72, u73, u74, u75, u76, u77, u78, u79, u80, u81, u82, u83, u84, u85, u86, u87, u88, u89, u90, u91, ds', T, ⟨hn, hI⟩, rfl⟩; rcases hI.ran.next 0 with ⟨hT, hrun⟩ | ⟨s, w1, hsT, hrun, hr1, hg1, hs1, hen⟩
  ·have HP : Hid (FwdInv r by_ looks day w0.heap.size b bn rg Sp [] w ds' wr) := by rw [← hT]; exact hI
   clear hI hT hn hD hR hday hms hM hN hs hmk hbn; go_wp2; exact HQ.out _ _ _ _ _ _ _ _ _ _ _ _ _ _ _ _ _ _ _ _ _ _ _ ds' wr HP.out
  ·go_upto_block 5 with (fail)
   obtain ⟨S', hM', hS'⟩ := hI.map
   have t1 : Turn (fun x => x = bn ∨ x = rg) w w1 := hI.t.trans (Turn.of_grown hg1 (fun q e _ => by cases e; exact .inr rfl))
   have no : ∀ {g : Nat} {t : TypeId} {cs : Array Value}, Blk w g t cs → bn ≠ g ∧ rg ≠ g := fun hg => ⟨hN.ne_blk hg, hM.ne_blk hg⟩
   have HR1 : RunB w0 w1 B2 B3 B4 d by_ looks ms := hR.turn t1 fun x h => ⟨by rcases h with rfl | rfl <;> assumption, by
    rcases h with rfl | rfl
    ·exact (no hR.g).1
    ·exact (no hR.g).2, by
    rcases h with rfl | rfl
    ·exact (no hR.q).1
    ·exact (no hR.q).2, by
    rcases h with rfl | rfl
    ·exact (no hR.a).1
    ·exact (no hR.a).2⟩
   have hday1 : Blk w1 Bd 3 #[.int .i64 day] := hday.turn t1 (fun h => h.elim (fun e => (no hday).1 e.symm) (fun e => (no hday).2 e.symm))
   have hg1' : Turn (fun x => x = rg) wr w1 := Turn.of_grown hg1 (fun q e _ => by cases e; rfl)
   have hM1 : MapS w1 bn S' := hM'.turn hg1' (fun e => hrn (show bn = rg from e).symm)
   have hmk1 : Marks w0.heap.size w1 ds' := hI.mrk.turn hg1' (fun D e => by obtain rfl : D = rg := e; exact hI.ran.no_mark _)
   obtain ⟨hTn, hTS, _⟩ := hI.ran.sub; have hsz1 : w0.heap.size ≤ w1.heap.size := HR1.b.size; refine wp_block (fwdS_any hv hD HR1 hday1 hms hM1 hbB hB0 hen h1 h2 h3 (hs s (hTS s hsT)) (Lib.hid ?_)); rintro v10 v11 v73 v74 v75 v76 v77 v78 v79 v80 v81 v82 v83 v84 v85 v86 v87 v88 v89 v90 v91 ds2 w2 ⟨t2, ⟨S2, hM2, hS2⟩, D, hD1, hD2, rfl⟩
   refine Exists.intro (T.erase s).length ⟨by rw [List.length_erase_of_mem hsT]; have := List.length_pos_of_mem hsT; omega, _, _, _, _, _, _, _, _, _, _, _, _, _, _, _, _, _, _, _, _, _, _, _, _, T.erase s, ⟨rfl, t1.trans (t2.mono fun _ => .inl), hr1.turn t2 hbn hrn, ⟨S2, hM2, fun x => ?_⟩, hmk1.add t2 (fun D e => by obtain rfl : D = bn := e; exact hM1.no_mark _) hsz1 hD1 hD2⟩, rfl⟩
   rw [hS2 x, hS' x]; constructor
   ·rintro (⟨s0, q1, q2, q3⟩ | q)
    ·exact ⟨s0, q1, fun h => q2 ((hTn.mem_erase_iff.1 h).2), q3⟩
    ·exact ⟨s, hTS s hsT, fun h => (hTn.mem_erase_iff.1 h).1 rfl, q⟩
   ·rintro ⟨s0, q1, q2, q3⟩
    by_cases e : s0 = s
    ·subst e; exact .inr q3
    ·exact .inl ⟨s0, q1, fun h => q2 (hTn.mem_erase_iff.2 ⟨e, h⟩), q3⟩
end
end Go.Proofs.YtgmfhngcehkibaaGreat
namespace Go.Proofs.YtgmfhngcehkibaaGreat
open Go.RowKit Go.Hav Go.Shelf Go.Sq
attribute [local go_sem] Oper.semAt_some
section
variable {B d k : Nat} {fa la : Option Addr} {fl fc ll lc : Nat} {r : Riv}
structure BckInv (r : Riv) (by_ day : Nat) (B0 b rg : Nat) (S0 T N : List St) (w : World) (ds : List Deferred) (wr : World) : Prop where
 t : Turn (fun x => x = b ∨ x = rg) w wr
 ran : ∃ S', RanS wr b rg S' T ∧ ∀ x, x ∈ S' ↔ x ∈ S0 ∧ (x ∈ T ∨ ∃ y, y ∈ next r by_ (day + 1) x ∧ y ∈ N)
 mrk : Marks B0 wr ds
theorem bckR_any (hv : r.Good) {w0 w : World} {B2 B3 B4 Bd by_ looks day b bn rg : Nat} {ms : Nat → Option Nat} {S0 N : List St} (hD : GauIn w0 B d k fa fl fc la ll lc r) (hR : RunB w0 w B2 B3 B4 d by_ looks ms) (hday : Blk w Bd 3 #[.int .i64 day]) (hms : ms day = some b) (hmn : ms (day + 1) = some bn) (hM : RanS w b rg S0 S0) (hN : MapS w bn N) (hbn : b ≠ bn) (hrn : rg ≠ bn) (hbB : w0.heap.size ≤ b) (hrB : w0.heap.size ≤ rg)
  (h1 : by_ < 1000) (h3 : day < 10) (hs : ∀ s ∈ S0, s.1 ≤ 1000 ∧ s.2 < 8)
  {ds : List Deferred} (hmk : Marks w0.heap.size w ds) {Q : Exit → Act → World → Prop} {c0 c1 c5 c6 c7 c8 c9 c10 c11 c13 c14 c15 c16 c17 c18 c19 c20 c21 c22 c23 c24 c25 c26 c27 c28 c29 c30 c31 c32 c33 c34 c35 c36 c37 c38 c39 c40 c41 c42 c43 c44 c45 c46 c47 c48 c49 c50 c51 c52 c53 c54 c55 c56 c57 c58 c59 c60 c61 c62 c63 c64 c65 c66 c67 c68 c69 c70 c71 c72 c73 c74 c75 c76 c77 c78 c79 c80 c81 c82 c83 c84 c85 c86 c87 c88 c89 c90 c91 c92 c93 c94 c95 c96 c97 c98 c99 c100 c101 c102 c103 c104 c105 c107 c108 c109 c110 c111 c112 c113 c114 c115 c116 c117 c118 c119 c120 c121 c122 c123 c124 c125 c126 c127 c128 c129 c130 c131 c132 c133 c134 c135 c136 : Value}
  (HQ : Hid (∀ (u13 u14 u107 u108 u109 u110 u111 u112 u113 u114 u115 u116 u117 u118 u119 u120 u121 u122 u123 u124 u125 u126 u127 u128 : Value) (ds' : List Deferred) (w' : World), BckInv r by_ day w0.heap.size b rg S0 [] N w ds' w' → Q .normal ⟨(c0::c1::(.pointer (some ⟨B2, 0, none⟩))::(.pointer (some ⟨B3, 0, none⟩))::(.pointer (some ⟨B4, 0, none⟩))::c5::c6::c7::c8::c9::c10::c11::(.pointer (some ⟨Bd, 0, none⟩))::u13::u14::c15::c16::c17::c18::c19::c20::c21::c22::c23::c24::c25::c26::c27::c28::c29::c30::c31::c32::c33::c34::c35::c36::c37::c38::c39::c40::c41::c42::c43::c44::c45::c46::c47::c48::c49::c50::c51::c52::c53::c54::c55::c56::c57::c58::c59::c60::c61::c62::c63::c64::c65::c66::c67::c68::c69::c70::c71::c72::c73::c74::c75::c76::c77::c78::c79::c80::c81::c82::c83::c84::c85::c86::c87::c88::c89::c90::c91::c92::c93::c94::c95::c96::c97::c98::c99::c100::c101::c102::c103::c104::c105::(.pointer (some ⟨rg, 0, none⟩))::u107::u108::u109::u110::u111::u112::u113::u114::u115::u116::u117::u118::u119::u120::u121::u122::u123::u124::u125::u126::u127::u128::c129::c130::c131::c132::c133::c134::c135::c136::[]).toArray, ds'⟩ w')) :
  Code.wp Tryz.prog bckR Q ⟨(c0::c1::(.pointer (some ⟨B2, 0, none⟩))::(.pointer (some ⟨B3, 0, none⟩))::(.pointer (some ⟨B4, 0, none⟩))::c5::c6::c7::c8::c9::c10::c11::(.pointer (some ⟨Bd, 0, none⟩))::c13::c14::c15::c16::c17::c18::c19::c20::c21::c22::c23::c24::c25::c26::c27::c28::c29::c30::c31::c32::c33::c34::c35::c36::c37::c38::c39::c40::c41::c42::c43::c44::c45::c46::c47::c48::c49::c50::c51::c52::c53::c54::c55::c56::c57::c58::c59::c60::c61::c62::c63::c64::c65::c66::c67::c68::c69::c70::c71::c72::c73::c74::c75::c76::c77::c78::c79::c80::c81::c82::c83::c84::c85::c86::c87::c88::c89::c90::c91::c92::c93::c94::c95::c96::c97::c98::c99::c100::c101::c102::c103::c104::c105::(.pointer (some ⟨rg, 0, none⟩))::c107::c108::c109::c110::c111::c112::c113::c114::c115::c116::c117::c118::c119::c120::c121::c122::c123::c124::c125::c126::c127::c128::c129::c130::c131::c132::c133::c134::c135::c136::[]).toArray, ds⟩ w := by
 conv => arg 2; whnf
 refine wp_block ?_
 refine wp_loop_ghost (fun n a' wr => ∃ (u13 u14 u107 u108 u109 u110 u111 u112 u113 u114 u115 u116 u117 u118 u119 u120 u121 u122 u123 u124 u125 u126 u127 u128 : Value) (ds' : List Deferred) (T : List St), (T.length = n ∧ BckInv r by_ day w0.heap.size b rg S0 T N w ds' wr) ∧ a' = ⟨(c0::c1::(.pointer (some ⟨B2, 0, none⟩))::(.pointer (some ⟨B3, 0, none⟩))::(.pointer (some ⟨B4, 0, none⟩))::c5::c6::c7::c8::c9::c10::c11::(.pointer (some ⟨Bd, 0, none⟩))::u13::u14::c15::c16::c17::c18::c19::c20::c21::c22::c23::c24::c25::c26::c27::c28::c29::c30::c31::c32::c33::c34::c35::c36::c37::c38::c39::c40::c41::c42::c43::c44::c45::c46::c47::c48::c49::c50::c51::c52::c53::c54::c55::c56::c57::c58::c59::c60::c61::c62::c63::c64::c65::c66::c67::c68::c69::c70::c71::c72::c73::c74::c75::c76::c77::c78::c79::c80::c81::c82::c83::c84::c85::c86::c87::c88::c89::c90::c91::c92::c93::c94::c95::c96::c97::c98::c99::c100::c101::c102::c103::c104::c105::(.pointer (some ⟨rg, 0, none⟩))::u107::u108::u109::u110::u111::u112::u113::u114::u115::u116::u117::u118::u119::u120::u121::u122::u123::u124::u125::u126::u127::u128::c129::c130::c131::c132::c133::c134::c135::c136::[]).toArray, ds'⟩) S0.length ?_ ?_
 ·exact ⟨_, _, _, _, _, _, _, _, _, _, _, _, _, _, _, _, _, _, _, _, _, _, _, _, ds, S0, ⟨rfl, Turn.refl _ _, ⟨S0, hM, fun x => ⟨fun h => ⟨h, .inl h⟩, fun h => h.1⟩⟩, hmk⟩, rfl⟩
 ·rintro n a wr ⟨u13, u14, u107, u108, u109, u110, u111, u112, u113, u114, u115, u116, u117, u118, u119, u120, u121, u122, u123, u124, u125, u126, u127, u128, ds', T, ⟨hn, hI⟩, rfl⟩; obtain ⟨S', hrS, hS'⟩ := hI.ran; rcases hrS.next 0 with ⟨hT, hrun⟩ | ⟨s, w1, hsT, hrun, hr1, hg1, hs1, hen⟩
  ·have HP : Hid (BckInv r by_ day w0.heap.size b rg S0 [] N w ds' wr) := by rw [← hT]; exact hI
   clear hI hT hn hD hR hday hms hM hN hs hmk hbn hrS hS'; go_wp2; exact HQ.out _ _ _ _ _ _ _ _ _ _ _ _ _ _ _ _ _ _ _ _ _ _ _ _ ds' wr HP.out
  ·go_upto_block 11 with (fail)
   have t1 : Turn (fun x => x = b ∨ x = rg) w w1 := hI.t.trans (Turn.of_grown hg1 (fun q e _ => by cases e; exact .inr rfl))
   have no : ∀ {g : Nat} {t : TypeId} {cs : Array Value}, Blk w g t cs → b ≠ g ∧ rg ≠ g := fun hg => ⟨hM.owns.ne_blk hg, hM.ne_blk hg⟩
   have HR1 : RunB w0 w1 B2 B3 B4 d by_ looks ms := hR.turn t1 fun x h => ⟨by rcases h with rfl | rfl <;> assumption, by
    rcases h with rfl | rfl
    ·exact (no hR.g).1
    ·exact (no hR.g).2, by
    rcases h with rfl | rfl
    ·exact (no hR.q).1
    ·exact (no hR.q).2, by
    rcases h with rfl | rfl
    ·exact (no hR.a).1
    ·exact (no hR.a).2⟩
   have hday1 : Blk w1 Bd 3 #[.int .i64 day] := hday.turn t1 (fun h => h.elim (fun e => (no hday).1 e.symm) (fun e => (no hday).2 e.symm))
   have hg1' : Turn (fun x => x = rg) wr w1 := Turn.of_grown hg1 (fun q e _ => by cases e; rfl)
   have hN1 : MapS w1 bn N := hN.turn t1 (fun h => h.elim (fun e => hbn (show bn = b from e).symm) (fun e => hrn (show bn = rg from e).symm))
   have hmk1 : Marks w0.heap.size w1 ds' := hI.mrk.turn hg1' (fun D e => by obtain rfl : D = rg := e; exact hrS.no_mark _)
   obtain ⟨hTn, hTS, _⟩ := hrS.sub; have hsS : s ∈ S0 := ((hS' s).1 (hTS s hsT)).1; have hsz1 : w0.heap.size ≤ w1.heap.size := HR1.b.size
   refine bckS_any hv hD HR1 hday1 hms hmn hr1 hN1 hbn hen h1 h3 (hs s hsS) (hTS s hsT) (fun h => (hTn.mem_erase_iff.1 h).1 rfl) (Lib.hid ?_)
   rintro v13 v14 v109 v110 v111 v112 v113 v114 v115 v116 v117 v118 v119 v120 v121 v122 v123 v124 v125 v126 v127 v128 ds2 w2 ⟨t2, ⟨S2, hM2, hS2⟩, D, hD1, hD2, rfl⟩
   refine Exists.intro (T.erase s).length ⟨by rw [List.length_erase_of_mem hsT]; have := List.length_pos_of_mem hsT; omega, _, _, _, _, _, _, _, _, _, _, _, _, _, _, _, _, _, _, _, _, _, _, _, _, _, T.erase s, ⟨rfl, t1.trans (t2.mono fun _ => .inl), ⟨S2, hM2, fun x => ?_⟩, hmk1.add t2 (fun D e => by obtain rfl : D = b := e; exact hr1.owns.no_mark _) hsz1 hD1 hD2⟩, rfl⟩
   rw [hS2 x, hS' x]; constructor
   ·rintro ⟨⟨q1, q2⟩, q3⟩; refine ⟨q1, ?_⟩
    by_cases e : x = s
    ·right
     have := q3 e
     rwa [e]
    ·exact q2.imp (fun h => hTn.mem_erase_iff.2 ⟨e, h⟩) id
   ·rintro ⟨q1, q2⟩
    refine ⟨⟨q1, q2.imp (fun h => (hTn.mem_erase_iff.1 h).2) id⟩, fun e => ?_⟩
    rcases q2 with q2 | q2
    ·exact absurd e (hTn.mem_erase_iff.1 q2).1
    ·rwa [e] at q2
end
end Go.Proofs.YtgmfhngcehkibaaGreat
