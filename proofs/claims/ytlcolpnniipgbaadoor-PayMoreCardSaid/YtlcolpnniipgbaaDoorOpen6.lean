/- The walk of open, where all is valid: the desk, with its map filled. -/
import Derived.Test.YtlcolpnniipgbaaDoorOpen5
import Derived.RangeFuncNested
namespace Go
open Go.RowKit
/-- A range over a function whose second loop variable is boxed: what the frame is like behind the assignment is told by G, out of the frame ahead of the loop. -/
theorem wpIn_rangeFunc_box {F : Fence} {n : Nat} {P : Program} {α : Type} {g : Operand} {ps : Array Tmp} {assign body : Code} {Q : Exit → Act → World → Prop} {a : Act} {w : World}
    (hro : F.round = none) (h1 : 1 ≤ n) {gf : Nat} {lb : Array Value} (hg : a.eval g = .func (.func gf) #[] lb) (hFg : F.fn gf) (eg : ∀ args w, (callFunc gf args).run P w = .ok (.enter gf args) w)
    {encs : α → Array Value} {Kp : World → World → Prop} {S Sp : List α → Prop} {N : Nat} {w0 : World} (hseq : SeqStopsK F (n - 1) P gf lb encs Kp S Sp N w0)
    (hKt : ∀ {A B C : World}, Kp A B → Kp B C → Kp A C) (hKb : ∀ (W : World) (l : Nat) (o o' : Obj), w.heap.size ≤ l → W.heap[l]? = some o → o.isCells = false → o.isWalk = false → Kp W (W.putObj l o')) (hb0 : Below w0.heap.size w0 w) (hps : ∀ x, (encs x).size = ps.size)
    (I : List α → World → Prop) (Ix : Code → List α → World → Prop) (hI : OwnFrom w.heap.size I) (hIx : ∀ c, OwnFrom w.heap.size (Ix c)) (h0 : I [] w) (t : TypeId) (cs : α → Array Value) (G : α → Nat → Array Value → Array Value)
    (hassign : ∀ (l : Nat) (pre : List α) (x : α) (W : World) (K : Act → World → Prop), I pre W → (∀ Bx W', w.heap.size ≤ Bx → KeepsFrom w.heap.size W W' → Kp W W' → I pre W' → W'.heap[Bx]? = some (.cells (cs x) t (0, 0)) → K { tmps := G x Bx a.tmps, defers := [] } W') →
      assign.wpIn (F.inRound l) (n - 1 - 1) P (Exit.then K (fun _ _ _ => False)) { tmps := (ps.zip (encs x)).foldl (fun t (p, v) => t.setIfInBounds p v) a.tmps, defers := [] } W)
    (hbody : ∀ (l : Nat) (pre : List α) (x : α) (Bx : Nat) (W : World), w.heap.size ≤ Bx → I pre W → W.heap[Bx]? = some (.cells (cs x) t (0, 0)) → pre.length < N → body.wpIn (F.inRound l) (n - 1 - 1) P (ownPostG w.heap.size Kp I Ix (pre ++ [x]) W) { tmps := G x Bx a.tmps, defers := [] } W)
    (hdone : ∀ (D : Nat) (xs : List α) (W : World), w.heap.size ≤ D → S xs → I xs W → W.heap[D]? = some (.deferred (some [])) → Q .normal { a with defers := { target := .collected D, args := #[] } :: a.defers } W)
    (hstop : ∀ (D : Nat) (c : Code) (pre : List α) (W : World), w.heap.size ≤ D → Sp pre → Ix c pre W → W.heap[D]? = some (.deferred (some [])) → c.wpIn F n P Q { a with defers := { target := .collected D, args := #[] } :: a.defers } W) :
    (Code.rangeFunc g ps assign body).wpIn F n P Q a w :=
  wpIn_rangeFunc_ownH hro h1 hg hFg eg hseq hKt hKb hb0 hps I Ix hI hIx h0
    (fun x a' W => ∃ Bx, w.heap.size ≤ Bx ∧ W.heap[Bx]? = some (.cells (cs x) t (0, 0)) ∧ a' = { tmps := G x Bx a.tmps, defers := [] })
    (fun x a' _ X Y row hs hg' hr => by
      obtain ⟨Bx, h1, h2, h3⟩ := hs
      refine ⟨Bx, h1, (hg'.block Bx (Array.getElem?_eq_some_iff.1 h2).1 (fun e => ?_)).trans h2, h3⟩
      obtain ⟨_, o, ho, hc⟩ := hr Bx e.symm
      rw [h2] at ho; cases ho; cases hc)
    (fun l pre x W K hi hK => hassign l pre x W K hi fun Bx W' hb hk hkp hi' hx => hK _ W' hk hkp hi' ⟨Bx, hb, hx, rfl⟩)
    (fun l pre x a' W _ _ hi ⟨Bx, hb, hx, he⟩ hlt => by subst he; exact hbody l pre x Bx W hb hi hx hlt)
    hdone hstop
end Go
namespace Go.Proofs.YtlcolpnniipgbaaDoor
open Go.RowKit Go.Hav Go.Shelf
attribute [local go_sem] Oper.semAt_some
theorem MapF.grown {w w' : World} {r N : Nat} {f : Int → Int → Int} (h : MapF w r N f) {row : Option Nat} (hb : w.grownBy w' row) (hr : some r ≠ row) : MapF w' r N f := by
  have hlt := h.lt
  obtain ⟨D, ⟨es, clock, hh, hF, hs, hD⟩, hl⟩ := h
  exact ⟨D, ⟨es, clock, (hb.block r hlt hr).trans hh, hF, hs, hD⟩, hl⟩
theorem KpR.grown {r n₁ : Nat} {W X Y : World} (h : KpR r n₁ W X) (hn : n₁ ≤ X.heap.size) {row : Option Nat} (hb : X.grownBy Y row) (hr : ∀ k, row = some k → n₁ ≤ k ∨ k = r) : KpR r n₁ W Y := fun b h1 h2 =>
  (hb.block b (by omega) (fun e => by rcases hr b e.symm with h | h <;> omega)).trans (h b h1 h2)
theorem KpR.ofBelow {r n₁ : Nat} {W W' : World} (h : Below n₁ W W') : KpR r n₁ W W' := fun b h1 _ => h.block b h1
/-- Between two rounds: what the map holds; all else that lay is as it was. -/
def OpenI (W0 : World) (r : Nat) (pre : List It) (W : World) : Prop := (∃ N, N ≤ pre.length ∧ MapF W r N (foldF pre)) ∧ (KpR r W0.heap.size W0 W ∧ W0.heap.size ≤ W.heap.size) ∧ Below r W0 W
theorem OpenI.own (W0 : World) (r : Nat) (hr : r < W0.heap.size) : OwnFrom W0.heap.size (OpenI W0 r) := by
  rintro pre X Y row ⟨⟨N, hN, hm⟩, ⟨hk, hs⟩, hb⟩ hg hrow
  exact ⟨⟨N, hN, hm.grown hg (fun e => by have := (hrow r e.symm).1; omega)⟩, ⟨hk.grown hs hg (fun k e => .inl (hrow k e).1), Nat.le_trans hs hg.size⟩, ownFrom_below (β := Unit) (by omega) (by omega) () X Y row hb hg hrow⟩
theorem OpenI.below {W0 : World} {r : Nat} (hr : r < W0.heap.size) {pre : List It} {X Y : World} (h : OpenI W0 r pre X) (hb : Below W0.heap.size X Y) : OpenI W0 r pre Y := by
  obtain ⟨⟨N, hN, hm⟩, ⟨hk, hs⟩, hb0⟩ := h
  exact ⟨⟨N, hN, hm.grow hb hr⟩, ⟨KpR.trans hk (KpR.ofBelow hb), Nat.le_trans hs hb.size⟩, hb0.trans (hb.mono (by omega))⟩
theorem KeepsFrom.ofBelow {B : Nat} {X Y : World} (h : Below X.heap.size X Y) : KeepsFrom B X Y := ⟨h.size, fun i _ _ hi _ => (h.block i (Array.getElem?_eq_some_iff.1 hi).1).trans hi⟩
def openG (x : It) (Bx : Nat) (T : Array Value) : Array Value :=
  (((T.setIfInBounds 124 (.int .i64 x.1.1)).setIfInBounds 125 (caV x.1.2)).setIfInBounds 10 (.int .i64 x.1.1)).setIfInBounds 11 (.pointer (some ⟨Bx, 0, none⟩))
section
variable {people rate bill : Int} {ra ca da pa : Option Addr} {rl rc cl cc dl dc pl pc : Nat} {p : PayD}
set_option maxRecDepth 100000 in
set_option maxHeartbeats 6400000 in
theorem open_ok (g : Nat) (cap : Array Value) (eg : ∀ args w, (callFunc g args).run Tryd.prog w = .ok (.enter g args) w) (g1 : 1 ≤ people) (g2 : people ≤ 4) (g3 : 1 ≤ rl) (g4 : rl ≤ 4) (h3 : cl ≤ 12) (g5 : 0 ≤ rate) (g6 : rate ≤ 1000) (g7 : 0 ≤ bill) (g8 : bill ≤ 10000) (h6 : (dl : Int) = people) (h7 : pl ≤ 8) (w : World) (hP : PayIn w w.heap.size people ra rl ca cl rate bill da dl pa pl p)
    (hruns : p.runs.all (spanB · 400) = true) (hdays : p.days.all (inB · 0 10) = true) (hcalls : p.calls.all (callB p) = true) (hpaid : p.paid.all (paidB p) = true) (hg : ∀ wq, Below w.heap.size w wq → DeskIn wq (w.heap.size + 4) (w.heap.size + 1 + 1) (w.heap.size + 1) people ra rl rc ca cl cc rate bill da dl dc pa pl pc p → Calls Tryd.prog g (#[.pointer (some ⟨w.heap.size + 1 + 1, 0, none⟩)] ++ cap) wq fun e w' => e = .returned (.bool true) ∧ Below wq.heap.size wq w') :
    Calls Tryd.prog 42 #[payV people ra rl rc ca cl cc rate bill da dl dc pa pl pc, .func (.func g) #[] cap] w fun e w' => e = .returned (.pointer (some ⟨w.heap.size + 1 + 1, 0, none⟩)) ∧ DeskM w' (w.heap.size + 4) (w.heap.size + 1 + 1) (w.heap.size + 1) people ra rl rc ca cl cc rate bill da dl dc pa pl pc p ∧ Below w.heap.size w w' := by
  have HP := Lib.hid hP
  have HB := Lib.hid hpaid
  have HG := Lib.hid hg
  have HCL := Lib.hid hcalls
  have HE4 := Lib.hid hP.epl
  have HR := Lib.hid hruns
  have HDY := Lib.hid hdays
  have HE := Lib.hid hP.erl
  have HE2 := Lib.hid hP.edl
  have HE3 := Lib.hid hP.ecl
  have h1 : inB people 1 4 = true := by simp [inB]; omega
  have h2 : inB (rl : Int) 1 4 = true := by simp [inB]; omega
  have h4 : inB rate 0 1000 = true := by simp [inB]; omega
  have h5 : inB bill 0 10000 = true := by simp [inB]; omega
  have hd : decide ((pl : Int) ≤ 8) = true := by simp; omega
  have hmm := @run_makeMap Tryd.prog
  clear hP hpaid hg hruns hdays hcalls
  unfold payV
  refine (callsIn_wide (n := 6)).1 (callsIn_of_wp_marks Tryd.func42 rfl trivial ?_ rfl)
  simp only [Tryd.ntmps42, List.size_toArray, List.length_cons, List.length_nil, Nat.reduceAdd, Nat.reduceSub, Array.replicate_succ, Array.replicate_zero, List.push_toArray, List.append_toArray, List.nil_append, List.cons_append]
  refine wpIn_wide.2 ?_
  go_wp2_with (go_at_call 74; refine (within_any _ _ _ _).mono ?_; rintro e w' ⟨rfl, rfl⟩)
  refine (ask_any true 1 _).mono ?_
  rintro e w' ⟨q1, rfl⟩
  obtain rfl : e = .returned (.tuple #[]) := q1
  go_wp2_with fail
  refine (contains1_any ra rl rc (by omega) p.runs HE.out _ (by exact (HP.out.grow (by exact (by repeat (first | exact Below.refl _ _ | assumption | refine Below.drew ?_ | refine below_drewN ?_ _ | refine Below.alloc ?_ (by (try simp) <;> omega) _ | refine Below.setCell ?_ (by (try simp) <;> omega) _ | refine Below.trans ?_ (Below.mono (by assumption) (by (try simp) <;> omega)))))).hruns)).mono ?_
  rw [HR.out]
  simp only [Bool.not_true]
  rintro e w1 ⟨rfl, hbw1⟩; obtain ⟨hcw1, hfw1⟩ := bcell hbw1; have hzw1 := hbw1.size; (try simp at hzw1)
  have q0 : w.heap.size < w1.heap.size := by omega
  have HBX := Lib.hid (show Below (w.heap.size + 4) (openW w #[Value.int IntKind.i64 people, Value.slice ra rl rc, Value.slice ca cl cc, Value.int IntKind.i64 rate, Value.int IntKind.i64 bill, Value.slice da dl dc, Value.slice pa pl pc]) w1 from hbw1.mono (by simp))
  have HB1 : Hid (Below w.heap.size w w1) := Below.trans (by repeat (first | exact Below.refl _ _ | assumption | refine Below.drew ?_ | refine below_drewN ?_ _ | refine Below.alloc ?_ (by (try simp) <;> omega) _ | refine Below.setCell ?_ (by (try simp) <;> omega) _ | refine Below.trans ?_ (Below.mono (by assumption) (by (try simp) <;> omega)))) (hbw1.mono (by simp <;> omega))
  go_wp2_with fail
  refine (ask_any true 1 _).mono ?_
  rintro e w' ⟨q1, rfl⟩
  obtain rfl : e = .returned (.tuple #[]) := q1
  go_wp2_with fail
  refine (contains2_any da dl dc (by omega) p.days HE2.out _ (by exact (HP.out.grow HB1.out).hdays)).mono ?_
  rw [HDY.out]
  simp only [Bool.not_true]
  rintro e w2 ⟨rfl, hbw2⟩; obtain ⟨hcw2, hfw2⟩ := bcell hbw2; have hzw2 := hbw2.size; (try simp at hzw2)
  have HBY := Lib.hid (HBX.out.trans (hbw2.mono (by have := HBX.out.size; simp [openW] at this; omega)))
  go_wp2_with fail
  refine (ask_any true 1 _).mono ?_
  rintro e w' ⟨q2, rfl⟩
  obtain rfl : e = .returned (.tuple #[]) := q2
  go_wp2
  go_loopw [72] (fun i wr => ∃ k : Nat, k ≤ cl ∧ i = .int .i64 k ∧ Hid ((p.calls.take k).all (callB p) = true) ∧ Below (w.heap.size + 4) (openW w (payCs people ra rl rc ca cl cc rate bill da dl dc pa pl pc)) wr) (fun i _ => cl - (intOf i).toNat)
  case atStart => exact ⟨0, Nat.zero_le _, rfl, by show _ = _; simp, HBY.out⟩
  case round =>
    obtain ⟨k, hk, rfl, HA, hb⟩ := hrel
    have HDK := Lib.hid (openW_desk (p := p) w wr HP.out hb)
    have HBW : Hid (Below w.heap.size w wr) := (openW_below w _).trans (hb.mono (by omega))
    have hsz : w.heap.size + 4 ≤ wr.heap.size := by have := hb.size; rwa [openW_size] at this
    have t5 : wr.cell? ⟨w.heap.size + 1 + 1 + 1, 0, none⟩ = some (.pointer (some ⟨w.heap.size + 1 + 1, 0, none⟩)) :=
      ((Blk.new_ (by simp) 71 #[.pointer (some ⟨w.heap.size + 1 + 1, 0, none⟩)]).below hb (by omega)).cell 0
    have b6 : wr.cell? ⟨w.heap.size, 6, none⟩ = some (.slice pa pl pc) := (((((Blk.new_ (w := w) rfl 27 (payCs people ra rl rc ca cl cc rate bill da dl dc pa pl pc)).alloc _).alloc _).alloc _).below hb (by omega)).cell 6
    have q6 : w.heap.size < wr.heap.size := by omega
    have HBR := Lib.hid hb
    clear hb
    have q5 : w.heap.size + 1 + 1 + 1 < wr.heap.size := by omega
    by_cases hlt : k < cl
    · obtain ⟨c, hc⟩ : ∃ c, p.calls[k]? = some c := ⟨p.calls[k]'(by have := HE3.out; omega), by simp⟩
      have HC := Lib.hid hc
      have HS := Lib.hid (take_all_succ (callB p) p.calls k c hc)
      obtain ⟨b, off, rfl, hbl, H0, H1, H2, H3, H4⟩ := HDK.out.pay.hcalls k c hc
      obtain ⟨cw, cr, ⟨clo, chi⟩, cst⟩ := c
      simp only at H0 H1 H2 H3 H4
      have HOK : Hid (callB p ⟨cw, cr, ⟨clo, chi⟩, cst⟩ = true) := List.all_eq_true.1 HCL.out _ (List.mem_of_getElem? hc)
      obtain ⟨⟨hw, hr⟩, hsb⟩ : (whoB p cw = true ∧ runB p cr = true) ∧ spanB ⟨clo, chi⟩ 100 = true := by
        have h := HOK.out
        simp only [callB, Bool.and_eq_true] at h
        exact h
      clear hc
      go_wp2_with fail
      refine (isWho_any (p := p) cw _ (by exact HDK.out.grow (by repeat (first | exact Below.refl _ _ | assumption | refine Below.drew ?_ | refine below_drewN ?_ _ | refine Below.alloc ?_ (by (try simp) <;> omega) _ | refine Below.setCell ?_ (by (try simp) <;> omega) _ | refine Below.trans ?_ (Below.mono (by assumption) (by (try simp) <;> omega))))) g1 g2).mono ?_
      rw [hw]
      rintro e w' ⟨rfl, rfl⟩
      go_wp2_with fail
      refine (isRun_any (p := p) cr _ (by exact HDK.out.grow (by repeat (first | exact Below.refl _ _ | assumption | refine Below.drew ?_ | refine below_drewN ?_ _ | refine Below.alloc ?_ (by (try simp) <;> omega) _ | refine Below.setCell ?_ (by (try simp) <;> omega) _ | refine Below.trans ?_ (Below.mono (by assumption) (by (try simp) <;> omega)))))).mono ?_
      rw [hr]
      rintro e w' ⟨rfl, rfl⟩
      go_wp2_with fail
      refine (isIn_any ⟨clo, chi⟩ 100 _).mono ?_
      rw [hsb]
      rintro e w3 ⟨rfl, hbw3⟩; obtain ⟨hcw3, hfw3⟩ := bcell hbw3; have hzw3 := hbw3.size; (try simp at hzw3)
      have HG3 : Hid (Below (w.heap.size + 4) (openW w (payCs people ra rl rc (some ⟨b, off, none⟩) cl cc rate bill da dl dc pa pl pc)) w3) := (HBR.out.alloc (by omega) _).trans (hbw3.mono (by simp; omega))
      go_wp2_with fail
      refine (ask_any true 1 _).mono ?_
      rintro e w' ⟨q2, rfl⟩
      obtain rfl : e = .returned (.tuple #[]) := q2
      go_wp2
      go_roundw
      case rel => exact ⟨k + 1, by omega, by go_num, by show _ = _; rw [HS.out, HA.out, HOK.out]; rfl, HG3.out⟩
      case measure => simp [intOf]; omega
    · obtain rfl : cl = k := by omega
      go_wp2
      go_loopw [97] (fun i wq => ∃ k : Nat, k ≤ pl ∧ i = .int .i64 k ∧ Hid ((p.paid.take k).all (paidB p) = true) ∧ Below (w.heap.size + 4) (openW w (payCs people ra rl rc ca cl cc rate bill da dl dc pa pl pc)) wq) (fun i _ => pl - (intOf i).toNat)
      case atStart => exact ⟨0, Nat.zero_le _, rfl, by show _ = _; simp, HBR.out⟩
      case round =>
        clear HDK HBW hsz t5 b6 q5 q6 HBR
        obtain ⟨k, hk, rfl, HA, hb⟩ := hrel
        have HDK := Lib.hid (openW_desk (p := p) w wr HP.out hb)
        have HBW : Hid (Below w.heap.size w wr) := (openW_below w _).trans (hb.mono (by omega))
        have hsz : w.heap.size + 4 ≤ wr.heap.size := by have := hb.size; rwa [openW_size] at this
        have t5 : wr.cell? ⟨w.heap.size + 1 + 1 + 1, 0, none⟩ = some (.pointer (some ⟨w.heap.size + 1 + 1, 0, none⟩)) :=
          ((Blk.new_ (by simp) 71 #[.pointer (some ⟨w.heap.size + 1 + 1, 0, none⟩)]).below hb (by omega)).cell 0
        have HBR := Lib.hid hb
        clear hb
        have q5 : w.heap.size + 1 + 1 + 1 < wr.heap.size := by omega
        by_cases hlt : k < pl
        · obtain ⟨c, hc⟩ : ∃ c, p.paid[k]? = some c := ⟨p.paid[k]'(by have := HE4.out; omega), by simp⟩
          have HS := Lib.hid (take_all_succ (paidB p) p.paid k c hc)
          obtain ⟨b, off, rfl, hbl, H0, H1, H2⟩ := HDK.out.pay.hpaid k c hc
          obtain ⟨cw, cr, cp⟩ := c
          simp only at H0 H1 H2
          have HOK : Hid (paidB p ⟨cw, cr, cp⟩ = true) := List.all_eq_true.1 HB.out _ (List.mem_of_getElem? hc)
          obtain ⟨⟨hw, hr⟩, hsb⟩ : (whoB p cw = true ∧ runB p cr = true) ∧ inB cp 0 10000 = true := by
            have h := HOK.out
            simp only [paidB, Bool.and_eq_true] at h
            exact h
          clear hc
          go_wp2_with fail
          refine (isWho_any (p := p) cw _ (by exact HDK.out.grow (by repeat (first | exact Below.refl _ _ | assumption | refine Below.drew ?_ | refine below_drewN ?_ _ | refine Below.alloc ?_ (by (try simp) <;> omega) _ | refine Below.setCell ?_ (by (try simp) <;> omega) _ | refine Below.trans ?_ (Below.mono (by assumption) (by (try simp) <;> omega))))) g1 g2).mono ?_
          rw [hw]
          rintro e w' ⟨rfl, rfl⟩
          go_wp2_with fail
          refine (isRun_any (p := p) cr _ (by exact HDK.out.grow (by repeat (first | exact Below.refl _ _ | assumption | refine Below.drew ?_ | refine below_drewN ?_ _ | refine Below.alloc ?_ (by (try simp) <;> omega) _ | refine Below.setCell ?_ (by (try simp) <;> omega) _ | refine Below.trans ?_ (Below.mono (by assumption) (by (try simp) <;> omega)))))).mono ?_
          rw [hr]
          rintro e w' ⟨rfl, rfl⟩
          go_wp2_with fail
          refine (within_any cp 0 10000 _).mono ?_
          rw [hsb]
          rintro e w' ⟨rfl, rfl⟩
          go_wp2_with fail
          refine (ask_any true 1 _).mono ?_
          rintro e w' ⟨q2, rfl⟩
          obtain rfl : e = .returned (.tuple #[]) := q2
          go_wp2
          go_roundw
          case rel => exact ⟨k + 1, by omega, by go_num, by show _ = _; rw [HS.out, HA.out, HOK.out]; rfl, HBR.out.alloc (by omega) _⟩
          case measure => simp [intOf]; omega
        · obtain rfl : pl = k := by omega
          go_wp2_with fail
          refine (HG.out _ HBW.out HDK.out).mono ?_
          rintro e w3 ⟨rfl, hbw3⟩; obtain ⟨hcw3, hfw3⟩ := bcell hbw3; have hzw3 := hbw3.size; (try simp at hzw3)
          go_wp2_with fail
          refine (ask_any true 2 _).mono ?_
          rintro e w4 ⟨q2, rfl⟩
          obtain rfl : e = .returned (.tuple #[]) := q2
          have HBV : Hid (Below (w.heap.size + 4) (openW w (payCs people ra rl rc ca cl cc rate bill da dl dc pa pl pc)) w4) := HBR.out.trans (hbw3.mono (by omega))
          have hsz3 : w.heap.size + 4 ≤ w4.heap.size := by omega
          have HDV := Lib.hid (openW_desk (p := p) w w4 HP.out HBV.out)
          have t5 : w4.cell? ⟨w.heap.size + 1 + 1 + 1, 0, none⟩ = some (.pointer (some ⟨w.heap.size + 1 + 1, 0, none⟩)) :=
            ((Blk.new_ (by simp) 71 #[.pointer (some ⟨w.heap.size + 1 + 1, 0, none⟩)]).below HBV.out (by omega)).cell 0
          go_wp2_with fail
          refine (backwards_any _).mono ?_
          rintro e w' ⟨rfl, rfl⟩
          go_wp2_with fail
          obtain ⟨W0, hW0⟩ : ∃ W0, w4.alloc (.cells #[.pointer (some ⟨w.heap.size + 1 + 1, 0, none⟩)] 71) = W0 := ⟨_, rfl⟩
          have hs0 : W0.heap.size = w4.heap.size + 1 := by rw [← hW0]; simp
          have hB0 : Below w4.heap.size w4 W0 := by rw [← hW0]; exact (Below.refl _ _).alloc (Nat.le_refl _) _
          have HBX0 := Lib.hid (HBV.out.trans (hB0.mono (by omega)))
          have hN : W0.cell? ⟨w4.heap.size, 0, none⟩ = some (.pointer (some ⟨w.heap.size + 1 + 1, 0, none⟩)) := by rw [← hW0]; exact (Blk.new w4 71 _).cell 0
          have HDX := Lib.hid (openW_desk (p := p) w W0 HP.out HBX0.out)
          have hP0 : RdCalls W0 w.heap.size ca p.calls := HP.out.hcalls.below ((openW_below w _).trans (HBX0.out.mono (by omega)))
          have HPV : Hid (payB p = true) := by
            show _ = _
            have hh : headB p = true := by rw [headB_eq HP.out]; simp [inB]; omega
            simp [payB, hh, HR.out, HDY.out, HCL.out, HB.out]
          have HM0 : Hid (MapF W0 (w.heap.size + 1) 0 (fun _ _ => -1)) := by
            refine MapF.grow ?_ HBX0.out (by omega)
            unfold openW
            have h := MapF.made (w.alloc (.cells (payCs people ra rl rc ca cl cc rate bill da dl dc pa pl pc) 27))
            simp only [World.size_alloc] at h
            exact (h.grow (B := w.heap.size + 1 + 1) ((Below.refl _ _).alloc (by simp) _) (by omega)).grow (B := w.heap.size + 1 + 1) ((Below.refl _ _).alloc (by simp) _) (by omega)
          rw [hW0]
          clear hB0 hW0
          refine wpIn_wide.1 (wpIn_rangeFunc_box (n := 6) rfl (by omega) (gf := 93) (lb := #[.pointer (some ⟨w4.heap.size, 0, none⟩)]) rfl trivial (enters_of Tryd.func93 (by kernel_rfl) rfl)
            (back_stops (p := p) (r := w.heap.size + 1) (d := w.heap.size + 1 + 1) (B := w.heap.size) HPV.out 5 (by omega) w4.heap.size W0.heap.size W0 hN HDX.out.c2 hP0 HE3.out (by omega) (by omega) (by omega) (by omega) (by omega) (by omega) (by omega) (Nat.le_refl _))
            KpR.trans (KpR.putObj (Nat.le_refl _)) (Below.refl _ _) (fun _ => rfl)
            (OpenI W0 (w.heap.size + 1)) (fun _ _ _ => False) (OpenI.own _ _ (by omega)) (fun _ _ _ _ _ hs _ _ => hs)
            ⟨⟨0, Nat.le_refl _, HM0.out⟩, ⟨fun _ _ _ => rfl, Nat.le_refl _⟩, Below.refl _ _⟩ 55 (fun x => (caV x.1.2).cells) openG ?assign ?body ?done ?stop)
          case assign =>
            intro l pre x W K hi hK
            have hsz := hi.2.1.2
            have HI := Lib.hid hi
            clear hi
            replace hK := hK W.heap.size _ hsz ((KeepsOthers.alloc _ _).from _) (KpR.ofBelow ((Below.refl _ _).alloc hsz _)) (HI.out.below (by omega) ((Below.refl _ _).alloc hsz _)) (Blk.new _ _ _)
            simp only [openG, caV, List.setIfInBounds_toArray, List.set_cons_succ, List.set_cons_zero, Value.cells] at hK
            simp only [encI, caV]
            gi_wp2
            exact hK
          case body =>
            rintro l pre x Bx W hBx hi hbx hlen
            obtain ⟨⟨Nm, hNm, hM⟩, ⟨hkr, hsz⟩, hb0⟩ := hi
            have HB00 := Lib.hid hb0
            have hlen3 : pre.length < 100 := by have := backL_len p HPV.out cl; omega
            clear hb0
            have t5W : W.cell? ⟨w.heap.size + 1 + 1 + 1, 0, none⟩ = some (.pointer (some ⟨w.heap.size + 1 + 1, 0, none⟩)) := (hkr.cell (by omega) (by omega) 0).trans
              (((Blk.new_ (by simp) 71 #[.pointer (some ⟨w.heap.size + 1 + 1, 0, none⟩)]).below HBX0.out (by omega)).cell 0)
            have p7 : W.cell? ⟨w.heap.size + 1 + 1, 7, none⟩ = some (.map (some (w.heap.size + 1))) := (hkr.cell (by omega) (by omega) 7).trans HDX.out.c7
            obtain ⟨⟨i, c⟩, hx⟩ := x
            obtain ⟨cw, cr, ⟨clo, chi⟩, cst⟩ := c
            have hx' := hx
            obtain ⟨x0, x1, x2, x3, x4⟩ := hx'
            simp only at x0 x1 x2 x3 x4
            have c0 : W.cell? ⟨Bx, 0, none⟩ = some (.int .i64 cw) := Blk.cell hbx 0
            have c1 : W.cell? ⟨Bx, 1, none⟩ = some (.int .i64 cr) := Blk.cell hbx 1
            have hBW := (Blk.lt hbx)
            have HSTEP : Hid (foldF (pre ++ [⟨(i, ⟨cw, cr, ⟨clo, chi⟩, cst⟩), hx⟩]) = if 0 ≤ foldF pre cw cr then foldF pre else setF (foldF pre) cw cr i) := by show _ = _; rw [foldF_snoc]; rfl
            have HKR := Lib.hid hkr
            have HM := Lib.hid hM
            have hq1 : w.heap.size + 1 + 1 + 1 < W.heap.size := by omega
            have hq3 : w.heap.size + 1 + 1 + 1 < W.heap.size + 1 := by omega
            have hq4 : w.heap.size + 1 + 1 < W.heap.size + 1 := by omega
            have hq2 : w.heap.size + 1 + 1 < W.heap.size := by omega
            simp only [openG, caV, List.setIfInBounds_toArray, List.set_cons_succ, List.set_cons_zero]
            clear hkr hM hbx hlen
            by_cases hf : 0 ≤ foldF pre cw cr
            · have hd0 : decide (0 ≤ foldF pre cw cr) = true := by simp [hf]
              have HK : Hid (∀ wv : World, Below W.heap.size W wv → (Instr.lookup 68 (.map (some (w.heap.size + 1))) (.agg #[.int .i64 cw, .int .i64 cr]) true).run Tryd.prog wv = .ok (.tuple #[.int .i64 (foldF pre cw cr), .bool true]) wv) := fun wv hb => by
                have := (HM.out.grow hb (by omega)).look cw cr x1 x2 x3 x4
                rwa [if_pos hf, hd0] at this
              rw [if_pos hf] at HSTEP
              clear hd0 hf
              gi_wp2
              refine wpIn_region_havoc [(0,false),(1,false),(2,false),(3,false),(4,false),(5,false),(6,false),(7,false),(8,false),(9,false),(10,false)] [] (fun _ _ => False) (by kernel_rfl) (by kernel_rfl) (by kernel_rfl) (by rintro ⟨a, w, h⟩; exact h) (fun _ _ _ _ h => h.elim) ?_
              iterate 5 (apply hav_same (by simp only [List.getElem?_toArray, List.getElem?_cons_succ, List.getElem?_cons_zero]; rfl) (by kernel_rfl); (focus (intro wv hgv _; have hcv : ∀ b o, b < _ → wv.cell? ⟨b, o, none⟩ = _ := fun b o hb => Below.cell hgv (p := ⟨b, o, none⟩) hb; go_simp; try rfl; done)); simp only [Act.put, List.setIfInBounds_toArray, List.set_cons_succ, List.set_cons_zero])
              (apply hav_same (by simp only [List.getElem?_toArray, List.getElem?_cons_succ, List.getElem?_cons_zero]; rfl) (by kernel_rfl); (focus (intro wv hgv _; have hcv : ∀ b o, b < _ → wv.cell? ⟨b, o, none⟩ = _ := fun b o hb => Below.cell hgv (p := ⟨b, o, none⟩) hb; have hlk := HK.out wv (Below.trans (by repeat (first | exact Below.refl _ _ | assumption | refine Below.drew ?_ | refine below_drewN ?_ _ | refine Below.alloc ?_ (by (try simp) <;> omega) _ | refine Below.setCell ?_ (by (try simp) <;> omega) _ | refine Below.trans ?_ (Below.mono (by assumption) (by (try simp) <;> omega)))) (Below.mono hgv (by simp <;> omega))); go_simp; try rfl; done)); simp only [Act.put, List.setIfInBounds_toArray, List.set_cons_succ, List.set_cons_zero])
              iterate 5 (apply hav_same (by simp only [List.getElem?_toArray, List.getElem?_cons_succ, List.getElem?_cons_zero]; rfl) (by kernel_rfl); (focus (intro wv hgv _; have hcv : ∀ b o, b < _ → wv.cell? ⟨b, o, none⟩ = _ := fun b o hb => Below.cell hgv (p := ⟨b, o, none⟩) hb; go_simp; try rfl; done)); simp only [Act.put, List.setIfInBounds_toArray, List.set_cons_succ, List.set_cons_zero])
              refine hav_end (fun w5 hgw5 _ => ?_); simp only [List.filterMap]; have hcw5 : ∀ b o, b < _ → w5.cell? ⟨b, o, none⟩ = _ := fun b o hb => Below.cell hgw5 (p := ⟨b, o, none⟩) hb; have hfw5 : ∀ b o, b < _ → w5.frozen? ⟨b, o, none⟩ = _ := fun b o hb => Below.frozen hgw5 (p := ⟨b, o, none⟩) hb; have hzw5 := Below.size hgw5; (try simp at hzw5)
              have HBW5 : Hid (Below W.heap.size W w5) := ((Below.refl W.heap.size W).alloc (Nat.le_refl _) _).trans (hgw5.mono (by simp))
              clear hgw5
              go_wp2
              gi_wp2
              exact ⟨KeepsFrom.ofBelow HBW5.out, KpR.ofBelow (HBW5.out.mono (by omega)), ⟨Nm, by simp; omega, by rw [HSTEP.out]; exact HM.out.grow HBW5.out (by omega)⟩, ⟨HKR.out.trans (KpR.ofBelow (HBW5.out.mono (by omega))), Nat.le_trans hsz HBW5.out.size⟩, HB00.out.trans (HBW5.out.mono (by omega))⟩
            · have hd0 : decide (0 ≤ foldF pre cw cr) = false := by simp; omega
              have HK : Hid (∀ wv : World, Below W.heap.size W wv → (Instr.lookup 68 (.map (some (w.heap.size + 1))) (.agg #[.int .i64 cw, .int .i64 cr]) true).run Tryd.prog wv = .ok (.tuple #[.int .i64 0, .bool false]) wv) := fun wv hb => by
                have := (HM.out.grow hb (by omega)).look cw cr x1 x2 x3 x4
                rwa [if_neg hf, hd0] at this
              rw [if_neg hf] at HSTEP
              clear hd0 hf
              gi_wp2
              refine wpIn_region_havoc [(0,false),(1,false),(2,false),(3,false),(4,false),(5,false),(6,false),(7,false),(8,false),(9,false),(10,false)] [] (fun _ _ => False) (by kernel_rfl) (by kernel_rfl) (by kernel_rfl) (by rintro ⟨a, w, h⟩; exact h) (fun _ _ _ _ h => h.elim) ?_
              iterate 5 (apply hav_same (by simp only [List.getElem?_toArray, List.getElem?_cons_succ, List.getElem?_cons_zero]; rfl) (by kernel_rfl); (focus (intro wv hgv _; have hcv : ∀ b o, b < _ → wv.cell? ⟨b, o, none⟩ = _ := fun b o hb => Below.cell hgv (p := ⟨b, o, none⟩) hb; go_simp; try rfl; done)); simp only [Act.put, List.setIfInBounds_toArray, List.set_cons_succ, List.set_cons_zero])
              (apply hav_same (by simp only [List.getElem?_toArray, List.getElem?_cons_succ, List.getElem?_cons_zero]; rfl) (by kernel_rfl); (focus (intro wv hgv _; have hcv : ∀ b o, b < _ → wv.cell? ⟨b, o, none⟩ = _ := fun b o hb => Below.cell hgv (p := ⟨b, o, none⟩) hb; have hlk := HK.out wv (Below.trans (by repeat (first | exact Below.refl _ _ | assumption | refine Below.drew ?_ | refine below_drewN ?_ _ | refine Below.alloc ?_ (by (try simp) <;> omega) _ | refine Below.setCell ?_ (by (try simp) <;> omega) _ | refine Below.trans ?_ (Below.mono (by assumption) (by (try simp) <;> omega)))) (Below.mono hgv (by simp <;> omega))); go_simp; try rfl; done)); simp only [Act.put, List.setIfInBounds_toArray, List.set_cons_succ, List.set_cons_zero])
              iterate 5 (apply hav_same (by simp only [List.getElem?_toArray, List.getElem?_cons_succ, List.getElem?_cons_zero]; rfl) (by kernel_rfl); (focus (intro wv hgv _; have hcv : ∀ b o, b < _ → wv.cell? ⟨b, o, none⟩ = _ := fun b o hb => Below.cell hgv (p := ⟨b, o, none⟩) hb; go_simp; try rfl; done)); simp only [Act.put, List.setIfInBounds_toArray, List.set_cons_succ, List.set_cons_zero])
              refine hav_end (fun w5 hgw5 _ => ?_); simp only [List.filterMap]; have hcw5 : ∀ b o, b < _ → w5.cell? ⟨b, o, none⟩ = _ := fun b o hb => Below.cell hgw5 (p := ⟨b, o, none⟩) hb; have hfw5 : ∀ b o, b < _ → w5.frozen? ⟨b, o, none⟩ = _ := fun b o hb => Below.frozen hgw5 (p := ⟨b, o, none⟩) hb; have hzw5 := Below.size hgw5; (try simp at hzw5)
              have HBW5 : Hid (Below W.heap.size W w5) := ((Below.refl W.heap.size W).alloc (Nat.le_refl _) _).trans (hgw5.mono (by simp))
              have s0 : w5.cell? ⟨W.heap.size, 0, none⟩ = some (.int .i64 cw) := ((Blk.new W 76 #[.int .i64 cw, .int .i64 cr]).below hgw5 (by simp)).cell 0
              have s1 : w5.cell? ⟨W.heap.size, 1, none⟩ = some (.int .i64 cr) := ((Blk.new W 76 #[.int .i64 cw, .int .i64 cr]).below hgw5 (by simp)).cell 1
              have t5Z : w5.cell? ⟨w.heap.size + 1 + 1 + 1, 0, none⟩ = some (.pointer (some ⟨w.heap.size + 1 + 1, 0, none⟩)) := (HBW5.out.cell (p := ⟨w.heap.size + 1 + 1 + 1, 0, none⟩) hq1).trans t5W
              have p7Z : w5.cell? ⟨w.heap.size + 1 + 1, 7, none⟩ = some (.map (some (w.heap.size + 1))) := (HBW5.out.cell (p := ⟨w.heap.size + 1 + 1, 7, none⟩) hq2).trans p7
              have hq5 : w.heap.size + 1 + 1 + 1 < w5.heap.size := by have := HBW5.out.size; omega
              have hq6 : w.heap.size + 1 + 1 < w5.heap.size := by omega
              have hq7 : W.heap.size < w5.heap.size := by have := hgw5.size; simp at this; omega
              clear hgw5 hcw5 hfw5 t5W p7
              go_wp2
              gi_wp2
              refine wpIn_region_havoc [(0,false),(1,false),(2,false),(3,false),(4,false),(5,false)] [6] (fun _ _ => False) (by kernel_rfl) (by kernel_rfl) (by kernel_rfl) (by rintro ⟨a, w, h⟩; exact h) (fun _ _ _ _ h => h.elim) ?_
              iterate 6 (apply hav_same (by simp only [List.getElem?_toArray, List.getElem?_cons_succ, List.getElem?_cons_zero]; rfl) (by kernel_rfl); (focus (intro wv hgv _; have hcv : ∀ b o, b < _ → wv.cell? ⟨b, o, none⟩ = _ := fun b o hb => Below.cell hgv (p := ⟨b, o, none⟩) hb; go_simp; try rfl; done)); simp only [Act.put, List.setIfInBounds_toArray, List.set_cons_succ, List.set_cons_zero])
              refine hav_end (fun w6 hgw6 _ => ?_); simp only [List.filterMap]; have hcw6 : ∀ b o, b < _ → w6.cell? ⟨b, o, none⟩ = _ := fun b o hb => Below.cell hgw6 (p := ⟨b, o, none⟩) hb; have hfw6 : ∀ b o, b < _ → w6.frozen? ⟨b, o, none⟩ = _ := fun b o hb => Below.frozen hgw6 (p := ⟨b, o, none⟩) hb; have hzw6 := Below.size hgw6; (try simp at hzw6)
              have HBW6 : Hid (Below W.heap.size W w6) := HBW5.out.trans (hgw6.mono (by omega))
              obtain ⟨w7, hrun, hM7, hg7⟩ := (HM.out.grow HBW6.out (by omega)).store (by have := HBW5.out; omega) cw cr i x1 x2 x3 x4 (by omega) (by omega)
              have HM7 := Lib.hid hM7
              have HG7 := Lib.hid hg7
              clear hgw6 hcw6 hfw6 hM7 hg7
              go_wp2
              gi_wp2
              have HKF : Hid (KpR (w.heap.size + 1) W0.heap.size W w7) := (KpR.ofBelow (HBW6.out.mono (by omega))).grown (by have := HBW6.out.size; omega) HG7.out (fun k e => .inr (by cases e; rfl))
              exact ⟨(KeepsFrom.ofBelow HBW6.out).trans (KeepsFrom.of_grownBy HG7.out (fun j e => by cases e; omega)), HKF.out, ⟨Nm + 1, by simp; omega, by rw [HSTEP.out]; exact HM7.out⟩, ⟨HKR.out.trans HKF.out, by have := HBW6.out.size; have := HG7.out.size; omega⟩, (HB00.out.trans (HBW6.out.mono (by omega))).grown HG7.out (by omega) (fun k e => by cases e; exact Nat.le_refl _)⟩
          case done =>
            rintro D ys W hD rfl hi hdef
            have hlen2 := backL_len p HPV.out cl
            have HI := Lib.hid hi
            have HI2 := Lib.hid ((OpenI.own W0 (w.heap.size + 1) (by omega)).putObj (.deferred none) hi hD hdef rfl)
            have t5W : W.cell? ⟨w.heap.size + 1 + 1 + 1, 0, none⟩ = some (.pointer (some ⟨w.heap.size + 1 + 1, 0, none⟩)) := (hi.2.1.1.cell (by omega) (by omega) 0).trans
              (((Blk.new_ (by simp) 71 #[.pointer (some ⟨w.heap.size + 1 + 1, 0, none⟩)]).below HBX0.out (by omega)).cell 0)
            clear hi
            go_wp2
            refine ⟨by simp, .inl ⟨_, _, rfl, run_takeDeferred hdef, ?_⟩⟩
            have HBE : Hid (Below w.heap.size w (W.putObj D (.deferred none))) := ((openW_below w _).trans (HBX0.out.mono (by omega))).trans (HI2.out.2.2.mono (by omega))
            refine ⟨_, results_tmp rfl _ _ _, rfl, ?_, HBE.out⟩
            obtain ⟨⟨Nm, hNm, hM⟩, ⟨hkr, hsz⟩, hb0⟩ := HI2.out
            have hst : foldF (backL p HPV.out cl) = standsI p := by have h := foldF_stands p HPV.out; rwa [HE3.out] at h
            rw [hst] at hM
            exact ⟨⟨by omega, by omega, (hkr.cell (by omega) (by omega) 0).trans HDX.out.c0, (hkr.cell (by omega) (by omega) 1).trans HDX.out.c1, (hkr.cell (by omega) (by omega) 2).trans HDX.out.c2, (hkr.cell (by omega) (by omega) 3).trans HDX.out.c3,
              (hkr.cell (by omega) (by omega) 4).trans HDX.out.c4, (hkr.cell (by omega) (by omega) 5).trans HDX.out.c5, (hkr.cell (by omega) (by omega) 6).trans HDX.out.c6, (hkr.cell (by omega) (by omega) 7).trans HDX.out.c7, (HP.out.below HBE.out).more (by omega)⟩,
              by omega, Nm, by omega, hM⟩
          case stop =>
            rintro D c pre W _ _ h _
            exact h.elim
end
end Go.Proofs.YtlcolpnniipgbaaDoor
