/- A frame behind a region that draws its order, written out; rows that stay where another block is stored; rows behind narrow. No condition but that they lie so. For PayMore's second loop (no program in sight): a pay that lies in rows of its own reads as itself, valid or not; the four answers of a pay that is known better. -/
import Derived.Test.YtlcolpnniipgbaaDoorLawM1
import Derived.Test.YtlcolpnniipgbaaDoorLawM3
import Derived.Test.YtlcolpnniipgbaaDoorLawU1
namespace Go.Proofs.YtlcolpnniipgbaaDoor
open Go.RowKit Go.Hav
def puts (v : Nat → Value) (ds : List Nat) (a : Act) : Act := ds.foldl (fun a d => a.put (some d) (v d)) a
theorem puts_defers (v : Nat → Value) : ∀ (ds : List Nat) (a : Act), (puts v ds a).defers = a.defers := by
  intro ds
  induction ds with
  | nil => intro a; rfl
  | cons d ds ih => intro a; exact (ih (a.put (some d) (v d))).trans rfl
theorem puts_size (v : Nat → Value) : ∀ (ds : List Nat) (a : Act), (puts v ds a).tmps.size = a.tmps.size := by
  intro ds
  induction ds with
  | nil => intro a; rfl
  | cons d ds ih => intro a; exact (ih (a.put (some d) (v d))).trans (by simp [Act.put])
theorem puts_get (v : Nat → Value) (k : Nat) : ∀ (ds : List Nat) (a : Act), k < a.tmps.size → slot (puts v ds a) k = if k ∈ ds then v k else slot a k := by
  intro ds
  induction ds with
  | nil => intro a _; simp [puts]
  | cons d ds ih =>
    intro a hk
    have h := ih (a.put (some d) (v d)) (by simpa [Act.put] using hk)
    show slot (puts v ds (a.put (some d) (v d))) k = _
    rw [h]
    by_cases e : k ∈ ds
    · rw [if_pos e, if_pos (List.mem_cons_of_mem _ e)]
    · rw [if_neg e]
      by_cases e2 : k = d
      · subst e2
        rw [if_pos (by simp), slot_self _ hk]
      · rw [if_neg (by simp [e, e2]), slot_put _ (by simpa using fun h => e2 h.symm)]
theorem agree_puts {ops : Array Oper} {a a' : Act} (h : Agree ops (List.range ops.size) a a') (ds : List Nat) (hd : ((List.range ops.size).all fun i => match ops[i]? with | some o => (match o.dst with | some d => ds.contains d | none => true) | none => true) = true) : a' = puts (slot a') ds a := by
  obtain ⟨h1, h2, h3⟩ := h
  have hs : (puts (slot a') ds a).tmps.size = a'.tmps.size := (puts_size _ _ _).trans h2.symm
  have ht : a'.tmps = (puts (slot a') ds a).tmps := by
    apply Array.ext
    · exact hs.symm
    · intro k hk hk'
      have hka : k < a.tmps.size := by rw [← h2]; exact hk
      have hg := puts_get (slot a') k ds a hka
      have e1 : a'.tmps[k] = slot a' k := by simp [slot, hk]
      have e2 : (puts (slot a') ds a).tmps[k] = slot (puts (slot a') ds a) k := by simp [slot, hk']
      rw [e1, e2, hg]
      by_cases e : k ∈ ds
      · rw [if_pos e]
      · rw [if_neg e]
        show a'.tmps.getD k undef = a.tmps.getD k undef
        rw [Array.getD_eq_getD_getElem?, Array.getD_eq_getD_getElem?]
        refine congrArg (fun x => x.getD undef) (h3 k ?_)
        intro i o hi ho hod
        have := List.all_eq_true.1 hd i hi
        rw [ho] at this
        simp only [hod] at this
        exact e (by simpa using this)
  have hdf : a'.defers = (puts (slot a') ds a).defers := by rw [puts_defers]; exact h1
  cases a'
  cases hp : puts _ ds a
  rw [hp] at ht hdf
  simp only at ht hdf
  rw [ht, hdf]
/-- The world behind the store of a pay in a box. -/
def payW (w : World) (X : Nat) (people : Int) (ra : Option Addr) (rl rc : Nat) (ca : Option Addr) (cl cc : Nat) (rate bill : Int) (da : Option Addr) (dl dc : Nat) (pa : Option Addr) (pl pc : Nat) : World :=
  (((((((w.setCell ⟨X, 0, none⟩ (.int .i64 people)).setCell ⟨X, 1, none⟩ (.slice ra rl rc)).setCell ⟨X, 2, none⟩ (.slice ca cl cc)).setCell ⟨X, 3, none⟩ (.int .i64 rate)).setCell ⟨X, 4, none⟩ (.int .i64 bill)).setCell ⟨X, 5, none⟩ (.slice da dl dc)).setCell ⟨X, 6, none⟩ (.slice pa pl pc))
theorem wp_store27 {ops : Array Oper} {rest : List Oper} {o : Oper} {Q : Exit → Act → World → Prop} {a : Act} {w : World} {s d X : Nat} {people rate bill : Int} {ra ca da pa : Option Addr} {rl rc cl cc dl dc pl pc : Nat} (hop : o.op = .store 27 (.tmp s) (.tmp d)) (hd : o.dst = none) (hg : o.guard = none) (h1 : slot a s = .pointer (some ⟨X, 0, none⟩)) (h2 : slot a d = payV people ra rl rc ca cl cc rate bill da dl dc pa pl pc) (hb : Blk w X 27 zeroCs)
    (h : wpList Tryd.prog ops Q rest a (payW w X people ra rl rc ca cl cc rate bill da dl dc pa pl pc)) : wpList Tryd.prog ops Q (o :: rest) a w := by
  have z0 := hb.cell 0
  have z1 := hb.cell 1
  have z2 := hb.cell 2
  have z3 := hb.cell 3
  have z4 := hb.cell 4
  have z5 := hb.cell 5
  have z6 := hb.cell 6
  simp [zeroCs, payCs] at z0 z1 z2 z3 z4 z5 z6
  have y0 := hb.frozen 0
  have y1 := hb.frozen 1
  have y2 := hb.frozen 2
  have y3 := hb.frozen 3
  have y4 := hb.frozen 4
  have y5 := hb.frozen 5
  have y6 := hb.frozen 6
  have hr : (execOp a.eval o).run Tryd.prog w = .ok .skip (((((((w.setCell ⟨X, 0, none⟩ (.int .i64 people)).setCell ⟨X, 1, none⟩ (.slice ra rl rc)).setCell ⟨X, 2, none⟩ (.slice ca cl cc)).setCell ⟨X, 3, none⟩ (.int .i64 rate)).setCell ⟨X, 4, none⟩ (.int .i64 bill)).setCell ⟨X, 5, none⟩ (.slice da dl dc)).setCell ⟨X, 6, none⟩ (.slice pa pl pc)) := by
    unfold slot at h1 h2
    unfold payV at h2
    unfold execOp
    rw [hop]
    go_simp
  simp only [wpList]
  rw [if_pos (by unfold Region.wanted; rw [hg])]
  refine .inl ?_
  unfold payW at h
  unfold Oper.wp
  rw [hr]
  have e : a.put o.dst undef = a := by rw [hd]; rfl
  show wpList Tryd.prog ops Q rest (a.put o.dst undef) _
  rw [e]
  exact h
theorem wp_store23 {ops : Array Oper} {rest : List Oper} {o : Oper} {Q : Exit → Act → World → Prop} {a : Act} {w : World} {s d X n c : Nat} {A : Option Addr} {V : Value} (hop : o.op = .store 23 (.tmp s) (.tmp d)) (hd : o.dst = none) (hg : o.guard = none) (h1 : slot a s = .pointer (some ⟨X, 2, none⟩)) (h2 : slot a d = .slice A n c) (hc : w.cell? ⟨X, 2, none⟩ = some V) (hf : w.frozen? ⟨X, 2, none⟩ = false)
    (h : wpList Tryd.prog ops Q rest a (w.setCell ⟨X, 2, none⟩ (.slice A n c))) : wpList Tryd.prog ops Q (o :: rest) a w := by
  have hr : (execOp a.eval o).run Tryd.prog w = .ok .skip (w.setCell ⟨X, 2, none⟩ (.slice A n c)) := by
    unfold slot at h1 h2
    unfold execOp
    rw [hop]
    go_simp
  simp only [wpList]
  rw [if_pos (by unfold Region.wanted; rw [hg])]
  refine .inl ?_
  unfold Oper.wp
  rw [hr]
  have e : a.put o.dst undef = a := by rw [hd]; rfl
  show wpList Tryd.prog ops Q rest (a.put o.dst undef) _
  rw [e]
  exact h
theorem Narrow.refl (p : PayD) : Narrow p p := ⟨rfl, rfl, rfl, rfl, rfl, rfl, fun _ _ _ => ⟨Int.le_refl _, Int.le_refl _⟩, fun _ _ => ⟨Int.le_refl _, Int.le_refl _⟩⟩
section
variable {people rate bill : Int} {ra ca da pa : Option Addr} {rl rc cl cc dl dc pl pc : Nat} {p : PayD}
theorem OwnPay.far {w : World} {B g1 c1 g2 c2 g3 c3 g4 c4 : Nat} (h : OwnPay w B p g1 c1 g2 c2 g3 c3 g4 c4) {b : Nat} (hb : b ∉ [g1, g2, g3, g4]) (j : Nat) (u : Value) : OwnPay (w.setCell ⟨b, j, none⟩ u) B p g1 c1 g2 c2 g3 c3 g4 c4 := by
  simp only [List.mem_cons, List.not_mem_nil, or_false, not_or] at hb
  exact ⟨own_far h.runs (fun e => hb.1 e.symm) j u, own_far h.calls (fun e => hb.2.1 e.symm) j u, own_far h.days (fun e => hb.2.2.1 e.symm) j u, own_far h.paid (fun e => hb.2.2.2 e.symm) j u⟩
theorem OwnPay.box {w : World} {B g1 c1 g2 c2 g3 c3 g4 c4 : Nat} (h : OwnPay w B p g1 c1 g2 c2 g3 c3 g4 c4) {b : Nat} {cs : Array Value} (hb : Blk w b 27 cs) : b ∉ [g1, g2, g3, g4] := by
  have k1 := own_out h.runs hb (by decide)
  have k2 := own_out h.calls hb (by decide)
  have k3 := own_out h.days hb (by decide)
  have k4 := own_out h.paid hb (by decide)
  simp only [List.mem_cons, List.not_mem_nil, or_false, not_or]
  exact ⟨fun e => k1 (by rw [e]; rfl), fun e => k2 (by rw [e]; rfl), fun e => k3 (by rw [e]; rfl), fun e => k4 (by rw [e]; rfl)⟩
theorem OwnPay.seven {w : World} {B g1 c1 g2 c2 g3 c3 g4 c4 : Nat} (h : OwnPay w B p g1 c1 g2 c2 g3 c3 g4 c4) {b : Nat} (hb : b ∉ [g1, g2, g3, g4]) (u0 u1 u2 u3 u4 u5 u6 : Value) :
    OwnPay (((((((w.setCell ⟨b, 0, none⟩ u0).setCell ⟨b, 1, none⟩ u1).setCell ⟨b, 2, none⟩ u2).setCell ⟨b, 3, none⟩ u3).setCell ⟨b, 4, none⟩ u4).setCell ⟨b, 5, none⟩ u5).setCell ⟨b, 6, none⟩ u6) B p g1 c1 g2 c2 g3 c3 g4 c4 :=
  ((((((h.far hb 0 u0).far hb 1 u1).far hb 2 u2).far hb 3 u3).far hb 4 u4).far hb 5 u5).far hb 6 u6
theorem payW_blk {w : World} {X : Nat} (h : Blk w X 27 zeroCs) : Blk (payW w X people ra rl rc ca cl cc rate bill da dl dc pa pl pc) X 27 (payCs people ra rl rc ca cl cc rate bill da dl dc pa pl pc) := seven_set h _ _ _ _ _ _ _
theorem payW_far {w : World} {X g : Nat} {t : TypeId} {cs : Array Value} (h : Blk w g t cs) (hne : g ≠ X) : Blk (payW w X people ra rl rc ca cl cc rate bill da dl dc pa pl pc) g t cs := seven_far h hne _ _ _ _ _ _ _
theorem payW_below {w w' : World} {B X : Nat} (h : Below B w w') (hb : B ≤ X) : Below B w (payW w' X people ra rl rc ca cl cc rate bill da dl dc pa pl pc) := seven_below h hb _ _ _ _ _ _ _
theorem payW_own {w : World} {B g1 c1 g2 c2 g3 c3 g4 c4 X : Nat} (h : OwnPay w B p g1 c1 g2 c2 g3 c3 g4 c4) (hb : X ∉ [g1, g2, g3, g4]) : OwnPay (payW w X people ra rl rc ca cl cc rate bill da dl dc pa pl pc) B p g1 c1 g2 c2 g3 c3 g4 c4 := h.seven hb _ _ _ _ _ _ _
/-- A run of a copy behind narrow. -/
theorem OwnPay.narrowRun {w w1 w' : World} {B g1 c1 g2 c2 g3 c3 g4 c4 k : Nat} {lo hi lo' hi' : Int} (h : OwnPay w B p g1 c1 g2 c2 g3 c3 g4 c4) (hR : p.runs[k]? = some ⟨lo, hi⟩) (hb : Below w.heap.size w w1)
    (hs : (hi' = hi ∧ w' = w1.setCell ⟨g1, k * 2, none⟩ (.int .i64 lo')) ∨ (lo' = lo ∧ w' = w1.setCell ⟨g1, k * 2 + 1, none⟩ (.int .i64 hi'))) : OwnPay w' B (Go.Proofs.YtlcolpnniipgbaaDoor.setRun p k ⟨lo', hi'⟩) g1 c1 g2 c2 g3 c3 g4 c4 := by
  have h1 := h.below hb
  have k1 := own_ne h1.calls h1.runs (by decide)
  have k3 := own_ne h1.days h1.runs (by decide)
  have k4 := own_ne h1.paid h1.runs (by decide)
  have e : (Go.Proofs.YtlcolpnniipgbaaDoor.setRun p k ⟨lo', hi'⟩).runs.length = p.runs.length := by unfold Go.Proofs.YtlcolpnniipgbaaDoor.setRun; rw [List.length_set]
  rcases hs with ⟨rfl, rfl⟩ | ⟨rfl, rfl⟩
  · refine ⟨?_, own_far h1.calls k1 _ _, own_far h1.days k3 _ _, own_far h1.paid k4 _ _⟩
    rw [e]
    have h2 := own_set h1.runs (k * 2 + 0) (.int .i64 lo')
    rw [flat_set (f := spF) spF_len (i := 0) (u := .int .i64 lo') (by decide) hR (x' := ⟨lo', hi'⟩) rfl] at h2
    exact h2
  · refine ⟨?_, own_far h1.calls k1 _ _, own_far h1.days k3 _ _, own_far h1.paid k4 _ _⟩
    rw [e]
    have h2 := own_set h1.runs (k * 2 + 1) (.int .i64 hi')
    rw [flat_set (f := spF) spF_len (i := 1) (u := .int .i64 hi') (by decide) hR (x' := ⟨lo', hi'⟩) rfl] at h2
    exact h2
theorem OwnPay.narrowCall {w w1 w' : World} {B g1 c1 g2 c2 g3 c3 g4 c4 k : Nat} {c : Ca} {lo' hi' : Int} (h : OwnPay w B p g1 c1 g2 c2 g3 c3 g4 c4) (hC : p.calls[k]? = some c) (hb : Below w.heap.size w w1)
    (hs : (hi' = c.sh.hi ∧ w' = w1.setCell ⟨g2, k * 5 + 2, none⟩ (.int .i64 lo')) ∨ (lo' = c.sh.lo ∧ w' = w1.setCell ⟨g2, k * 5 + 2 + 1, none⟩ (.int .i64 hi'))) : OwnPay w' B (Go.Proofs.YtlcolpnniipgbaaDoor.setSh p k c ⟨lo', hi'⟩) g1 c1 g2 c2 g3 c3 g4 c4 := by
  have h1 := h.below hb
  have k1 := own_ne h1.runs h1.calls (by decide)
  have k3 := own_ne h1.days h1.calls (by decide)
  have k4 := own_ne h1.paid h1.calls (by decide)
  have e : (Go.Proofs.YtlcolpnniipgbaaDoor.setSh p k c ⟨lo', hi'⟩).calls.length = p.calls.length := by unfold Go.Proofs.YtlcolpnniipgbaaDoor.setSh; rw [List.length_set]
  rcases hs with ⟨rfl, rfl⟩ | ⟨rfl, rfl⟩
  · refine ⟨own_far h1.runs k1 _ _, ?_, own_far h1.days k3 _ _, own_far h1.paid k4 _ _⟩
    rw [e]
    have h2 := own_set h1.calls (k * 5 + 2) (.int .i64 lo')
    rw [flat_set (f := caF) caF_len (i := 2) (u := .int .i64 lo') (by decide) hC (x' := { c with sh := ⟨lo', c.sh.hi⟩ }) rfl] at h2
    exact h2
  · refine ⟨own_far h1.runs k1 _ _, ?_, own_far h1.days k3 _ _, own_far h1.paid k4 _ _⟩
    rw [e]
    have h2 := own_set h1.calls (k * 5 + 3) (.int .i64 hi')
    rw [flat_set (f := caF) caF_len (i := 3) (u := .int .i64 hi') (by decide) hC (x' := { c with sh := ⟨c.sh.lo, hi'⟩ }) rfl] at h2
    exact h2
/-- The first k calls are numbered otherwise. -/
def turnK (p : PayD) (k : Nat) : PayD := { p with calls := (p.calls.take k).map (turn p.people) ++ p.calls.drop k }
theorem turnK_zero (p : PayD) : turnK p 0 = p := rfl
theorem turnK_all (p : PayD) : turnK p p.calls.length = turnP p := by
  unfold turnK turnP
  rw [List.take_length, List.drop_length, List.append_nil]
theorem turnK_len (p : PayD) (k : Nat) : (turnK p k).calls.length = p.calls.length := by
  show ((p.calls.take k).map _ ++ p.calls.drop k).length = _
  rw [List.length_append, List.length_map, List.length_take, List.length_drop]
  omega
theorem turnK_get {p : PayD} {k : Nat} {c : Ca} (hc : p.calls[k]? = some c) : (turnK p k).calls[k]? = some c := by
  have hk : k < p.calls.length := (List.getElem?_eq_some_iff.1 hc).1
  show ((p.calls.take k).map _ ++ p.calls.drop k)[k]? = _
  rw [List.getElem?_append_right (by simp; omega), List.length_map, List.length_take, List.getElem?_drop, show k + (k - min k p.calls.length) = k by omega, hc]
theorem turnK_step {p : PayD} {k : Nat} {c : Ca} (hc : p.calls[k]? = some c) : (turnK p k).calls.set k (turn p.people c) = (turnK p (k + 1)).calls := by
  have hk : k < p.calls.length := (List.getElem?_eq_some_iff.1 hc).1
  show ((p.calls.take k).map _ ++ p.calls.drop k).set k _ = (p.calls.take (k + 1)).map _ ++ p.calls.drop (k + 1)
  have hm : min k p.calls.length = k := by omega
  rw [List.set_append, if_neg (by simp; omega), List.length_map, List.length_take, hm, Nat.sub_self, take_snoc hc, List.map_append, List.append_assoc]
  congr 1
  rw [List.drop_eq_getElem_cons hk, List.set_cons_zero]
  rfl
theorem OwnPay.setWho {w : World} {B g1 c1 g2 c2 g3 c3 g4 c4 k : Nat} {c : Ca} (h : OwnPay w B (turnK p k) g1 c1 g2 c2 g3 c3 g4 c4) (hc : p.calls[k]? = some c) :
    OwnPay (w.setCell ⟨g2, k * 5, none⟩ (.int .i64 (p.people - 1 - c.who))) B (turnK p (k + 1)) g1 c1 g2 c2 g3 c3 g4 c4 := by
  have k1 := own_ne h.runs h.calls (by decide)
  have k3 := own_ne h.days h.calls (by decide)
  have k4 := own_ne h.paid h.calls (by decide)
  refine ⟨own_far h.runs k1 _ _, ?_, own_far h.days k3 _ _, own_far h.paid k4 _ _⟩
  have h2 := own_set h.calls (k * 5 + 0) (.int .i64 (p.people - 1 - c.who))
  rw [flat_set (f := caF) caF_len (i := 0) (u := .int .i64 (p.people - 1 - c.who)) (by decide) (turnK_get hc) (x' := turn p.people c) rfl, turnK_step hc] at h2
  rw [turnK_len] at h2 ⊢
  exact h2
theorem OwnPay.whoCell {w : World} {B g1 c1 g2 c2 g3 c3 g4 c4 N : Nat} {c : Ca} (h : OwnPay w B p g1 c1 g2 c2 g3 c3 g4 c4) (hc : p.calls[N]? = some c) :
    w.cell? ⟨g2, N * 5, none⟩ = some (.int .i64 c.who) ∧ (∀ j, w.frozen? ⟨g2, j, none⟩ = false) ∧ g2 < w.heap.size ∧ B ≤ g2 := by
  obtain ⟨cur, hb, hB, _⟩ := own_blk h.calls
  obtain ⟨b, off, e, _, h0, _⟩ := RdCalls.of_g (RdG.of_own caF_len (by decide) h.calls (Nat.le_refl _) rfl) N c hc
  obtain ⟨rfl, rfl⟩ : g2 = b ∧ 0 = off := by simpa using e
  rw [Nat.zero_add] at h0
  exact ⟨h0, fun j => hb.frozen j, hb.lt, hB⟩
end
end Go.Proofs.YtlcolpnniipgbaaDoor
namespace Go.Proofs.YtlcolpnniipgbaaDoor
open Go.RowKit Go.Hav
section
variable {people rate bill : Int} {ra ca da pa : Option Addr} {rl rc cl cc dl dc pl pc : Nat} {p : PayD}
/-- As payIn, for a pay that may be invalid: only the lengths are asked. -/
theorem OwnPay.payOf {w : World} {B g1 c1 g2 c2 g3 c3 g4 c4 : Nat} (h : OwnPay w B p g1 c1 g2 c2 g3 c3 g4 c4) (m1 : rl ≤ 1000) (m2 : cl ≤ 1000) (m3 : dl ≤ 1000) (m4 : pl ≤ 1000) (e1 : p.people = people) (e2 : p.runs.length = rl) (e3 : p.calls.length = cl) (e4 : p.rate = rate) (e5 : p.bill = bill) (e6 : p.days.length = dl) (e7 : p.paid.length = pl) :
    PayIn w w.heap.size people (some ⟨g1, 0, none⟩) rl (some ⟨g2, 0, none⟩) cl rate bill (some ⟨g3, 0, none⟩) dl (some ⟨g4, 0, none⟩) pl p := by
  subst e1 e2 e3 e4 e5 e6 e7
  exact ⟨rfl, rfl, rfl, rfl, rfl, rfl, rfl, by omega, by omega, by omega, by omega, RdSpans.of_g (RdG.of_own spF_len (by decide) h.runs (Nat.le_refl _) rfl), RdCalls.of_g (RdG.of_own caF_len (by decide) h.calls (Nat.le_refl _) rfl), RdInts.of_g (RdG.of_own inF_len (by decide) h.days (Nat.le_refl _) rfl), RdPaid.of_g (RdG.of_own pdF_len (by decide) h.paid (Nat.le_refl _) rfl)⟩
end
section
variable {p v : PayD}
/-- One answer of a valid pay v that is known better than p: its error e' is 0 or 10; at 0 p's own error is 0 too, and the span lies within p's. -/
theorem narrow_ans (h : Narrow p v) (hv : payB p = true) (hv' : payB v = true) {b b' : Bool} (hb : b = true) (hb' : b' = true) {s s' S S' : Sp} {e e' : Int}
    (h1 : spanR (checkE p b true) s = (S, e)) (h2 : spanR (checkE v b' true) s' = (S', e')) (hs : s.lo ≤ s'.lo ∧ s'.hi ≤ s.hi) :
    e' = (if wrongI v = 0 then 0 else 10) ∧ (e' = 0 → e = 0 ∧ inS S' S = true) := by
  by_cases ht : wrongI v = 0
  · rw [spanR_ok hv' ht hb'] at h2
    obtain ⟨rfl, rfl⟩ := Prod.mk.inj h2
    refine ⟨by rw [if_pos ht], fun _ => ?_⟩
    rw [spanR_ok hv (h.wrong hv hv' ht) hb] at h1
    obtain ⟨rfl, rfl⟩ := Prod.mk.inj h1
    exact ⟨rfl, inS_true hs.1 hs.2⟩
  · rw [spanR_clash hv' ht hb'] at h2
    obtain ⟨rfl, rfl⟩ := Prod.mk.inj h2
    exact ⟨by rw [if_neg ht], fun h => by cases h⟩
/-- The same check, the same span: the same answer. -/
theorem same_ans {b b' : Bool} (hv : payB p = true) (hv' : payB v = true) (hb : b = true) (hb' : b' = true) (hw : wrongI v = wrongI p) {s s' S S' : Sp} {e e' : Int}
    (h1 : spanR (checkE p b true) s = (S, e)) (h2 : spanR (checkE v b' true) s' = (S', e')) (hs : s' = s) : S' = S ∧ e' = e := by
  subst hs
  by_cases ht : wrongI p = 0
  · rw [spanR_ok hv' (hw.trans ht) hb'] at h2
    rw [spanR_ok hv ht hb] at h1
    obtain ⟨rfl, rfl⟩ := Prod.mk.inj h2
    obtain ⟨rfl, rfl⟩ := Prod.mk.inj h1
    exact ⟨rfl, rfl⟩
  · rw [spanR_clash hv' (by rw [hw]; exact ht) hb'] at h2
    rw [spanR_clash hv ht hb] at h1
    obtain ⟨rfl, rfl⟩ := Prod.mk.inj h2
    obtain ⟨rfl, rfl⟩ := Prod.mk.inj h1
    exact ⟨rfl, rfl⟩
end
end Go.Proofs.YtlcolpnniipgbaaDoor
