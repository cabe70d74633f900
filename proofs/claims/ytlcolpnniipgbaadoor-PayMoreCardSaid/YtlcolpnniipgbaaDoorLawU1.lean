/- A list of lists of numbers in rows of its own, and what stays of it; the runs of a copy that are counted anew. No condition but that they lie so. -/
import Derived.Test.YtlcolpnniipgbaaDoorLawU0
import Derived.Test.YtlcolpnniipgbaaDoorLawE0
namespace Go.Proofs.YtlcolpnniipgbaaDoor
open Go.RowKit Go.Hav
theorem conv16 {a : Act} {o : Oper} {x : Operand} {n : Int} (ho : o.op = .convert 97 3 x) (hx : a.eval x = .int .u16 n) (n0 : 0 ≤ n) (n1 : n ≤ 65535) (w : World) : (execOp a.eval o).run Tryd.prog w = .ok (.value (.int .i64 n)) w := by
  have h := run_convert_int (P := Tryd.prog) w 97 3 .u16 n (by kernel_rfl) (by kernel_rfl)
  rw [show Tryd.prog.intKind 3 = .i64 by kernel_rfl, IntWalk.i64_in n (by omega)] at h
  unfold execOp
  rw [ho]
  simp only [hx]
  show Sem.run Tryd.prog (do pure (Next.value (← convert 97 3 (.int .u16 n)))) w = _
  simp [go_sem, h]
/-- A slice of numbers of type uint16. -/
def U16In (w : World) (B : Nat) (A : Option Addr) (n : Nat) : Prop := ∀ k, k < n → ∃ b off v, A = some ⟨b, off, none⟩ ∧ b < B ∧ w.cell? ⟨b, off + k, none⟩ = some (.int .u16 v) ∧ 0 ≤ v ∧ v ≤ 65535
theorem U16In.grow {w w' : World} {B : Nat} {A : Option Addr} {n : Nat} (h : U16In w B A n) (hb : Below B w w') : U16In w' B A n := fun k hk => by
  obtain ⟨b, off, v, e, hl, h0, r⟩ := h k hk
  exact ⟨b, off, v, e, hl, (hb.cell (p := ⟨b, _, none⟩) hl).trans h0, r⟩
theorem U16In.more {w : World} {B B' : Nat} {A : Option Addr} {n : Nat} (h : U16In w B A n) (hb : B ≤ B') : U16In w B' A n := fun k hk => by
  obtain ⟨b, off, v, e, hl, r⟩ := h k hk
  exact ⟨b, off, v, e, by omega, r⟩
theorem own_grown {w w' : World} {B n c g : Nat} {e : TypeId} {sz : Nat} {xs : List Value} {row : Option Nat} (h : w.ownsRow B e sz (.slice (some ⟨g, 0, none⟩) n c) n xs) (hb : w.grownBy w' row) (hne : some g ≠ row) : w'.ownsRow B e sz (.slice (some ⟨g, 0, none⟩) n c) n xs := by
  obtain ⟨cur, h1, h2, h3, h4, h5, h6⟩ := own_blk h
  exact ⟨h.1, .inr ⟨g, c, cur, rfl, h2, h1.grown hb hne, h3, h4, h5, h6⟩⟩
/-- A row of another type lies elsewhere. -/
theorem own_out {w : World} {B n g : Nat} {e t : TypeId} {sz : Nat} {v : Value} {xs : List Value} {cs : Array Value} (h : w.ownsRow B e sz v n xs) (hb : Blk w g t cs) (he : e ≠ t) : some g ≠ v.ownBlock := by
  rcases h.2 with ⟨rfl, _⟩ | ⟨g', c', cur, rfl, _, h3, _⟩
  · intro h; cases h
  · intro hg
    have : g = g' := by simpa [Value.ownBlock] using hg
    subst this
    unfold Blk at hb
    rw [hb] at h3
    injection h3 with h3
    injection h3 with _ h3
    exact he h3.symm
/-- The rows of a list of lists of n numbers each. -/
structure RowsIn (w : World) (B : Nat) (vs : List Value) (L : List (List Int)) (n : Nat) : Prop where
  len : vs.length = L.length
  row : ∀ (r : Nat) l, L[r]? = some l → l.length = n ∧ ∃ g c, vs[r]? = some (.slice (some ⟨g, 0, none⟩) n c) ∧ w.ownsRow B 3 1 (.slice (some ⟨g, 0, none⟩) n c) n (l.flatMap inF)
theorem RowsIn.nil (w : World) (B n : Nat) : RowsIn w B [] [] n := ⟨rfl, fun r l h => by simp at h⟩
theorem RowsIn.below {w w' : World} {B n : Nat} {vs : List Value} {L : List (List Int)} (h : RowsIn w B vs L n) (hb : Below w.heap.size w w') : RowsIn w' B vs L n :=
  ⟨h.len, fun r l hl => by obtain ⟨h1, g, c, h2, h3⟩ := h.row r l hl; exact ⟨h1, g, c, h2, own_below h3 hb⟩⟩
theorem RowsIn.far {w : World} {B n : Nat} {vs : List Value} {L : List (List Int)} (h : RowsIn w B vs L n) {b : Nat} {t : TypeId} {cs : Array Value} (hb : Blk w b t cs) (ht : t ≠ 3) (j : Nat) (u : Value) : RowsIn (w.setCell ⟨b, j, none⟩ u) B vs L n :=
  ⟨h.len, fun r l hl => by
    obtain ⟨h1, g, c, h2, h3⟩ := h.row r l hl
    refine ⟨h1, g, c, h2, own_far h3 (fun e => ?_) j u⟩
    subst e
    exact own_out h3 hb (fun e => ht e.symm) rfl⟩
/-- One list more. -/
theorem RowsIn.snoc {w w' : World} {B n k : Nat} {vs : List Value} {L : List (List Int)} {v v8 : Value} {l : List Int} (h : RowsIn w B vs L n) (ho : w.ownsRow B 24 1 v k vs) (hb : w.grownBy w' v.ownBlock)
    (hl : l.length = n) (hn : 0 < n) (hr : w.ownsRow B 3 1 v8 n (l.flatMap inF)) : RowsIn w' B (vs ++ [v8]) (L ++ [l]) n := by
  have key : ∀ {g c : Nat} {l : List Int}, w.ownsRow B 3 1 (.slice (some ⟨g, 0, none⟩) n c) n (l.flatMap inF) → w'.ownsRow B 3 1 (.slice (some ⟨g, 0, none⟩) n c) n (l.flatMap inF) := fun {g c l} h3 => by
    obtain ⟨cur, hk, _⟩ := own_blk h3
    exact own_grown h3 hb (own_out ho hk (by decide))
  refine ⟨by rw [List.length_append, List.length_append, h.len]; rfl, fun r l' hl' => ?_⟩
  by_cases e : r < L.length
  · rw [List.getElem?_append_left e] at hl'
    obtain ⟨h1, g, c, h2, h3⟩ := h.row r l' hl'
    exact ⟨h1, g, c, by rw [List.getElem?_append_left (by rw [h.len]; exact e)]; exact h2, key h3⟩
  · have hr' : r = L.length := by
      have := (List.getElem?_eq_some_iff.1 hl').1
      rw [List.length_append] at this
      simp at this
      omega
    subst hr'
    rw [List.getElem?_append_right (Nat.le_refl _), Nat.sub_self] at hl'
    obtain rfl : l = l' := by simpa using hl'
    rcases hr.2 with ⟨_, h0⟩ | ⟨g, c, cur, rfl, _⟩
    · omega
    · exact ⟨hl, g, c, by rw [← h.len, List.getElem?_append_right (Nat.le_refl _), Nat.sub_self]; rfl, key hr⟩
theorem RowsIn.map {w w' : World} {B n : Nat} {vs : List Value} {L : List (List Int)} (h : RowsIn w B vs L n) (hk : ∀ e sz u m xs, w.ownsRow B e sz u m xs → w'.ownsRow B e sz u m xs) : RowsIn w' B vs L n :=
  ⟨h.len, fun r l hl => by obtain ⟨h1, g, c, h2, h3⟩ := h.row r l hl; exact ⟨h1, g, c, h2, hk _ _ _ _ _ h3⟩⟩
theorem outer_far {w : World} {B k b : Nat} {v : Value} {vs : List Value} {t : TypeId} {cs : Array Value} (h : w.ownsRow B 24 1 v k vs) (hb : Blk w b t cs) (ht : t ≠ 24) (j : Nat) (u : Value) : (w.setCell ⟨b, j, none⟩ u).ownsRow B 24 1 v k vs :=
  ownsRow_setCell_other h (fun e => own_out h hb (fun e2 => ht e2.symm) e.symm) u
theorem OwnPay.grown {p : PayD} {w w' : World} {B B' k g1 c1 g2 c2 g3 c3 g4 c4 : Nat} {v : Value} {vs : List Value} (h : OwnPay w B p g1 c1 g2 c2 g3 c3 g4 c4) (ho : w.ownsRow B' 24 1 v k vs) (hb : w.grownBy w' v.ownBlock) : OwnPay w' B p g1 c1 g2 c2 g3 c3 g4 c4 := by
  obtain ⟨_, b1, _⟩ := own_blk h.runs
  obtain ⟨_, b2, _⟩ := own_blk h.calls
  obtain ⟨_, b3, _⟩ := own_blk h.days
  obtain ⟨_, b4, _⟩ := own_blk h.paid
  exact ⟨own_grown h.runs hb (own_out ho b1 (by decide)), own_grown h.calls hb (own_out ho b2 (by decide)), own_grown h.days hb (own_out ho b3 (by decide)), own_grown h.paid hb (own_out ho b4 (by decide))⟩
/-- The pay with other counts of its runs. -/
def runsP (p : PayD) (R : List Sp) : PayD := { p with runs := R }
/-- One run's truth. -/
structure RunOk (p : PayD) (n : Nat) (r : Nat) (l : List Int) (s : Sp) : Prop where
  len : l.length = n
  called : ∀ (who : Nat) t, l[who]? = some t → (calledS p who r).lo ≤ t ∧ t ≤ (calledS p who r).hi
  lo : 0 ≤ s.lo ∧ s.lo ≤ sumF l n
  hi : sumF l n ≤ s.hi ∧ s.hi ≤ 400
/-- The first k runs are counted rightly. -/
structure TInv (p : PayD) (n : Nat) (R : List Sp) (L : List (List Int)) (k : Nat) : Prop where
  lenR : R.length = p.runs.length
  lenL : L.length = k
  rest : ∀ m, k ≤ m → R[m]? = p.runs[m]?
  ok : ∀ m l, L[m]? = some l → ∃ s, R[m]? = some s ∧ RunOk p n m l s
theorem TInv.zero (p : PayD) (n : Nat) : TInv p n p.runs [] 0 := ⟨rfl, rfl, fun _ _ => rfl, fun m l h => by simp at h⟩
theorem TInv.step {p : PayD} {n k : Nat} {R : List Sp} {L : List (List Int)} (h : TInv p n R L k) (hk : k < p.runs.length) {l : List Int} {s : Sp} (hl : RunOk p n k l s) : TInv p n (R.set k s) (L ++ [l]) (k + 1) := by
  refine ⟨by rw [List.length_set]; exact h.lenR, by rw [List.length_append, h.lenL]; rfl, fun m hm => ?_, fun m l' hl' => ?_⟩
  · rw [List.getElem?_set_ne (by omega)]; exact h.rest m (by omega)
  · by_cases e : m < k
    · rw [List.getElem?_append_left (by rw [h.lenL]; exact e)] at hl'
      obtain ⟨s', h1, h2⟩ := h.ok m l' hl'
      exact ⟨s', by rw [List.getElem?_set_ne (by omega)]; exact h1, h2⟩
    · have hm : m = k := by
        have := (List.getElem?_eq_some_iff.1 hl').1
        rw [List.length_append, h.lenL] at this
        simp at this
        omega
      subst hm
      rw [List.getElem?_append_right (by rw [h.lenL]; omega), h.lenL, Nat.sub_self] at hl'
      obtain rfl : l = l' := by simpa using hl'
      exact ⟨s, List.getElem?_set_self (by rw [h.lenR]; exact hk), hl⟩
theorem payB_runs {p : PayD} (h : payB p = true) {R : List Sp} (hl : R.length = p.runs.length) (hR : ∀ s ∈ R, 0 ≤ s.lo ∧ s.lo ≤ s.hi ∧ s.hi ≤ 400) : payB (runsP p R) = true := by
  simp only [payB, Bool.and_eq_true] at h ⊢
  obtain ⟨⟨⟨⟨a, b⟩, c⟩, d⟩, e⟩ := h
  refine ⟨⟨⟨⟨(show headB (runsP p R) = headB p by simp only [headB, runsP, hl]; rfl).trans a, ?_⟩, ?_⟩, d⟩, ?_⟩
  · rw [List.all_eq_true]
    intro x hx
    exact spanB_iff.2 (hR x hx)
  · rw [List.all_eq_true] at c ⊢
    intro x hx
    simpa [callB, whoB, runB, runsP, hl] using c x hx
  · rw [List.all_eq_true] at e ⊢
    intro x hx
    simpa [paidB, whoB, runB, runsP, hl] using e x hx
/-- How many a shearer has shorn in a run. -/
def tv (L : List (List Int)) (r who : Int) : Int := (((L[r.toNat]?).getD [])[who.toNat]?).getD 0
theorem sumI_list (l : List Int) : ∀ n : Nat, sumI (fun who => (l[who.toNat]?).getD 0) n 0 = sumF l n := by
  intro n
  induction n with
  | zero => rfl
  | succ n ih =>
    rw [sumI_snoc, ih, sumF, Int.zero_add, Int.toNat_natCast]
section
variable {p : PayD} {n : Nat} {R : List Sp} {L : List (List Int)}
theorem TInv.payB (h : TInv p n R L p.runs.length) (hv : Go.Proofs.YtlcolpnniipgbaaDoor.payB p = true) : Go.Proofs.YtlcolpnniipgbaaDoor.payB (runsP p R) = true := by
  refine payB_runs hv h.lenR fun s hs => ?_
  obtain ⟨m, hm⟩ := List.getElem?_of_mem hs
  have hmR : m < R.length := (List.getElem?_eq_some_iff.1 hm).1
  have hmL : m < L.length := by rw [h.lenL, ← h.lenR]; exact hmR
  obtain ⟨s', h1, h2⟩ := h.ok m (L[m]) (by simp)
  obtain rfl := Option.some.inj (hm.symm.trans h1)
  have := h2.lo
  have := h2.hi
  omega
theorem TInv.truth (h : TInv p n R L p.runs.length) (hn : p.people = n) : Truth (runsP p R) (tv L) := by
  have row : ∀ r : Int, 0 ≤ r → r < (runsP p R).runs.length → ∃ l s, L[r.toNat]? = some l ∧ R[r.toNat]? = some s ∧ RunOk p n r.toNat l s := fun r r0 r1 => by
    have hr : r.toNat < L.length := by have e : (runsP p R).runs.length = R.length := rfl; rw [h.lenL, ← h.lenR]; omega
    obtain ⟨s, h1, h2⟩ := h.ok r.toNat (L[r.toNat]) (by simp)
    exact ⟨_, s, by simp, h1, h2⟩
  constructor
  · intro r who r0 r1 w0 w1
    obtain ⟨l, s, h1, h2, h3⟩ := row r r0 r1
    have hw : who.toNat < l.length := by have e : (runsP p R).people = p.people := rfl; rw [h3.len]; omega
    have := h3.called who.toNat (l[who.toNat]) (by simp)
    rw [show ((who.toNat : Nat) : Int) = who by omega, show ((r.toNat : Nat) : Int) = r by omega] at this
    unfold tv
    rw [h1]
    simp only [Option.getD_some]
    rw [List.getElem?_eq_getElem hw]
    exact this
  · intro r r0 r1
    obtain ⟨l, s, h1, h2, h3⟩ := row r r0 r1
    have e : sumI (tv L r) (runsP p R).people.toNat 0 = sumF l n := by
      rw [show (runsP p R).people.toNat = n by show p.people.toNat = n; omega, ← sumI_list l n]
      congr 1
      funext who
      unfold tv
      rw [h1]; rfl
    rw [e, runS_some (p := runsP p R) h2]
    exact ⟨h3.lo.2, h3.hi.1⟩
end
/-- The list of lists, as it is read. -/
def SheepIn (w : World) (A : Option Addr) (L : List (List Int)) (n : Nat) : Prop :=
  ∀ (r : Nat) l, L[r]? = some l → l.length = n ∧ ∃ b g c, A = some ⟨b, 0, none⟩ ∧ b < w.heap.size ∧ w.cell? ⟨b, r, none⟩ = some (.slice (some ⟨g, 0, none⟩) n c) ∧ g < w.heap.size ∧ ∀ (k : Nat) t, l[k]? = some t → w.cell? ⟨g, k, none⟩ = some (.int .i64 t)
theorem SheepIn.below {w w' : World} {A : Option Addr} {L : List (List Int)} {n : Nat} (h : SheepIn w A L n) (hb : Below w.heap.size w w') : SheepIn w' A L n := fun r l hl => by
  obtain ⟨h0, b, g, c, h1, h2, h3, h4, h5⟩ := h r l hl
  have hs := hb.size
  exact ⟨h0, b, g, c, h1, by omega, (hb.cell (p := ⟨b, r, none⟩) h2).trans h3, by omega, fun k t hk => (hb.cell (p := ⟨g, k, none⟩) h4).trans (h5 k t hk)⟩
theorem SheepIn.of {w : World} {B n k : Nat} {v : Value} {vs : List Value} {L : List (List Int)} (ho : w.ownsRow B 24 1 v k vs) (hr : RowsIn w B vs L n) (hk : 0 < k) : ∃ g c, v = .slice (some ⟨g, 0, none⟩) k c ∧ SheepIn w (some ⟨g, 0, none⟩) L n := by
  rcases ho.2 with ⟨_, h0⟩ | ⟨g, c, cur, rfl, _, hh, _, _, hsz, htk⟩
  · omega
  · refine ⟨g, c, rfl, fun r l hl => ?_⟩
    obtain ⟨h0, g', c', h1, h2⟩ := hr.row r l hl
    obtain ⟨cur', hb', _⟩ := own_blk h2
    have hB : Blk w g 24 cur := hh
    refine ⟨h0, g, g', c', rfl, hB.lt, ?_, hb'.lt, fun k' t ht => ?_⟩
    · rw [hB.cell]
      rw [← htk, List.getElem?_take] at h1
      split at h1
      · simpa using h1
      · cases h1
    · obtain ⟨b, off, e, _, hc⟩ := RdInts.of_g (RdG.of_own inF_len (by decide) h2 (Nat.le_refl _) rfl) k' t ht
      obtain ⟨rfl, rfl⟩ : g' = b ∧ 0 = off := by simpa using e
      rwa [Nat.zero_add] at hc
end Go.Proofs.YtlcolpnniipgbaaDoor
