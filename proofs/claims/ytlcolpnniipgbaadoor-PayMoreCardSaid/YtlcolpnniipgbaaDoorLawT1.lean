/- A cell of an own row is stored: the row holds the new list. No condition but that the cell lies in the row. -/
import Derived.Test.YtlcolpnniipgbaaDoorLawT0
import Derived.Test.YtlcolpnniipgbaaDoorLawG
namespace Go.Proofs.YtlcolpnniipgbaaDoor
open Go.RowKit Go.Hav
theorem conv8 {a : Act} {o : Oper} {x : Operand} {n : Int} (ho : o.op = .convert 5 3 x) (hx : a.eval x = .int .u8 n) (n0 : 0 ≤ n) (n1 : n ≤ 255) (w : World) : (execOp a.eval o).run Tryd.prog w = .ok (.value (.int .i64 n)) w := by
  have h := run_convert_int (P := Tryd.prog) w 5 3 .u8 n (by kernel_rfl) (by kernel_rfl)
  rw [show Tryd.prog.intKind 3 = .i64 by kernel_rfl, IntWalk.i64_in n (by omega)] at h
  unfold execOp
  rw [ho]
  simp only [hx]
  show Sem.run Tryd.prog (do pure (Next.value (← convert 5 3 (.int .u8 n)))) w = _
  simp [go_sem, h]
theorem own_blk {w : World} {B n c g : Nat} {e : TypeId} {sz : Nat} {xs : List Value} (h : w.ownsRow B e sz (.slice (some ⟨g, 0, none⟩) n c) n xs) : ∃ cur, Blk w g e cur ∧ B ≤ g ∧ n ≤ c ∧ c ≤ maxLen ∧ cur.size = c * sz ∧ cur.toList.take (n * sz) = xs := by
  rcases h.2 with ⟨h1, _⟩ | ⟨g', c', cur, h1, h2, h3, h4, h5, h6, h7⟩
  · cases h1
  · cases h1
    exact ⟨cur, h3, h2, h4, h5, h6, h7⟩
theorem own_set {w : World} {B n c g : Nat} {e : TypeId} {sz : Nat} {xs : List Value} (h : w.ownsRow B e sz (.slice (some ⟨g, 0, none⟩) n c) n xs) (j : Nat) (u : Value) :
    (w.setCell ⟨g, j, none⟩ u).ownsRow B e sz (.slice (some ⟨g, 0, none⟩) n c) n (xs.set j u) := by
  obtain ⟨cur, h1, h2, h3, h4, h5, h6⟩ := own_blk h
  refine ⟨by rw [List.length_set]; exact h.1, .inr ⟨g, c, cur.setIfInBounds j u, rfl, h2, h1.set_ j u, h3, h4, by simp [h5], ?_⟩⟩
  rw [Array.toList_setIfInBounds, List.take_set, h6]
theorem flat_set {α : Type} {f : α → List Value} {sz : Nat} (hsz : ∀ x, (f x).length = sz) {l : List α} {k i : Nat} {x x' : α} {u : Value} (hi : i < sz) (hx : l[k]? = some x) (hf : f x' = (f x).set i u) :
    (l.flatMap f).set (k * sz + i) u = (l.set k x').flatMap f := by
  have hk : k < l.length := (List.getElem?_eq_some_iff.1 hx).1
  have hlen : k * sz + i < l.length * sz := by
    have : (k + 1) * sz ≤ l.length * sz := Nat.mul_le_mul_right sz hk
    rw [Nat.succ_mul] at this
    omega
  apply List.ext_getElem?
  intro j
  have hj : j / sz * sz + j % sz = j := Nat.div_add_mod' j sz
  have hm : j % sz < sz := Nat.mod_lt j (by omega)
  generalize j / sz = a at hj
  generalize j % sz = b at hj hm
  subst hj
  rw [flat_get f sz hsz _ _ _ hm]
  by_cases e : k = a
  · subst e
    rw [List.getElem?_set_self hk]
    show _ = (f x')[b]?
    rw [hf]
    by_cases e2 : i = b
    · subst e2
      rw [List.getElem?_set_self (by rw [flat_len f sz hsz]; exact hlen), List.getElem?_set_self (by rw [hsz]; exact hi)]
    · rw [List.getElem?_set_ne (by omega), List.getElem?_set_ne e2, flat_get f sz hsz _ _ _ hm, hx]
      rfl
  · rw [List.getElem?_set_ne e, List.getElem?_set_ne, flat_get f sz hsz _ _ _ hm]
    intro h
    rcases Nat.lt_trichotomy k a with h1 | h1 | h1
    · have : (k + 1) * sz ≤ a * sz := Nat.mul_le_mul_right sz h1
      rw [Nat.succ_mul] at this
      omega
    · exact e h1
    · have : (a + 1) * sz ≤ k * sz := Nat.mul_le_mul_right sz h1
      rw [Nat.succ_mul] at this
      omega
theorem own_strike {w : World} {B n c g k : Nat} {l : List Ca} {x : Ca} (h : w.ownsRow B 55 5 (.slice (some ⟨g, 0, none⟩) n c) n (l.flatMap caF)) (hx : l[k]? = some x) :
    (w.setCell ⟨g, k * 5 + 4, none⟩ (.bool true)).ownsRow B 55 5 (.slice (some ⟨g, 0, none⟩) n c) n ((l.set k (strike x)).flatMap caF) := by
  have := own_set h (k * 5 + 4) (.bool true)
  rw [flat_set (f := caF) caF_len (i := 4) (u := .bool true) (by decide) hx (x' := strike x) rfl] at this
  exact this
section
variable {people rate bill : Int} {ra ca da pa : Option Addr} {rl rc cl cc dl dc pl pc : Nat} {p : PayD}
/-- A pay of which each list lies in a row of its own reads as itself. -/
theorem OwnPay.reads {w : World} {B g1 c1 g2 c2 g3 c3 g4 c4 : Nat} (h : OwnPay w B p g1 c1 g2 c2 g3 c3 g4 c4) (hv : payB p = true) :
    PayIn w w.heap.size p.people (some ⟨g1, 0, none⟩) p.runs.length (some ⟨g2, 0, none⟩) p.calls.length p.rate p.bill (some ⟨g3, 0, none⟩) p.days.length (some ⟨g4, 0, none⟩) p.paid.length p := by
  have hb := payB_people hv
  have hr := payB_rate hv
  exact ⟨rfl, rfl, rfl, rfl, rfl, rfl, rfl, by omega, by omega, by omega, by omega, RdSpans.of_g (RdG.of_own spF_len (by decide) h.runs (Nat.le_refl _) rfl), RdCalls.of_g (RdG.of_own caF_len (by decide) h.calls (Nat.le_refl _) rfl), RdInts.of_g (RdG.of_own inF_len (by decide) h.days (Nat.le_refl _) rfl), RdPaid.of_g (RdG.of_own pdF_len (by decide) h.paid (Nat.le_refl _) rfl)⟩
theorem OwnPay.payIn {w : World} {B g1 c1 g2 c2 g3 c3 g4 c4 : Nat} (h : OwnPay w B p g1 c1 g2 c2 g3 c3 g4 c4) (hv : payB p = true) (e1 : p.people = people) (e2 : p.runs.length = rl) (e3 : p.calls.length = cl) (e4 : p.rate = rate) (e5 : p.bill = bill) (e6 : p.days.length = dl) (e7 : p.paid.length = pl) :
    PayIn w w.heap.size people (some ⟨g1, 0, none⟩) rl (some ⟨g2, 0, none⟩) cl rate bill (some ⟨g3, 0, none⟩) dl (some ⟨g4, 0, none⟩) pl p := by
  subst e1 e2 e3 e4 e5 e6 e7
  exact h.reads hv
theorem OwnPay.below {w w' : World} {B g1 c1 g2 c2 g3 c3 g4 c4 : Nat} (h : OwnPay w B p g1 c1 g2 c2 g3 c3 g4 c4) (hb : Below w.heap.size w w') : OwnPay w' B p g1 c1 g2 c2 g3 c3 g4 c4 :=
  ⟨own_below h.runs hb, own_below h.calls hb, own_below h.days hb, own_below h.paid hb⟩
theorem own_ne {w : World} {B B' n n' c c' g g' : Nat} {e e' : TypeId} {sz sz' : Nat} {xs xs' : List Value} (h : w.ownsRow B e sz (.slice (some ⟨g, 0, none⟩) n c) n xs) (h' : w.ownsRow B' e' sz' (.slice (some ⟨g', 0, none⟩) n' c') n' xs') (he : e ≠ e') : g ≠ g' := by
  intro hg
  subst hg
  obtain ⟨cur, h1, _⟩ := own_blk h
  obtain ⟨cur', h2, _⟩ := own_blk h'
  unfold Blk at h1 h2
  rw [h1] at h2
  injection h2 with h2
  injection h2 with _ h3
  exact he h3
theorem own_far {w : World} {B n c g : Nat} {e : TypeId} {sz : Nat} {xs : List Value} (h : w.ownsRow B e sz (.slice (some ⟨g, 0, none⟩) n c) n xs) {b : Nat} (hne : g ≠ b) (j : Nat) (u : Value) : (w.setCell ⟨b, j, none⟩ u).ownsRow B e sz (.slice (some ⟨g, 0, none⟩) n c) n xs :=
  ownsRow_setCell_other h (by intro e; apply hne; simpa [Value.ownBlock] using e) u
theorem OwnPay.strike {w : World} {B g1 c1 g2 c2 g3 c3 g4 c4 N : Nat} {c : Ca} (h : OwnPay w B p g1 c1 g2 c2 g3 c3 g4 c4) (hc : p.calls[N]? = some c) : OwnPay (w.setCell ⟨g2, N * 5 + 4, none⟩ (.bool true)) B (struckP p N c) g1 c1 g2 c2 g3 c3 g4 c4 := by
  have k1 := own_ne h.runs h.calls (by decide)
  have k3 := own_ne h.days h.calls (by decide)
  have k4 := own_ne h.paid h.calls (by decide)
  have e : (struckP p N c).calls.length = p.calls.length := by unfold struckP; rw [List.length_set]
  have hs := own_strike h.calls hc
  refine ⟨own_far h.runs k1 _ _, ?_, own_far h.days k3 _ _, own_far h.paid k4 _ _⟩
  rw [e]; exact hs
theorem OwnPay.call {w : World} {B g1 c1 g2 c2 g3 c3 g4 c4 N : Nat} {c : Ca} (h : OwnPay w B p g1 c1 g2 c2 g3 c3 g4 c4) (hc : p.calls[N]? = some c) : w.cell? ⟨g2, N * 5 + 4, none⟩ = some (.bool c.struck) ∧ w.frozen? ⟨g2, N * 5 + 4, none⟩ = false ∧ g2 < w.heap.size ∧ B ≤ g2 := by
  obtain ⟨cur, hb, hB, _⟩ := own_blk h.calls
  obtain ⟨b, off, e, _, _, _, _, _, h4⟩ := RdCalls.of_g (RdG.of_own caF_len (by decide) h.calls (Nat.le_refl _) rfl) N c hc
  obtain ⟨rfl, rfl⟩ : g2 = b ∧ 0 = off := by simpa using e
  rw [Nat.zero_add] at h4
  exact ⟨h4, hb.frozen _, hb.lt, hB⟩
theorem news5 (w1 : World) (t : TypeId) (c : Ca) : ∀ j u, (caF c)[j]? = some u → (w1.alloc (.cells #[.int .i64 c.who, .int .i64 c.run, .int .i64 c.sh.lo, .int .i64 c.sh.hi, .bool c.struck] t)).cell? ((⟨w1.heap.size, 0, none⟩ : Addr).add j) = some u := by
  intro j u hu
  have h0 := (Blk.new w1 t #[.int .i64 c.who, .int .i64 c.run, .int .i64 c.sh.lo, .int .i64 c.sh.hi, .bool c.struck]).cell j
  rcases j with _ | _ | _ | _ | _ | j
  · simp [caF] at hu; subst hu; exact h0
  · simp [caF] at hu; subst hu; exact h0
  · simp [caF] at hu; subst hu; exact h0
  · simp [caF] at hu; subst hu; exact h0
  · simp [caF] at hu; subst hu; exact h0
  · simp [caF] at hu
/-- The copy's lists, and calls of its own, read as the pay with those calls. -/
theorem OwnPay.with_calls {w w' : World} {B B' g1 c1 g2 c2 g3 c3 g4 c4 : Nat} (hP : PayIn w w.heap.size people ra rl ca cl rate bill da dl pa pl p) {W : World} (h : OwnPay W B p g1 c1 g2 c2 g3 c3 g4 c4) (hb : Below W.heap.size W w') {A : Option Addr} {l c : Nat} {cs : List Ca} (hl : l = cs.length) (hl2 : l ≤ 1000) (ho : w'.ownsRow B' 55 5 (.slice A l c) l (cs.flatMap caF)) :
    PayIn w' w'.heap.size people (some ⟨g1, 0, none⟩) rl A l rate bill (some ⟨g3, 0, none⟩) dl (some ⟨g4, 0, none⟩) pl { p with calls := cs } := by
  have h2 := h.below hb
  have r1 := RdSpans.of_g (RdG.of_own spF_len (by decide) h2.runs (Nat.le_refl _) rfl)
  have r3 := RdInts.of_g (RdG.of_own inF_len (by decide) h2.days (Nat.le_refl _) rfl)
  have r4 := RdPaid.of_g (RdG.of_own pdF_len (by decide) h2.paid (Nat.le_refl _) rfl)
  subst hl
  exact ⟨hP.epeople, hP.erate, hP.ebill, hP.erl, rfl, hP.edl, hP.epl, hP.mrl, by omega, hP.mdl, hP.mpl, r1, RdCalls.of_g (RdG.of_own caF_len (by decide) ho (Nat.le_refl _) rfl), r3, r4⟩
end
end Go.Proofs.YtlcolpnniipgbaaDoor
