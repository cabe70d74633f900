/- The walk of the law's copied: a pay with lists of its own that reads as the pay did. -/
import Derived.Test.YtlcolpnniipgbaaDoorHavInv
import Derived.Test.YtlcolpnniipgbaaDoorLawF
import Derived.ArgAppend
namespace Go.Proofs.YtlcolpnniipgbaaDoor
open Go.RowKit Go.Hav
def slot (a : Act) (k : Nat) : Value := a.tmps.getD k undef
theorem slot_put {a : Act} {dst : Option Tmp} {k : Nat} (v : Value) (h : dst ≠ some k) : slot (a.put dst v) k = slot a k := by
  cases dst with
  | none => rfl
  | some d =>
    have hd : d ≠ k := fun e => h (by rw [e])
    simp only [slot, Act.put, Array.getD_eq_getD_getElem?]
    rw [Array.getElem?_setIfInBounds_ne hd]
theorem slot_self {a : Act} {d : Nat} (v : Value) (h : d < a.tmps.size) : slot (a.put (some d) v) d = v := by
  simp only [slot, Act.put, Array.getD_eq_getD_getElem?]
  rw [Array.getElem?_setIfInBounds_self_of_lt h]
  rfl
/-- What an operation of the region leaves: an empty row; a field's address; a value; a row that holds a list; a field that holds a slot's value. -/
inductive Kd
  | mk (d : Nat) (e : TypeId) (sz : Nat)
  | fa (d off : Nat)
  | ld (d : Nat) (v : Value)
  | ap (d : Nat) (e : TypeId) (sz n : Nat) (xs : List Value)
  | st (k d : Nat)
def fact (B b : Nat) (a : Act) (w : World) : Kd → Prop
  | .mk d e sz => (∃ g, slot a d = .slice (some ⟨g, 0, none⟩) 0 0) ∧ w.ownsRow B e sz (slot a d) 0 []
  | .fa d off => slot a d = .pointer (some ⟨b, off, none⟩)
  | .ld d v => slot a d = v
  | .ap d e sz n xs => (∃ g c, slot a d = .slice (some ⟨g, 0, none⟩) n c) ∧ w.ownsRow B e sz (slot a d) n xs
  | .st k d => w.cell? ⟨b, k, none⟩ = some (slot a d)
def Kd.at : Kd → Nat
  | .mk d _ _ => d
  | .fa d _ => d
  | .ld d _ => d
  | .ap d _ _ _ _ => d
  | .st _ d => d
def Kd.cell : Kd → Option Nat
  | .st k _ => some k
  | _ => none
theorem fact_keep {B b : Nat} {a : Act} {w w' : World} {dst : Option Tmp} (v : Value) (kd : Kd) (hd : dst ≠ some kd.at) (hown : ∀ e sz u n xs, w.ownsRow B e sz u n xs → w'.ownsRow B e sz u n xs)
    (hc : ∀ k, kd.cell = some k → w'.cell? ⟨b, k, none⟩ = w.cell? ⟨b, k, none⟩) (h : fact B b a w kd) : fact B b (a.put dst v) w' kd := by
  cases kd <;> simp only [fact, Kd.at, Kd.cell] at * <;> rw [slot_put v hd]
  · exact ⟨h.1, hown _ _ _ _ _ h.2⟩
  · exact h
  · exact h
  · exact ⟨h.1, hown _ _ _ _ _ h.2⟩
  · rw [hc _ rfl]; exact h
theorem step_ok {P : Program} {ops : Array Oper} {o : Oper} {a : Act} {w w' : World} {V : Value} {K : Act → World → Prop} {Q : Exit → Act → World → Prop} (hg : o.guard = none)
    (hx : (execOp a.eval o).run P w = .ok (.value V) w') (hK : K (a.put o.dst V) w') : stepOf P ops o a w K Q := by
  unfold stepOf Oper.wp
  rw [if_pos (by unfold Region.wanted; rw [hg]), hx]
  exact hK
/-- 'append([]T{}, l...)': a row of its own. -/
theorem append_copy {α : Type} {f : α → List Value} {P : Program} (t ty e : TypeId) (i : TypeInfo) (z : Value) (size bytes : Nat) (ht : P.underlying t = some (.slice e)) (hi : P.info? e = some i) (hz : i.zero = some z)
    (hsize : i.size = size) (hby : i.bytes = bytes) (hzs : z.cells.size = size) (hsz : 0 < size) (hf : ∀ x, (f x).length = size) {w : World} {B R g n c : Nat} {A : Option Addr} {l : List α} (hl : l.length = n) (hr : RdG f size w R A l)
    (hn : n ≤ 1000) (hby2 : bytes ≤ 1000) (hB : B ≤ w.heap.size) (hown : w.ownsRow B e size (.slice (some ⟨g, 0, none⟩) 0 0) 0 []) :
    ∃ v' w', (Builtin.append_ #[t, t] ty #[.slice (some ⟨g, 0, none⟩) 0 0, .slice A n c]).run P w = .ok v' w' ∧ (∃ g c, v' = .slice (some ⟨g, 0, none⟩) n c) ∧ w'.ownsRow B e size v' n (l.flatMap f) ∧ Grow w w' := by
  rcases Nat.eq_zero_or_pos n with h0 | h0
  · subst h0
    obtain rfl : l = [] := List.eq_nil_of_length_eq_zero hl
    refine ⟨.slice (some ⟨g, 0, none⟩) 0 0, w, ?_, ⟨g, 0, rfl⟩, hown, Grow.refl w⟩
    cases A with
    | some a => exact run_append_room_cells w t ty e i ht hi g 0 0 0 a 0 c [] (by simp) (by simp) (by simp) (by omega) (by simp) (by simp)
    | none => simp [Builtin.append_, run_underlying ht, sizeOf, typeInfo, hi, Builtin.lenOf, Builtin.firstCells, storeCells]
  · obtain ⟨b, off, rfl, _, _⟩ := hr 0 (l[0]'(by omega)) (by simp)
    have hln : (l.flatMap f).length = n * size := by rw [flat_len f size hf, hl]
    have hm : (0 + n) * bytes ≤ 1000 * 1000 := Nat.mul_le_mul (by omega) hby2
    obtain ⟨v', w', h1, h2, h3⟩ := run_append_arg_grows (P := P) w t ty e i z size bytes ht hi hz hsize hby hzs hsz ⟨g, 0, none⟩ 0 0 [] (by simp) (by simp) ⟨b, off, none⟩ n c (l.flatMap f) hln (hr.news hf hsz) (by omega) (by unfold maxLen; omega) (by omega)
    rw [Nat.zero_add, List.nil_append] at h2
    refine ⟨v', w', h1, ?_, ?_, (Below.refl w.heap.size w).grown h3 (by simp) (by simp)⟩
    · rcases h2.2 with ⟨_, h⟩ | ⟨g', c', _, h, _⟩
      · omega
      · exact ⟨g', c', h⟩
    · refine ⟨h2.1, ?_⟩
      rcases h2.2 with h | ⟨g', c', cur, k1, k2, k3⟩
      · exact .inl h
      · exact .inr ⟨g', c', cur, k1, by omega, k3⟩
theorem step_skip {P : Program} {ops : Array Oper} {o : Oper} {a : Act} {w w' : World} {K : Act → World → Prop} {Q : Exit → Act → World → Prop} (hg : o.guard = none)
    (hx : (execOp a.eval o).run P w = .ok .skip w') (hK : K (a.put o.dst undef) w') : stepOf P ops o a w K Q := by
  unfold stepOf Oper.wp
  rw [if_pos (by unfold Region.wanted; rw [hg]), hx]
  exact hK
theorem own_grow {B : Nat} {w w' : World} (h : Grow w w') {e : TypeId} {sz : Nat} {u : Value} {n : Nat} {xs : List Value} (ho : w.ownsRow B e sz u n xs) : w'.ownsRow B e sz u n xs := by
  refine ⟨ho.1, ?_⟩
  rcases ho.2 with h1 | ⟨g, c, cur, k1, k2, k3, k4⟩
  · exact .inl h1
  · exact .inr ⟨g, c, cur, k1, k2, (h.block g (Array.getElem?_eq_some_iff.1 k3).1).trans k3, k4⟩
/-- The region's world: the box b holds the pay's numbers and any slices; no other old block has changed. -/
def Gw (W0 : World) (b : Nat) (people rate bill : Int) (w : World) : Prop :=
  (∃ c1 c2 c5 c6, Blk w b 27 #[.int .i64 people, c1, c2, .int .i64 rate, .int .i64 bill, c5, c6]) ∧ Below b W0 w ∧ (∀ k, k < W0.heap.size → k ≠ b → w.heap[k]? = W0.heap[k]?) ∧ W0.heap.size ≤ w.heap.size
theorem Gw.grow {W0 : World} {b : Nat} {people rate bill : Int} {w w' : World} (h : Gw W0 b people rate bill w) (hg : Grow w w') : Gw W0 b people rate bill w' := by
  obtain ⟨⟨c1, c2, c5, c6, hb⟩, h2, h3, h4⟩ := h
  exact ⟨⟨c1, c2, c5, c6, hb.below hg hb.lt⟩, h2.trans (hg.mono (by have := hb.lt; omega)), fun k hk hne => (hg.block k (by omega)).trans (h3 k hk hne), Nat.le_trans h4 hg.size⟩
/-- The region's operations. -/
noncomputable def ops36 : Array Oper := match Tryd.f36.body with
  | some (.seq _ (.seq (.region _ ops _) _)) => ops
  | _ => #[]
def atN (j : Nat) : Nat := [3, 4, 5, 6, 7, 8, 9, 10, 11, 12, 13, 14, 15, 16, 17, 18, 19, 6, 20, 10, 21, 14, 22, 18].getD j 0
theorem chk1 : ((List.range 24).all fun i => (List.range 24).all fun j => i == j || (((Region.before ops36).getD j 0).testBit i || (match ops36[i]? with | some o => o.dst != some (atN j) | none => true))) = true := by kernel_rfl
theorem chk2 : ([17, 19, 21, 23].all fun i => (List.range 16).all fun j => ((Region.before ops36).getD i 0).testBit j) = true := by kernel_rfl
theorem size36 : ops36.size = 24 := by kernel_rfl
theorem o36 {i : Nat} {o : Oper} (h : ops36[i]? = some o) {X : Op} {D : Option Tmp} (hx : (ops36[i]?).map (fun o => (o.op, o.dst, o.guard)) = some (X, D, none)) : o.op = X ∧ o.dst = D ∧ o.guard = none := by
  rw [h] at hx
  simp only [Option.map_some, Option.some.injEq, Prod.mk.injEq] at hx
  exact hx
section
variable {people rate bill : Int} {ra ca da pa : Option Addr} {rl rc cl cc dl dc pl pc : Nat} {p : PayD}
def tab (ra : Option Addr) (rl rc : Nat) (ca : Option Addr) (cl cc : Nat) (da : Option Addr) (dl dc : Nat) (pa : Option Addr) (pl pc : Nat) (p : PayD) : Nat → Kd
  | 0 => .mk 3 34 2
  | 1 => .fa 4 1
  | 2 => .ld 5 (.slice ra rl rc)
  | 3 => .ap 6 34 2 rl (p.runs.flatMap spF)
  | 4 => .mk 7 55 5
  | 5 => .fa 8 2
  | 6 => .ld 9 (.slice ca cl cc)
  | 7 => .ap 10 55 5 cl (p.calls.flatMap caF)
  | 8 => .mk 11 3 1
  | 9 => .fa 12 5
  | 10 => .ld 13 (.slice da dl dc)
  | 11 => .ap 14 3 1 dl (p.days.flatMap inF)
  | 12 => .mk 15 49 3
  | 13 => .fa 16 6
  | 14 => .ld 17 (.slice pa pl pc)
  | 15 => .ap 18 49 3 pl (p.paid.flatMap pdF)
  | 16 => .fa 19 1
  | 17 => .st 1 6
  | 18 => .fa 20 2
  | 19 => .st 2 10
  | 20 => .fa 21 5
  | 21 => .st 5 14
  | 22 => .fa 22 6
  | 23 => .st 6 18
  | _ => .fa 0 0
theorem tab_at (j : Nat) (h : j < 24) : (tab ra rl rc ca cl cc da dl dc pa pl pc p j).at = atN j := by
  match j, h with
  | 0, _ | 1, _ | 2, _ | 3, _ | 4, _ | 5, _ | 6, _ | 7, _ | 8, _ | 9, _ | 10, _ | 11, _ | 12, _ | 13, _ | 14, _ | 15, _ | 16, _ | 17, _ | 18, _ | 19, _ | 20, _ | 21, _ | 22, _ | 23, _ => rfl
  | n + 24, h => exact absurd h (by omega)
theorem tab_cell (j k : Nat) (h : j < 24) (hc : (tab ra rl rc ca cl cc da dl dc pa pl pc p j).cell = some k) : (j = 17 ∧ k = 1) ∨ (j = 19 ∧ k = 2) ∨ (j = 21 ∧ k = 5) ∨ (j = 23 ∧ k = 6) := by
  match j, h with
  | 0, _ | 1, _ | 2, _ | 3, _ | 4, _ | 5, _ | 6, _ | 7, _ | 8, _ | 9, _ | 10, _ | 11, _ | 12, _ | 13, _ | 14, _ | 15, _ | 16, _ | 18, _ | 20, _ | 22, _ => simp [tab, Kd.cell] at hc
  | 17, _ | 19, _ | 21, _ | 23, _ => simp [tab, Kd.cell] at hc ⊢; exact hc.symm
  | n + 24, h => exact absurd h (by omega)
variable {W0 : World} {b : Nat}
def Ph36 (W0 : World) (b : Nat) (people rate bill : Int) (T : Nat → Kd) (i : Nat) (a : Act) (w : World) : Prop := Gw W0 b people rate bill w ∧ fact W0.heap.size b a w (T i)
def Rl36 (W0 : World) (b : Nat) (people rate bill : Int) (i : Nat) (w : World) : Prop := Gw W0 b people rate bill w ∧ (i < 16 → Below W0.heap.size W0 w)
theorem keeps_grow {i : Nat} {o : Oper} {a : Act} {w w' : World} (V : Value) (ho : ops36[i]? = some o) (hG : Gw W0 b people rate bill w) (hg : Grow w w')
    (hf : fact W0.heap.size b (a.put o.dst V) w' (tab ra rl rc ca cl cc da dl dc pa pl pc p i)) :
    Keeps ops36 (Ph36 W0 b people rate bill (tab ra rl rc ca cl cc da dl dc pa pl pc p)) (Rl36 W0 b people rate bill) i a w (a.put o.dst V) w' := by
  have hi : i < 24 := by rw [← size36]; exact (Array.getElem?_eq_some_iff.1 ho).1
  refine ⟨⟨hG.grow hg, hf⟩, fun j hj hne hb h => ⟨hG.grow hg, ?_⟩, fun j hj _ _ h => ⟨hG.grow hg, fun h16 => (h.2 h16).trans (hg.mono (h.2 h16).size)⟩⟩
  rw [size36] at hj
  refine fact_keep V _ ?_ (fun _ _ _ _ _ h => own_grow hg h) (fun k _ => ?_) h.2
  · rw [tab_at j hj]
    have := List.all_eq_true.1 (List.all_eq_true.1 chk1 i (List.mem_range.2 hi)) j (List.mem_range.2 hj)
    rw [ho, hb] at this
    simpa [Ne.symm hne] using this
  · obtain ⟨⟨c1, c2, c5, c6, hbk⟩, _⟩ := hG
    exact hg.cell (p := ⟨b, k, none⟩) hbk.lt
theorem Gw.store {w : World} (h : Gw W0 b people rate bill w) {k : Nat} (hk : k = 1 ∨ k = 2 ∨ k = 5 ∨ k = 6) (u : Value) : Gw W0 b people rate bill (w.setCell ⟨b, k, none⟩ u) ∧ (w.setCell ⟨b, k, none⟩ u).cell? ⟨b, k, none⟩ = some u ∧
    (∀ k', k' ≠ k → (w.setCell ⟨b, k, none⟩ u).cell? ⟨b, k', none⟩ = w.cell? ⟨b, k', none⟩) := by
  obtain ⟨⟨c1, c2, c5, c6, hb⟩, h2, h3, h4⟩ := h
  have hs := hb.set_ k u
  refine ⟨⟨?_, h2.setCell (Nat.le_refl _) _, fun j hj hne => by rw [Below.heap_setCell _ _ _ _ hne]; exact h3 j hj hne, by simpa using h4⟩, ?_, fun k' hne => ?_⟩
  · rcases hk with rfl | rfl | rfl | rfl
    · exact ⟨u, c2, c5, c6, hs⟩
    · exact ⟨c1, u, c5, c6, hs⟩
    · exact ⟨c1, c2, u, c6, hs⟩
    · exact ⟨c1, c2, c5, u, hs⟩
  · rw [hs.cell k]
    rcases hk with rfl | rfl | rfl | rfl <;> rfl
  · rw [hs.cell k', hb.cell k', Array.getElem?_setIfInBounds_ne (Ne.symm hne)]
theorem keeps_store {i : Nat} {o : Oper} {a : Act} {w : World} {k : Nat} {u : Value} (ho : ops36[i]? = some o) (hi : i ∈ [17, 19, 21, 23]) (hd : o.dst = none) (hG : Gw W0 b people rate bill w) (hb : b < W0.heap.size)
    (hk : (tab ra rl rc ca cl cc da dl dc pa pl pc p i).cell = some k) (hu : slot a (tab ra rl rc ca cl cc da dl dc pa pl pc p i).at = u) :
    Keeps ops36 (Ph36 W0 b people rate bill (tab ra rl rc ca cl cc da dl dc pa pl pc p)) (Rl36 W0 b people rate bill) i a w (a.put o.dst undef) (w.setCell ⟨b, k, none⟩ u) := by
  have hi24 : i < 24 := by rw [← size36]; exact (Array.getElem?_eq_some_iff.1 ho).1
  have hkk := tab_cell i k hi24 hk
  obtain ⟨hG', hc, hc'⟩ := hG.store (k := k) (by omega) u
  have own : ∀ e sz v n xs, w.ownsRow W0.heap.size e sz v n xs → (w.setCell ⟨b, k, none⟩ u).ownsRow W0.heap.size e sz v n xs := fun e sz v n xs h => ownsRow_setCell_below h hb u
  rw [hd]
  refine ⟨⟨hG', ?_⟩, fun j hj hne hbf h => ⟨hG', fact_keep undef _ (by simp) own (fun k' hk' => ?_) h.2⟩, fun j hj _ hbf h => ⟨hG', fun h16 => ?_⟩⟩
  · cases hT : tab ra rl rc ca cl cc da dl dc pa pl pc p i <;> rw [hT] at hk hu <;> simp only [Kd.cell, Kd.at] at hk hu
    all_goals first | cases hk | skip
    simp only [fact]
    rw [hc, ← hu]
    rfl
  · rw [size36] at hj
    have := tab_cell j k' hj hk'
    exact hc' k' (by omega)
  · have := List.all_eq_true.1 (List.all_eq_true.1 chk2 i hi) j (List.mem_range.2 h16)
    rw [hbf] at this
    cases this
/-! ### The walk of the region. -/
theorem Tryd.infoE55 : (Tryd.prog.info? 55).map (fun i => (i.zero, i.size, i.bytes)) = some (some (.agg #[.int .i64 0, .int .i64 0, .int .i64 0, .int .i64 0, .bool false]), 5, 40) := by kernel_rfl
theorem Tryd.infoE49 : (Tryd.prog.info? 49).map (fun i => (i.zero, i.size, i.bytes)) = some (some (.agg #[.int .i64 0, .int .i64 0, .int .i64 0]), 3, 24) := by kernel_rfl
theorem run_fa {a : Act} {w : World} {o : Oper} (k : Nat) (ho : o.op = .fieldAddr 27 (.tmp 1) k) (hk : k = 1 ∨ k = 2 ∨ k = 5 ∨ k = 6) (h : slot a 1 = .pointer (some ⟨b, 0, none⟩)) : (execOp a.eval o).run Tryd.prog w = .ok (.value (.pointer (some ⟨b, k, none⟩))) w := by
  unfold slot at h
  unfold execOp
  rw [ho]
  rcases hk with rfl | rfl | rfl | rfl <;> go_simp
theorem run_ld {a : Act} {w : World} {o : Oper} {V : Value} {d k : Nat} {t : TypeId} (ht : t = 22 ∨ t = 23 ∨ t = 24 ∨ t = 25) (ho : o.op = .load t (.tmp d)) (h : slot a d = .pointer (some ⟨b, k, none⟩)) (hc : w.cell? ⟨b, k, none⟩ = some V) : (execOp a.eval o).run Tryd.prog w = .ok (.value V) w := by
  unfold slot at h
  unfold execOp
  rw [ho]
  rcases ht with rfl | rfl | rfl | rfl <;> go_simp
theorem run_mk {a : Act} {w : World} {o : Oper} {t e : TypeId} (ht : (t = 22 ∧ e = 34) ∨ (t = 23 ∧ e = 55) ∨ (t = 24 ∧ e = 3) ∨ (t = 25 ∧ e = 49)) (ho : o.op = .buildSlice t 0 #[]) : (execOp a.eval o).run Tryd.prog w = .ok (.value (.slice (some ⟨w.heap.size, 0, none⟩) 0 0)) (w.alloc (.cells #[] e)) := by
  unfold execOp
  rw [ho]
  rcases ht with ⟨rfl, rfl⟩ | ⟨rfl, rfl⟩ | ⟨rfl, rfl⟩ | ⟨rfl, rfl⟩ <;> go_simp
theorem run_st {a : Act} {w : World} {o : Oper} {V : Value} {d e k g n c : Nat} {t : TypeId} (ht : t = 22 ∨ t = 23 ∨ t = 24 ∨ t = 25) (ho : o.op = .store t (.tmp d) (.tmp e)) (h : slot a d = .pointer (some ⟨b, k, none⟩)) (h2 : slot a e = .slice (some ⟨g, 0, none⟩) n c) (hc : w.cell? ⟨b, k, none⟩ = some V) (hf : w.frozen? ⟨b, k, none⟩ = false) :
    (execOp a.eval o).run Tryd.prog w = .ok .skip (w.setCell ⟨b, k, none⟩ (.slice (some ⟨g, 0, none⟩) n c)) := by
  unfold slot at h h2
  unfold execOp
  rw [ho]
  rcases ht with rfl | rfl | rfl | rfl <;> go_simp
theorem run_ap {a : Act} {w w' : World} {o : Oper} {v' sv xv : Value} {s x : Nat} {t : TypeId} (ho : o.op = .call { callee := .builtin .append, args := #[.tmp s, .tmp x], argTypes := #[t, t] }) (hs : slot a s = sv) (hx : slot a x = xv)
    (hr : (Builtin.append_ #[t, t] o.type #[sv, xv]).run Tryd.prog w = .ok v' w') : (execOp a.eval o).run Tryd.prog w = .ok (.value v') w' := by
  have hs' : a.eval (.tmp s) = sv := hs
  have hx' : a.eval (.tmp x) = xv := hx
  unfold execOp
  simp only [ho, resolve, invoke, builtin, Sem.run_bind, Sem.run_pure, Result.andThen_ok, List.map_toArray, List.map_cons, List.map_nil, hs', hx', hr]
theorem Gw.at_ {w : World} (h : Gw W0 b people rate bill w) {k : Nat} (hk : k = 1 ∨ k = 2 ∨ k = 5 ∨ k = 6) : (∃ V, w.cell? ⟨b, k, none⟩ = some V) ∧ w.frozen? ⟨b, k, none⟩ = false := by
  obtain ⟨⟨c1, c2, c5, c6, hb⟩, _⟩ := h
  refine ⟨?_, hb.frozen k⟩
  rw [hb.cell k]
  rcases hk with rfl | rfl | rfl | rfl <;> exact ⟨_, rfl⟩
set_option maxRecDepth 100000 in
set_option maxHeartbeats 6400000 in
theorem region36 {a : Act} {w : World} {Q : Exit → Act → World → Prop} (h1 : slot a 1 = .pointer (some ⟨b, 0, none⟩)) (hsz : a.tmps.size = 24) (hb : Blk w b 27 (payCs people ra rl rc ca cl cc rate bill da dl dc pa pl pc)) (hP : PayIn w w.heap.size people ra rl ca cl rate bill da dl pa pl p)
    (m1 : rl ≤ 1000) (m2 : cl ≤ 1000) (m3 : dl ≤ 1000) (m4 : pl ≤ 1000)
    (hend : ∀ a' w', Agree ops36 (List.range ops36.size) a a' → (∀ i, i < 24 → Ph36 w b people rate bill (tab ra rl rc ca cl cc da dl dc pa pl pc p) i a' w') → Q .normal a' w') : (Code.region 1 ops36 true).wp Tryd.prog Q a w := by
  have hbs : b < w.heap.size := hb.lt
  have hbelow : ∀ w', Below w.heap.size w w' → Blk w' b 27 (payCs people ra rl rc ca cl cc rate bill da dl dc pa pl pc) := fun w' h => hb.below h hbs
  obtain ⟨i0, HI, HI0, HI1, HI2⟩ := info_parts Tryd.infoE34
  obtain ⟨j0, HJ, HJ0, HJ1, HJ2⟩ := info_parts Tryd.infoE55
  obtain ⟨k0, HK, HK0, HK1, HK2⟩ := info_parts Tryd.infoE3
  obtain ⟨l0, HL, HL0, HL1, HL2⟩ := info_parts Tryd.infoE49
  refine wp_region_inv (Ph36 w b people rate bill (tab ra rl rc ca cl cc da dl dc pa pl pc p)) (Rl36 w b people rate bill) (by kernel_rfl) (by kernel_rfl) (fun i _ => ⟨⟨⟨_, _, _, _, hb⟩, Below.drew (Below.refl _ _), fun _ _ _ => rfl, Nat.le_refl _⟩, fun _ => Below.drew (Below.refl _ _)⟩) ?_ (fun a' w' hag h => hend a' w' hag fun i hi => h i (by rw [size36]; exact hi))
  intro i o a' w' ho hag ⟨hG, hR⟩ hdep
  rw [size36] at hdep
  have hi : i < 24 := by rw [← size36]; exact (Array.getElem?_eq_some_iff.1 ho).1
  have s1 : slot a' 1 = .pointer (some ⟨b, 0, none⟩) := by rw [← h1]; exact hag.slot 1 (by kernel_rfl)
  have hsz' : a'.tmps.size = 24 := hag.2.1.trans hsz
  have hbk : w.heap.size ≤ w'.heap.size := hG.2.2.2
  match i, hi, ho, hR, hdep with
  | 0, _, ho, hR, hdep =>
    obtain ⟨hop, hd, hg⟩ := o36 ho (X := .buildSlice 22 0 #[]) (D := some 3) (by kernel_rfl)
    refine step_ok hg (run_mk (t := 22) (e := 34) (by simp) hop) ⟨_, rfl, keeps_grow _ ho hG ((Below.refl _ _).alloc (Nat.le_refl _) _) ?_⟩
    show (∃ g, slot _ 3 = _) ∧ World.ownsRow _ _ _ _ (slot _ 3) _ _
    rw [hd, slot_self _ (by omega)]
    exact ⟨⟨_, rfl⟩, World.ownsRow_made w' #[] 0 hbk (by decide) (by simp)⟩
  | 1, _, ho, hR, hdep =>
    obtain ⟨hop, hd, hg⟩ := o36 ho (X := .fieldAddr 27 (.tmp 1) 1) (D := some 4) (by kernel_rfl)
    refine step_ok hg (run_fa 1 hop (by simp) s1) ⟨_, rfl, keeps_grow _ ho hG (Grow.refl _) ?_⟩
    show slot _ 4 = _
    rw [hd, slot_self _ (by omega)]
  | 2, _, ho, hR, hdep =>
    obtain ⟨hop, hd, hg⟩ := o36 ho (X := .load 22 (.tmp 4)) (D := some 5) (by kernel_rfl)
    have d1 : slot a' 4 = .pointer (some ⟨b, 1, none⟩) := (hdep 1 (by omega) (by kernel_rfl)).2
    have hc : w'.cell? ⟨b, 1, none⟩ = some (.slice ra rl rc) := (hbelow w' (hR (by omega))).cell 1
    refine step_ok hg (run_ld (t := 22) (by simp) hop d1 hc) ⟨_, rfl, keeps_grow _ ho hG (Grow.refl _) ?_⟩
    show slot _ 5 = _
    rw [hd, slot_self _ (by omega)]
  | 3, _, ho, hR, hdep =>
    obtain ⟨hop, hd, hg⟩ := o36 ho (X := .call { callee := .builtin .append, args := #[.tmp 3, .tmp 5], argTypes := #[22, 22] }) (D := some 6) (by kernel_rfl)
    obtain ⟨⟨g, d1⟩, d2⟩ : (∃ g, slot a' 3 = .slice (some ⟨g, 0, none⟩) 0 0) ∧ w'.ownsRow w.heap.size 34 2 (slot a' 3) 0 [] := (hdep 0 (by omega) (by kernel_rfl)).2
    have d3 : slot a' 5 = .slice ra rl rc := (hdep 2 (by omega) (by kernel_rfl)).2
    rw [d1] at d2
    obtain ⟨v', w'', r1, r2, r3, r4⟩ := append_copy (P := Tryd.prog) 22 o.type 34 i0 _ 2 16 Tryd.underlying22 HI HI0 HI1 HI2 rfl (by decide) spF_len (c := rc) hP.erl (hP.hruns.below (hR (by omega))).g m1 (by decide) hbk d2
    refine step_ok hg (run_ap hop d1 d3 r1) ⟨_, rfl, keeps_grow _ ho hG r4 ?_⟩
    show (∃ g c, slot _ 6 = _) ∧ World.ownsRow _ _ _ _ (slot _ 6) _ _
    rw [hd, slot_self _ (by omega)]
    exact ⟨r2, r3⟩
  | 4, _, ho, hR, hdep =>
    obtain ⟨hop, hd, hg⟩ := o36 ho (X := .buildSlice 23 0 #[]) (D := some 7) (by kernel_rfl)
    refine step_ok hg (run_mk (t := 23) (e := 55) (by simp) hop) ⟨_, rfl, keeps_grow _ ho hG ((Below.refl _ _).alloc (Nat.le_refl _) _) ?_⟩
    show (∃ g, slot _ 7 = _) ∧ World.ownsRow _ _ _ _ (slot _ 7) _ _
    rw [hd, slot_self _ (by omega)]
    exact ⟨⟨_, rfl⟩, World.ownsRow_made w' #[] 0 hbk (by decide) (by simp)⟩
  | 5, _, ho, hR, hdep =>
    obtain ⟨hop, hd, hg⟩ := o36 ho (X := .fieldAddr 27 (.tmp 1) 2) (D := some 8) (by kernel_rfl)
    refine step_ok hg (run_fa 2 hop (by simp) s1) ⟨_, rfl, keeps_grow _ ho hG (Grow.refl _) ?_⟩
    show slot _ 8 = _
    rw [hd, slot_self _ (by omega)]
  | 6, _, ho, hR, hdep =>
    obtain ⟨hop, hd, hg⟩ := o36 ho (X := .load 23 (.tmp 8)) (D := some 9) (by kernel_rfl)
    have d1 : slot a' 8 = .pointer (some ⟨b, 2, none⟩) := (hdep 5 (by omega) (by kernel_rfl)).2
    have hc : w'.cell? ⟨b, 2, none⟩ = some (.slice ca cl cc) := (hbelow w' (hR (by omega))).cell 2
    refine step_ok hg (run_ld (t := 23) (by simp) hop d1 hc) ⟨_, rfl, keeps_grow _ ho hG (Grow.refl _) ?_⟩
    show slot _ 9 = _
    rw [hd, slot_self _ (by omega)]
  | 7, _, ho, hR, hdep =>
    obtain ⟨hop, hd, hg⟩ := o36 ho (X := .call { callee := .builtin .append, args := #[.tmp 7, .tmp 9], argTypes := #[23, 23] }) (D := some 10) (by kernel_rfl)
    obtain ⟨⟨g, d1⟩, d2⟩ : (∃ g, slot a' 7 = .slice (some ⟨g, 0, none⟩) 0 0) ∧ w'.ownsRow w.heap.size 55 5 (slot a' 7) 0 [] := (hdep 4 (by omega) (by kernel_rfl)).2
    have d3 : slot a' 9 = .slice ca cl cc := (hdep 6 (by omega) (by kernel_rfl)).2
    rw [d1] at d2
    obtain ⟨v', w'', r1, r2, r3, r4⟩ := append_copy (P := Tryd.prog) 23 o.type 55 j0 _ 5 40 Tryd.underlying23 HJ HJ0 HJ1 HJ2 rfl (by decide) caF_len (c := cc) hP.ecl (hP.hcalls.below (hR (by omega))).g m2 (by decide) hbk d2
    refine step_ok hg (run_ap hop d1 d3 r1) ⟨_, rfl, keeps_grow _ ho hG r4 ?_⟩
    show (∃ g c, slot _ 10 = _) ∧ World.ownsRow _ _ _ _ (slot _ 10) _ _
    rw [hd, slot_self _ (by omega)]
    exact ⟨r2, r3⟩
  | 8, _, ho, hR, hdep =>
    obtain ⟨hop, hd, hg⟩ := o36 ho (X := .buildSlice 24 0 #[]) (D := some 11) (by kernel_rfl)
    refine step_ok hg (run_mk (t := 24) (e := 3) (by simp) hop) ⟨_, rfl, keeps_grow _ ho hG ((Below.refl _ _).alloc (Nat.le_refl _) _) ?_⟩
    show (∃ g, slot _ 11 = _) ∧ World.ownsRow _ _ _ _ (slot _ 11) _ _
    rw [hd, slot_self _ (by omega)]
    exact ⟨⟨_, rfl⟩, World.ownsRow_made w' #[] 0 hbk (by decide) (by simp)⟩
  | 9, _, ho, hR, hdep =>
    obtain ⟨hop, hd, hg⟩ := o36 ho (X := .fieldAddr 27 (.tmp 1) 5) (D := some 12) (by kernel_rfl)
    refine step_ok hg (run_fa 5 hop (by simp) s1) ⟨_, rfl, keeps_grow _ ho hG (Grow.refl _) ?_⟩
    show slot _ 12 = _
    rw [hd, slot_self _ (by omega)]
  | 10, _, ho, hR, hdep =>
    obtain ⟨hop, hd, hg⟩ := o36 ho (X := .load 24 (.tmp 12)) (D := some 13) (by kernel_rfl)
    have d1 : slot a' 12 = .pointer (some ⟨b, 5, none⟩) := (hdep 9 (by omega) (by kernel_rfl)).2
    have hc : w'.cell? ⟨b, 5, none⟩ = some (.slice da dl dc) := (hbelow w' (hR (by omega))).cell 5
    refine step_ok hg (run_ld (t := 24) (by simp) hop d1 hc) ⟨_, rfl, keeps_grow _ ho hG (Grow.refl _) ?_⟩
    show slot _ 13 = _
    rw [hd, slot_self _ (by omega)]
  | 11, _, ho, hR, hdep =>
    obtain ⟨hop, hd, hg⟩ := o36 ho (X := .call { callee := .builtin .append, args := #[.tmp 11, .tmp 13], argTypes := #[24, 24] }) (D := some 14) (by kernel_rfl)
    obtain ⟨⟨g, d1⟩, d2⟩ : (∃ g, slot a' 11 = .slice (some ⟨g, 0, none⟩) 0 0) ∧ w'.ownsRow w.heap.size 3 1 (slot a' 11) 0 [] := (hdep 8 (by omega) (by kernel_rfl)).2
    have d3 : slot a' 13 = .slice da dl dc := (hdep 10 (by omega) (by kernel_rfl)).2
    rw [d1] at d2
    obtain ⟨v', w'', r1, r2, r3, r4⟩ := append_copy (P := Tryd.prog) 24 o.type 3 k0 _ 1 8 Tryd.underlying24 HK HK0 HK1 HK2 rfl (by decide) inF_len (c := dc) hP.edl (hP.hdays.below (hR (by omega))).g m3 (by decide) hbk d2
    refine step_ok hg (run_ap hop d1 d3 r1) ⟨_, rfl, keeps_grow _ ho hG r4 ?_⟩
    show (∃ g c, slot _ 14 = _) ∧ World.ownsRow _ _ _ _ (slot _ 14) _ _
    rw [hd, slot_self _ (by omega)]
    exact ⟨r2, r3⟩
  | 12, _, ho, hR, hdep =>
    obtain ⟨hop, hd, hg⟩ := o36 ho (X := .buildSlice 25 0 #[]) (D := some 15) (by kernel_rfl)
    refine step_ok hg (run_mk (t := 25) (e := 49) (by simp) hop) ⟨_, rfl, keeps_grow _ ho hG ((Below.refl _ _).alloc (Nat.le_refl _) _) ?_⟩
    show (∃ g, slot _ 15 = _) ∧ World.ownsRow _ _ _ _ (slot _ 15) _ _
    rw [hd, slot_self _ (by omega)]
    exact ⟨⟨_, rfl⟩, World.ownsRow_made w' #[] 0 hbk (by decide) (by simp)⟩
  | 13, _, ho, hR, hdep =>
    obtain ⟨hop, hd, hg⟩ := o36 ho (X := .fieldAddr 27 (.tmp 1) 6) (D := some 16) (by kernel_rfl)
    refine step_ok hg (run_fa 6 hop (by simp) s1) ⟨_, rfl, keeps_grow _ ho hG (Grow.refl _) ?_⟩
    show slot _ 16 = _
    rw [hd, slot_self _ (by omega)]
  | 14, _, ho, hR, hdep =>
    obtain ⟨hop, hd, hg⟩ := o36 ho (X := .load 25 (.tmp 16)) (D := some 17) (by kernel_rfl)
    have d1 : slot a' 16 = .pointer (some ⟨b, 6, none⟩) := (hdep 13 (by omega) (by kernel_rfl)).2
    have hc : w'.cell? ⟨b, 6, none⟩ = some (.slice pa pl pc) := (hbelow w' (hR (by omega))).cell 6
    refine step_ok hg (run_ld (t := 25) (by simp) hop d1 hc) ⟨_, rfl, keeps_grow _ ho hG (Grow.refl _) ?_⟩
    show slot _ 17 = _
    rw [hd, slot_self _ (by omega)]
  | 15, _, ho, hR, hdep =>
    obtain ⟨hop, hd, hg⟩ := o36 ho (X := .call { callee := .builtin .append, args := #[.tmp 15, .tmp 17], argTypes := #[25, 25] }) (D := some 18) (by kernel_rfl)
    obtain ⟨⟨g, d1⟩, d2⟩ : (∃ g, slot a' 15 = .slice (some ⟨g, 0, none⟩) 0 0) ∧ w'.ownsRow w.heap.size 49 3 (slot a' 15) 0 [] := (hdep 12 (by omega) (by kernel_rfl)).2
    have d3 : slot a' 17 = .slice pa pl pc := (hdep 14 (by omega) (by kernel_rfl)).2
    rw [d1] at d2
    obtain ⟨v', w'', r1, r2, r3, r4⟩ := append_copy (P := Tryd.prog) 25 o.type 49 l0 _ 3 24 Tryd.underlying25 HL HL0 HL1 HL2 rfl (by decide) pdF_len (c := pc) hP.epl (hP.hpaid.below (hR (by omega))).g m4 (by decide) hbk d2
    refine step_ok hg (run_ap hop d1 d3 r1) ⟨_, rfl, keeps_grow _ ho hG r4 ?_⟩
    show (∃ g c, slot _ 18 = _) ∧ World.ownsRow _ _ _ _ (slot _ 18) _ _
    rw [hd, slot_self _ (by omega)]
    exact ⟨r2, r3⟩
  | 16, _, ho, hR, hdep =>
    obtain ⟨hop, hd, hg⟩ := o36 ho (X := .fieldAddr 27 (.tmp 1) 1) (D := some 19) (by kernel_rfl)
    refine step_ok hg (run_fa 1 hop (by simp) s1) ⟨_, rfl, keeps_grow _ ho hG (Grow.refl _) ?_⟩
    show slot _ 19 = _
    rw [hd, slot_self _ (by omega)]
  | 17, _, ho, hR, hdep =>
    obtain ⟨hop, hd, hg⟩ := o36 ho (X := .store 22 (.tmp 19) (.tmp 6)) (D := none) (by kernel_rfl)
    have d1 : slot a' 19 = .pointer (some ⟨b, 1, none⟩) := (hdep 16 (by omega) (by kernel_rfl)).2
    obtain ⟨⟨g, c, d2⟩, _⟩ : (∃ g c, slot a' 6 = .slice (some ⟨g, 0, none⟩) rl c) ∧ w'.ownsRow w.heap.size 34 2 (slot a' 6) rl (p.runs.flatMap spF) := (hdep 3 (by omega) (by kernel_rfl)).2
    obtain ⟨⟨V, hc⟩, hf⟩ := hG.at_ (k := 1) (by simp)
    exact step_skip hg (run_st (t := 22) (by simp) hop d1 d2 hc hf) ⟨_, rfl, keeps_store ho (by simp) hd hG hbs rfl d2⟩
  | 18, _, ho, hR, hdep =>
    obtain ⟨hop, hd, hg⟩ := o36 ho (X := .fieldAddr 27 (.tmp 1) 2) (D := some 20) (by kernel_rfl)
    refine step_ok hg (run_fa 2 hop (by simp) s1) ⟨_, rfl, keeps_grow _ ho hG (Grow.refl _) ?_⟩
    show slot _ 20 = _
    rw [hd, slot_self _ (by omega)]
  | 19, _, ho, hR, hdep =>
    obtain ⟨hop, hd, hg⟩ := o36 ho (X := .store 23 (.tmp 20) (.tmp 10)) (D := none) (by kernel_rfl)
    have d1 : slot a' 20 = .pointer (some ⟨b, 2, none⟩) := (hdep 18 (by omega) (by kernel_rfl)).2
    obtain ⟨⟨g, c, d2⟩, _⟩ : (∃ g c, slot a' 10 = .slice (some ⟨g, 0, none⟩) cl c) ∧ w'.ownsRow w.heap.size 55 5 (slot a' 10) cl (p.calls.flatMap caF) := (hdep 7 (by omega) (by kernel_rfl)).2
    obtain ⟨⟨V, hc⟩, hf⟩ := hG.at_ (k := 2) (by simp)
    exact step_skip hg (run_st (t := 23) (by simp) hop d1 d2 hc hf) ⟨_, rfl, keeps_store ho (by simp) hd hG hbs rfl d2⟩
  | 20, _, ho, hR, hdep =>
    obtain ⟨hop, hd, hg⟩ := o36 ho (X := .fieldAddr 27 (.tmp 1) 5) (D := some 21) (by kernel_rfl)
    refine step_ok hg (run_fa 5 hop (by simp) s1) ⟨_, rfl, keeps_grow _ ho hG (Grow.refl _) ?_⟩
    show slot _ 21 = _
    rw [hd, slot_self _ (by omega)]
  | 21, _, ho, hR, hdep =>
    obtain ⟨hop, hd, hg⟩ := o36 ho (X := .store 24 (.tmp 21) (.tmp 14)) (D := none) (by kernel_rfl)
    have d1 : slot a' 21 = .pointer (some ⟨b, 5, none⟩) := (hdep 20 (by omega) (by kernel_rfl)).2
    obtain ⟨⟨g, c, d2⟩, _⟩ : (∃ g c, slot a' 14 = .slice (some ⟨g, 0, none⟩) dl c) ∧ w'.ownsRow w.heap.size 3 1 (slot a' 14) dl (p.days.flatMap inF) := (hdep 11 (by omega) (by kernel_rfl)).2
    obtain ⟨⟨V, hc⟩, hf⟩ := hG.at_ (k := 5) (by simp)
    exact step_skip hg (run_st (t := 24) (by simp) hop d1 d2 hc hf) ⟨_, rfl, keeps_store ho (by simp) hd hG hbs rfl d2⟩
  | 22, _, ho, hR, hdep =>
    obtain ⟨hop, hd, hg⟩ := o36 ho (X := .fieldAddr 27 (.tmp 1) 6) (D := some 22) (by kernel_rfl)
    refine step_ok hg (run_fa 6 hop (by simp) s1) ⟨_, rfl, keeps_grow _ ho hG (Grow.refl _) ?_⟩
    show slot _ 22 = _
    rw [hd, slot_self _ (by omega)]
  | 23, _, ho, hR, hdep =>
    obtain ⟨hop, hd, hg⟩ := o36 ho (X := .store 25 (.tmp 22) (.tmp 18)) (D := none) (by kernel_rfl)
    have d1 : slot a' 22 = .pointer (some ⟨b, 6, none⟩) := (hdep 22 (by omega) (by kernel_rfl)).2
    obtain ⟨⟨g, c, d2⟩, _⟩ : (∃ g c, slot a' 18 = .slice (some ⟨g, 0, none⟩) pl c) ∧ w'.ownsRow w.heap.size 49 3 (slot a' 18) pl (p.paid.flatMap pdF) := (hdep 15 (by omega) (by kernel_rfl)).2
    obtain ⟨⟨V, hc⟩, hf⟩ := hG.at_ (k := 6) (by simp)
    exact step_skip hg (run_st (t := 25) (by simp) hop d1 d2 hc hf) ⟨_, rfl, keeps_store ho (by simp) hd hG hbs rfl d2⟩
  | n + 24, h, _, _, _ => exact absurd h (by omega)
end
end Go.Proofs.YtlcolpnniipgbaaDoor
