/- The region of PayMore that puts a struck call among all others, in any order: a row of its own that holds them. -/
import Derived.Test.YtlcolpnniipgbaaDoorLawM2
import Derived.Test.YtlcolpnniipgbaaDoorLawT1
namespace Go.Proofs.YtlcolpnniipgbaaDoor
open Go.RowKit Go.Hav
noncomputable def ops10 : Array Oper := ((Tryd.f11.body.bind (regionOf 10)).getD #[])
theorem size10 : ops10.size = 28 := by kernel_rfl
theorem o10 {i : Nat} {o : Oper} (h : ops10[i]? = some o) {X : Op} {D : Option Tmp} (hx : (ops10[i]?).map (fun o => (o.op, o.dst, o.guard)) = some (X, D, none)) : o.op = X ∧ o.dst = D ∧ o.guard = none := by
  rw [h] at hx
  simpa using hx
theorem run_slTo {a : Act} {w : World} {o : Oper} {ca : Option Addr} {cl cc m d e : Nat} (ho : o.op = .slice 23 (.tmp d) none (some (.tmp e)) none) (h1 : slot a d = .slice ca cl cc) (h2 : slot a e = .int .i64 (m : Nat)) (hm : m ≤ cc) :
    (execOp a.eval o).run Tryd.prog w = .ok (.value (.slice ca m cc)) w := by
  unfold slot at h1 h2
  unfold execOp
  rw [ho]
  have hu := Tryd.underlying23
  go_simp
theorem run_slFrom {a : Act} {w : World} {o : Oper} {ca : Option Addr} {cl cc m d e : Nat} (ho : o.op = .slice 23 (.tmp d) (some (.tmp e)) none none) (h1 : slot a d = .slice ca cl cc) (h2 : slot a e = .int .i64 (m : Nat)) (hm : m ≤ cl) (_hc : cl ≤ cc) :
    (execOp a.eval o).run Tryd.prog w = .ok (.value (.slice (if cc = m then ca else ca.map (·.add (m * 5))) (cl - m) (cc - m))) w := by
  unfold slot at h1 h2
  unfold execOp
  rw [ho]
  have hu := Tryd.underlying23
  by_cases hcm : cc = m
  · rw [if_pos hcm]
    go_simp
  · rw [if_neg hcm]
    go_simp
theorem run_one {a : Act} {w : World} {o : Oper} {d : Nat} {v0 v1 v2 v3 v4 : Value} (ho : o.op = .buildSlice 23 1 #[(0, .tmp d)]) (h1 : slot a d = .agg #[v0, v1, v2, v3, v4]) :
    (execOp a.eval o).run Tryd.prog w = .ok (.value (.slice (some ⟨w.heap.size, 0, none⟩) 1 1)) (w.alloc (.cells #[v0, v1, v2, v3, v4] 55)) := by
  unfold slot at h1
  unfold execOp
  rw [ho]
  have hu := Tryd.underlying23
  have h1' : a.tmps[d]?.getD undef = .agg #[v0, v1, v2, v3, v4] := by simpa using h1
  go_simp
theorem run_len23 {a : Act} {w : World} {o : Oper} {ca : Option Addr} {cl cc d : Nat} (ho : o.op = .call { callee := .builtin .len, args := #[.tmp d], argTypes := #[23] }) (h1 : slot a d = .slice ca cl cc) :
    (execOp a.eval o).run Tryd.prog w = .ok (.value (.int .i64 cl)) w := by
  unfold slot at h1
  unfold execOp
  rw [ho]
  go_simp
theorem run_add1 {a : Act} {w : World} {o : Oper} {cl d : Nat} (ho : o.op = .binOp .add 3 (.tmp d) (.const (.int .i64 1)) 3) (h1 : slot a d = .int .i64 (cl : Nat)) (hc : cl ≤ 1000) :
    (execOp a.eval o).run Tryd.prog w = .ok (.value (.int .i64 ((cl : Int) + 1))) w := by
  unfold slot at h1
  have hw : IntKind.i64.wrap ((cl : Int) + 1) = (cl : Int) + 1 := IntWalk.i64_in _ (by omega)
  unfold execOp
  rw [ho]
  go_simp
theorem run_rem {a : Act} {w : World} {o : Oper} {x y : Int} {m d e : Nat} (ho : o.op = .binOp .rem 3 (.tmp d) (.tmp e) 3) (h1 : slot a d = .int .i64 x) (h2 : slot a e = .int .i64 y) (hy : ¬ y = 0) (hm : x.tmod y = (m : Nat)) :
    (execOp a.eval o).run Tryd.prog w = .ok (.value (.int .i64 (m : Nat))) w := by
  unfold slot at h1 h2
  unfold execOp
  rw [ho]
  go_simp
theorem run_fa2 {a : Act} {w : World} {o : Oper} {b s : Nat} (ho : o.op = .fieldAddr 27 (.tmp s) 2) (h : slot a s = .pointer (some ⟨b, 0, none⟩)) : (execOp a.eval o).run Tryd.prog w = .ok (.value (.pointer (some ⟨b, 2, none⟩))) w := by
  unfold slot at h
  unfold execOp
  rw [ho]
  go_simp
theorem run_ld1 {a : Act} {w : World} {o : Oper} {V : Value} {d b k : Nat} {t : TypeId} (ht : t = 23 ∨ t = 5) (ho : o.op = .load t (.tmp d)) (h : slot a d = .pointer (some ⟨b, k, none⟩)) (hc : w.cell? ⟨b, k, none⟩ = some V) : (execOp a.eval o).run Tryd.prog w = .ok (.value V) w := by
  unfold slot at h
  unfold execOp
  rw [ho]
  rcases ht with rfl | rfl <;> go_simp
theorem run_ld55 {a : Act} {w : World} {o : Oper} {e : Ca} {b d : Nat} (ho : o.op = .load 55 (.tmp d)) (h : slot a d = .pointer (some ⟨b, 0, none⟩)) (hb : Blk w b 55 (caF e).toArray) :
    (execOp a.eval o).run Tryd.prog w = .ok (.value (.agg (caF e).toArray)) w := by
  have z0 := hb.cell 0
  have z1 := hb.cell 1
  have z2 := hb.cell 2
  have z3 := hb.cell 3
  have z4 := hb.cell 4
  simp [caF] at z0 z1 z2 z3 z4
  unfold slot at h
  unfold execOp caF
  rw [ho]
  go_simp
/-- An append of a slice that is read, to a row of its own. -/
theorem append_more {α : Type} {f : α → List Value} {P : Program} (t ty e : TypeId) (i : TypeInfo) (z : Value) (size bytes : Nat) (ht : P.underlying t = some (.slice e)) (hi : P.info? e = some i) (hz : i.zero = some z)
    (hsize : i.size = size) (hby : i.bytes = bytes) (hzs : z.cells.size = size) (hsz : 0 < size) (hf : ∀ x, (f x).length = size) (hone : ∀ x, ∀ u ∈ f x, u.oneCell' = true) {w : World} {B R g n c0 k c : Nat} {A : Option Addr} {xs : List Value} {l : List α} (hl : l.length = k)
    (hr : RdG f size w R A l) (hA : k = 0 → A = none → c = 0) (hn : n + k ≤ 1000) (hby2 : bytes ≤ 1000) (hB : B ≤ w.heap.size) (hn0 : 0 < n) (hown : w.ownsRow B e size (.slice (some ⟨g, 0, none⟩) n c0) n xs) :
    ∃ v' w', (Builtin.append_ #[t, t] ty #[.slice (some ⟨g, 0, none⟩) n c0, .slice A k c]).run P w = .ok v' w' ∧ (∃ g c, v' = .slice (some ⟨g, 0, none⟩) (n + k) c) ∧ w'.ownsRow B e size v' (n + k) (xs ++ l.flatMap f) ∧ Below B w w' := by
  have hm : (n + k) * bytes ≤ 1000 * 1000 := Nat.mul_le_mul hn hby2
  have fin : ∀ a : Addr, (∀ j u, (l.flatMap f)[j]? = some u → w.cell? (a.add j) = some u) → ∃ v' w', (Builtin.append_ #[t, t] ty #[.slice (some ⟨g, 0, none⟩) n c0, .slice (some a) k c]).run P w = .ok v' w' ∧ (∃ g c, v' = .slice (some ⟨g, 0, none⟩) (n + k) c) ∧ w'.ownsRow B e size v' (n + k) (xs ++ l.flatMap f) ∧ Below B w w' := fun a ha => by
    obtain ⟨v', w', h1, h2, h3, _⟩ := run_append_own (P := P) w B t ty e i z size bytes ht hi hz hsize hby hzs hsz _ n xs hown a k c (l.flatMap f) (by rw [flat_len f size hf, hl]) ha (fun u hu => by
      obtain ⟨x, _, hx⟩ := List.mem_flatMap.1 hu
      exact hone x u hx) (by unfold maxLen; omega) (by omega) hB
    refine ⟨v', w', h1, ?_, h2, (Below.refl B w).grown h3 hB (fun k' hk' => (hown.lt k' hk').1)⟩
    rcases h2.2 with ⟨_, h⟩ | ⟨g', c', _, h, _⟩
    · omega
    · exact ⟨g', c', h⟩
  rcases Nat.eq_zero_or_pos k with h0 | h0
  · subst h0
    obtain rfl : l = [] := List.eq_nil_of_length_eq_zero hl
    cases A with
    | some a => exact fin a (fun j u h => by simp at h)
    | none =>
      refine ⟨.slice (some ⟨g, 0, none⟩) n c0, w, ?_, ⟨g, c0, rfl⟩, by simpa using hown, Below.refl _ _⟩
      have := hA rfl rfl
      subst this
      obtain ⟨_, _, _, hnc, _⟩ := own_blk hown
      have hnc' : ¬ c0 < n := by omega
      simp [Builtin.append_, run_underlying ht, sizeOf, typeInfo, hi, Builtin.lenOf, Builtin.firstCells, storeCells, hnc']
  · obtain ⟨b, off, rfl, _, _⟩ := hr 0 (l[0]'(by omega)) (by simp)
    exact fin ⟨b, off, none⟩ (hr.news hf hsz)
/-! ### The invariant -/
section
variable {people rate bill : Int} {ra ca da pa : Option Addr} {rl rc cl cc dl dc pl pc : Nat} {p : PayD}
variable {W0 : World}
def AF (B s n : Nat) (xs : List Ca) (a : Act) (w : World) : Prop := (∃ g c, slot a s = .slice (some ⟨g, 0, none⟩) n c) ∧ w.ownsRow B 55 5 (slot a s) n (xs.flatMap caF)
def EF (B : Nat) (a : Act) (w : World) : Prop := (∃ g, slot a 92 = .slice (some ⟨g, 0, none⟩) 0 0) ∧ w.ownsRow B 55 5 (slot a 92) 0 []
def SF (e : Ca) (a : Act) (w : World) : Prop := ∃ g, slot a 105 = .slice (some ⟨g, 0, none⟩) 1 1 ∧ g < w.heap.size ∧ ∀ j u, (caF e)[j]? = some u → w.cell? ⟨g, j, none⟩ = some u
theorem AF.keep {B s n : Nat} {xs : List Ca} {a : Act} {w w' : World} {d : Nat} (v : Value) (hd : d ≠ s) (hg : Grow w w') (h : AF B s n xs a w) : AF B s n xs (a.put (some d) v) w' := by
  unfold AF
  rw [slot_put v (by simpa using hd)]
  exact ⟨h.1, own_below h.2 hg⟩
theorem EF.keep {B : Nat} {a : Act} {w w' : World} {d : Nat} (v : Value) (hd : d ≠ 92) (hg : Grow w w') (h : EF B a w) : EF B (a.put (some d) v) w' := by
  unfold EF
  rw [slot_put v (by simpa using hd)]
  exact ⟨h.1, own_below h.2 hg⟩
theorem SF.keep {e : Ca} {a : Act} {w w' : World} {d : Nat} (v : Value) (hd : d ≠ 105) (hg : Grow w w') (h : SF e a w) : SF e (a.put (some d) v) w' := by
  obtain ⟨g, h1, h2, h3⟩ := h
  have := hg.size
  exact ⟨g, by rw [slot_put v (by simpa using hd)]; exact h1, by omega, fun j u hu => (hg.cell (p := ⟨g, j, none⟩) h2).trans (h3 j u hu)⟩
structure I10 (W0 : World) (V : Nat → Value) (cs : List Ca) (e : Ca) (m : Nat) (rem : List Nat) (a : Act) (w : World) : Prop where
  bel : Below W0.heap.size W0 w
  lt : ∀ i ∈ rem, i < 27
  o1 : 0 ∈ rem → 11 ∈ rem
  o2 : 11 ∈ rem → 14 ∈ rem
  o3 : 13 ∈ rem → 14 ∈ rem
  o4 : 14 ∈ rem → 25 ∈ rem
  val : ∀ i, i < 27 → i ∉ rem → i ≠ 0 → i ≠ 11 → i ≠ 13 → i ≠ 14 → i ≠ 25 → slot a (92 + i) = V i
  f0 : 0 ∉ rem → 11 ∈ rem → EF W0.heap.size a w
  f1 : 11 ∉ rem → 14 ∈ rem → AF W0.heap.size 103 m (cs.take m) a w
  f2 : 13 ∉ rem → 14 ∈ rem → SF e a w
  f3 : 14 ∉ rem → 25 ∈ rem → AF W0.heap.size 106 (m + 1) (cs.take m ++ [e]) a w
  f4 : 25 ∉ rem → AF W0.heap.size 117 (cs.length + 1) (cs.take m ++ e :: cs.drop m) a w
variable {V : Nat → Value} {cs : List Ca} {e : Ca} {m : Nat} {rem : List Nat} {a : Act} {w w' : World}
/-- A step that leaves all rows; what is new is given. -/
theorem I10.step (h : I10 W0 V cs e m rem a w) (hnd : rem.Nodup) {i : Nat} (hm : i ∈ rem) (hi : i < 27) (v : Value) (hg : Grow w w')
    (p1 : i = 11 → 0 ∉ rem) (p2 : i = 14 → 11 ∉ rem ∧ 13 ∉ rem) (p3 : i = 25 → 14 ∉ rem)
    (nv : i ≠ 0 → i ≠ 11 → i ≠ 13 → i ≠ 14 → i ≠ 25 → v = V i) (hsz : 92 + i < a.tmps.size)
    (n0 : i = 0 → EF W0.heap.size (a.put (some (92 + i)) v) w') (n1 : i = 11 → AF W0.heap.size 103 m (cs.take m) (a.put (some (92 + i)) v) w') (n2 : i = 13 → SF e (a.put (some (92 + i)) v) w')
    (n3 : i = 14 → AF W0.heap.size 106 (m + 1) (cs.take m ++ [e]) (a.put (some (92 + i)) v) w') (n4 : i = 25 → AF W0.heap.size 117 (cs.length + 1) (cs.take m ++ e :: cs.drop m) (a.put (some (92 + i)) v) w') :
    I10 W0 V cs e m (rem.erase i) (a.put (some (92 + i)) v) w' := by
  have me : ∀ x, x ∈ rem.erase i ↔ x ≠ i ∧ x ∈ rem := fun x => hnd.mem_erase_iff
  have ne : ∀ x, x ∉ rem.erase i → x ≠ i → x ∉ rem := fun x h1 h2 h3 => h1 ((me x).2 ⟨h2, h3⟩)
  constructor
  · exact h.bel.trans (hg.mono h.bel.size)
  · exact fun x hx => h.lt x (List.mem_of_mem_erase hx)
  · intro hx
    obtain ⟨a1, a2⟩ := (me 0).1 hx
    exact (me 11).2 ⟨fun hh => p1 hh.symm a2, h.o1 a2⟩
  · intro hx
    obtain ⟨a1, a2⟩ := (me 11).1 hx
    exact (me 14).2 ⟨fun hh => (p2 hh.symm).1 a2, h.o2 a2⟩
  · intro hx
    obtain ⟨a1, a2⟩ := (me 13).1 hx
    exact (me 14).2 ⟨fun hh => (p2 hh.symm).2 a2, h.o3 a2⟩
  · intro hx
    obtain ⟨a1, a2⟩ := (me 14).1 hx
    exact (me 25).2 ⟨fun hh => p3 hh.symm a2, h.o4 a2⟩
  · intro j hj hx j0 j1 j2 j3 j4
    by_cases hji : j = i
    · subst hji
      rw [slot_self v hsz]
      exact nv j0 j1 j2 j3 j4
    · rw [slot_put v (by simp; omega)]
      exact h.val j hj (ne j hx hji) j0 j1 j2 j3 j4
  · intro hx hy
    by_cases hi0 : i = 0
    · exact n0 hi0
    · exact (h.f0 (ne 0 hx (fun hh => hi0 hh.symm)) ((me 11).1 hy).2).keep v (by omega) hg
  · intro hx hy
    by_cases hi0 : i = 11
    · exact n1 hi0
    · exact (h.f1 (ne 11 hx (fun hh => hi0 hh.symm)) ((me 14).1 hy).2).keep v (by omega) hg
  · intro hx hy
    by_cases hi0 : i = 13
    · exact n2 hi0
    · exact (h.f2 (ne 13 hx (fun hh => hi0 hh.symm)) ((me 14).1 hy).2).keep v (by omega) hg
  · intro hx hy
    by_cases hi0 : i = 14
    · exact n3 hi0
    · exact (h.f3 (ne 14 hx (fun hh => hi0 hh.symm)) ((me 25).1 hy).2).keep v (by omega) hg
  · intro hx
    by_cases hi0 : i = 25
    · exact n4 hi0
    · exact (h.f4 (ne 25 hx (fun hh => hi0 hh.symm))).keep v (by omega) hg
/-- An append that may write into an own row. -/
theorem I10.step14 (h : I10 W0 V cs e m rem a w) (hnd : rem.Nodup) (hm : 14 ∈ rem) (v : Value) (hg : Below W0.heap.size w w') (p2 : 11 ∉ rem ∧ 13 ∉ rem)
    (n3 : AF W0.heap.size 106 (m + 1) (cs.take m ++ [e]) (a.put (some 106) v) w') : I10 W0 V cs e m (rem.erase 14) (a.put (some 106) v) w' := by
  have me : ∀ x, x ∈ rem.erase 14 ↔ x ≠ 14 ∧ x ∈ rem := fun x => hnd.mem_erase_iff
  have ne : ∀ x, x ∉ rem.erase 14 → x ≠ 14 → x ∉ rem := fun x h1 h2 h3 => h1 ((me x).2 ⟨h2, h3⟩)
  refine ⟨h.bel.trans hg, fun x hx => h.lt x (List.mem_of_mem_erase hx), fun hx => absurd (h.o1 ((me 0).1 hx).2) p2.1, fun hx => absurd ((me 11).1 hx).2 p2.1, fun hx => absurd ((me 13).1 hx).2 p2.2, fun hx => absurd rfl ((me 14).1 hx).1, fun j hj hx j0 j1 j2 j3 j4 => ?_,
    fun _ hy => absurd ((me 11).1 hy).2 p2.1, fun _ hy => absurd rfl ((me 14).1 hy).1, fun _ hy => absurd rfl ((me 14).1 hy).1, fun _ _ => n3, fun hx => absurd (h.o4 hm) (ne 25 hx (by decide))⟩
  have hne : (106 : Nat) ≠ 92 + j := by omega
  rw [slot_put v (fun hh => hne (Option.some.inj hh))]
  exact h.val j hj (ne j hx j3) j0 j1 j2 j3 j4
theorem I10.step25 (h : I10 W0 V cs e m rem a w) (hnd : rem.Nodup) (v : Value) (hg : Below W0.heap.size w w') (p3 : 14 ∉ rem)
    (n4 : AF W0.heap.size 117 (cs.length + 1) (cs.take m ++ e :: cs.drop m) (a.put (some 117) v) w') : I10 W0 V cs e m (rem.erase 25) (a.put (some 117) v) w' := by
  have me : ∀ x, x ∈ rem.erase 25 ↔ x ≠ 25 ∧ x ∈ rem := fun x => hnd.mem_erase_iff
  have ne : ∀ x, x ∉ rem.erase 25 → x ≠ 25 → x ∉ rem := fun x h1 h2 h3 => h1 ((me x).2 ⟨h2, h3⟩)
  refine ⟨h.bel.trans hg, fun x hx => h.lt x (List.mem_of_mem_erase hx), fun hx => absurd (h.o2 (h.o1 ((me 0).1 hx).2)) p3, fun hx => absurd (h.o2 ((me 11).1 hx).2) p3, fun hx => absurd (h.o3 ((me 13).1 hx).2) p3, fun hx => absurd ((me 14).1 hx).2 p3, fun j hj hx j0 j1 j2 j3 j4 => ?_,
    fun _ hy => absurd (h.o2 ((me 11).1 hy).2) p3, fun _ hy => absurd ((me 14).1 hy).2 p3, fun _ hy => absurd ((me 14).1 hy).2 p3, fun _ hy => absurd rfl ((me 25).1 hy).1, fun _ => n4⟩
  have hne : (117 : Nat) ≠ 92 + j := by omega
  rw [slot_put v (fun hh => hne (Option.some.inj hh))]
  exact h.val j hj (ne j hx j4) j0 j1 j2 j3 j4
theorem calls_take {w : World} {B : Nat} {A : Option Addr} {l : List Ca} (h : RdG caF 5 w B A l) (k : Nat) : RdG caF 5 w B A (l.take k) := fun i x hx => by
  rw [List.getElem?_take] at hx
  split at hx
  · exact h i x hx
  · cases hx
theorem drop_reads {B : Nat} {l : List Ca} {A : Option Addr} {n c : Nat} (h : RdG caF 5 w B A l) (hl : l.length = n) (hc : n ≤ c) : RdG caF 5 w B (if c = m then A else A.map (·.add (m * 5))) (l.drop m) := fun k x hx => by
  rw [List.getElem?_drop] at hx
  have hk : m + k < l.length := (List.getElem?_eq_some_iff.1 hx).1
  obtain ⟨b, off, rfl, hb, hr⟩ := h (m + k) x hx
  rw [if_neg (by omega)]
  refine ⟨b, off + m * 5, ?_, hb, fun i u hu => ?_⟩
  · simp only [Option.map_some, Option.some.injEq]
    unfold Addr.add
    split
    · rename_i h0; rw [h0]; rfl
    · rfl
  · have := hr i u hu
    rw [← this]
    congr 2
    omega
theorem cap_none {A : Option Addr} {c : Nat} (hnil : A = none → c = 0) (h : (if c = m then A else A.map (·.add (m * 5))) = none) : c - m = 0 := by
  split at h
  · omega
  · have := hnil (by simpa using h)
    omega
def vals10 (b x3 : Nat) (ca : Option Addr) (cl cc : Nat) (which : Int) (e : Ca) (m : Nat) (i : Nat) : Value := match i with
  | 1 => .pointer (some ⟨b, 2, none⟩)
  | 2 => .slice ca cl cc
  | 3 => .int .u8 which
  | 4 => .int .i64 which
  | 5 => .pointer (some ⟨b, 2, none⟩)
  | 6 => .slice ca cl cc
  | 7 => .int .i64 cl
  | 8 => .int .i64 ((cl : Int) + 1)
  | 9 => .int .i64 (m : Nat)
  | 10 => .slice ca m cc
  | 12 => .agg (caF e).toArray
  | 15 => .pointer (some ⟨b, 2, none⟩)
  | 16 => .slice ca cl cc
  | 17 => .int .u8 which
  | 18 => .int .i64 which
  | 19 => .pointer (some ⟨b, 2, none⟩)
  | 20 => .slice ca cl cc
  | 21 => .int .i64 cl
  | 22 => .int .i64 ((cl : Int) + 1)
  | 23 => .int .i64 (m : Nat)
  | 24 => .slice (if cc = m then ca else ca.map (·.add (m * 5))) (cl - m) (cc - m)
  | 26 => .pointer (some ⟨x3, 2, none⟩)
  | _ => undef
end
section
variable {people rate bill : Int} {ra ca da pa : Option Addr} {rl rc cl cc dl dc pl pc : Nat} {p : PayD}
set_option maxRecDepth 100000 in
set_option maxHeartbeats 6400000 in
theorem region10 {a : Act} {w : World} {Q : Exit → Act → World → Prop} {b be bw x3 : Nat} {which : Int} {e : Ca} {m : Nat} (h4 : slot a 4 = .pointer (some ⟨b, 0, none⟩)) (h5 : slot a 5 = .pointer (some ⟨be, 0, none⟩)) (h6 : slot a 6 = .pointer (some ⟨bw, 0, none⟩)) (h13 : slot a 13 = .pointer (some ⟨x3, 0, none⟩))
    (hsz : a.tmps.size = 418) (hb : Blk w b 27 (payCs people ra rl rc ca cl cc rate bill da dl dc pa pl pc)) (hbe : Blk w be 55 (caF e).toArray) (hbw : Blk w bw 5 #[.int .u8 which]) (hP : PayIn w w.heap.size people ra rl ca cl rate bill da dl pa pl p) (mcl : cl ≤ 900) (hcap : cl ≤ cc) (k0 : 0 ≤ which) (k1 : which ≤ 255)
    (hm : which.tmod ((cl : Int) + 1) = (m : Nat)) (hml : m ≤ cl) (hnil : ca = none → cc = 0)
    (hend : ∀ a' w', Agree ops10 (List.range ops10.size) a a' → I10 w (vals10 b x3 ca cl cc which e m) p.calls e m [] a' w' → wpList Tryd.prog ops10 Q ([27].filterMap (ops10[·]?)) a' w') : (Code.region 10 ops10 true).wp Tryd.prog Q a w := by
  have hcl := hP.ecl
  obtain ⟨j0, HJ, HJ0, HJ1, HJ2⟩ := info_parts Tryd.infoE55
  refine wp_region_gen (I10 w (vals10 b x3 ca cl cc which e m) p.calls e m) (List.range 27) [27] (by kernel_rfl) (by kernel_rfl) ⟨Below.drew (Below.refl _ _), fun i hi => List.mem_range.1 hi, fun _ => by decide, fun _ => by decide, fun _ => by decide, fun _ => by decide, fun i hi hm => absurd (List.mem_range.2 hi) hm, fun h => absurd (by decide) h, fun h => absurd (by decide) h, fun h => absurd (by decide) h, fun h => absurd (by decide) h, fun h => absurd (by decide) h⟩ ?_ hend
  intro rem i o a' w' hmem hnd ho hag hdep hI
  have hi : i < 27 := hI.lt i hmem
  have s4 : slot a' 4 = .pointer (some ⟨b, 0, none⟩) := by rw [← h4]; exact hag.slot 4 (by kernel_rfl)
  have s5 : slot a' 5 = .pointer (some ⟨be, 0, none⟩) := by rw [← h5]; exact hag.slot 5 (by kernel_rfl)
  have s6 : slot a' 6 = .pointer (some ⟨bw, 0, none⟩) := by rw [← h6]; exact hag.slot 6 (by kernel_rfl)
  have s13 : slot a' 13 = .pointer (some ⟨x3, 0, none⟩) := by rw [← h13]; exact hag.slot 13 (by kernel_rfl)
  have hsz' : a'.tmps.size = 418 := hag.2.1.trans hsz
  have hbk : w'.cell? ⟨b, 2, none⟩ = some (.slice ca cl cc) := (hb.below hI.bel hb.lt).cell 2
  have hbek := hbe.below hI.bel hbe.lt
  have hbwk : w'.cell? ⟨bw, 0, none⟩ = some (.int .u8 which) := (hbw.below hI.bel hbw.lt).cell 0
  have hB : w.heap.size ≤ w'.heap.size := hI.bel.size
  have hrd := (hP.hcalls.below hI.bel).g
  have dep : ∀ j, ((Region.before ops10).getD i 0).testBit j = true → j ∉ rem := fun j hj hm => by cases (hdep j hm).symm.trans hj
  match i, hi, ho, hmem, hdep, dep with
  | 0, _, ho, hmem, hdep, dep =>
    obtain ⟨hop, hd, hg⟩ := o10 ho (X := .buildSlice 23 0 #[]) (D := some 92) (by kernel_rfl)
    refine step_ok hg (run_mk (t := 23) (e := 55) (by simp) hop) ⟨_, rfl, ?_⟩
    rw [hd]
    refine hI.step hnd hmem (by decide) _ ((Below.refl _ _).alloc (Nat.le_refl _) _) (fun h => absurd h (by decide)) (fun h => absurd h (by decide)) (fun h => absurd h (by decide)) (fun h => absurd rfl h) (by rw [hsz']; decide) (fun _ => ?_) (fun h => absurd h (by decide)) (fun h => absurd h (by decide)) (fun h => absurd h (by decide)) (fun h => absurd h (by decide))
    unfold EF
    rw [slot_self _ (by rw [hsz']; decide)]
    exact ⟨⟨_, rfl⟩, World.ownsRow_made w' #[] 0 hB (by decide) (by simp)⟩
  | 1, _, ho, hmem, hdep, dep =>
    obtain ⟨hop, hd, hg⟩ := o10 ho (X := .fieldAddr 27 (.tmp 4) 2) (D := some 93) (by kernel_rfl)
    refine step_ok hg (run_fa2 hop s4) ⟨_, rfl, ?_⟩
    rw [hd]
    exact hI.step hnd hmem (by decide) _ (Grow.refl _) (fun h => absurd h (by decide)) (fun h => absurd h (by decide)) (fun h => absurd h (by decide)) (fun _ _ _ _ _ => rfl) (by rw [hsz']; decide) (fun h => absurd h (by decide)) (fun h => absurd h (by decide)) (fun h => absurd h (by decide)) (fun h => absurd h (by decide)) (fun h => absurd h (by decide))
  | 2, _, ho, hmem, hdep, dep =>
    obtain ⟨hop, hd, hg⟩ := o10 ho (X := .load 23 (.tmp 93)) (D := some 94) (by kernel_rfl)
    have d1 : slot a' 93 = vals10 b x3 ca cl cc which e m 1 := hI.val 1 (by decide) (dep 1 (by kernel_rfl)) (by decide) (by decide) (by decide) (by decide) (by decide)
    refine step_ok hg (run_ld1 (.inl rfl) hop d1 hbk) ⟨_, rfl, ?_⟩
    rw [hd]
    exact hI.step hnd hmem (by decide) _ (Grow.refl _) (fun h => absurd h (by decide)) (fun h => absurd h (by decide)) (fun h => absurd h (by decide)) (fun _ _ _ _ _ => rfl) (by rw [hsz']; decide) (fun h => absurd h (by decide)) (fun h => absurd h (by decide)) (fun h => absurd h (by decide)) (fun h => absurd h (by decide)) (fun h => absurd h (by decide))
  | 3, _, ho, hmem, hdep, dep =>
    obtain ⟨hop, hd, hg⟩ := o10 ho (X := .load 5 (.tmp 6)) (D := some 95) (by kernel_rfl)
    refine step_ok hg (run_ld1 (.inr rfl) hop s6 hbwk) ⟨_, rfl, ?_⟩
    rw [hd]
    exact hI.step hnd hmem (by decide) _ (Grow.refl _) (fun h => absurd h (by decide)) (fun h => absurd h (by decide)) (fun h => absurd h (by decide)) (fun _ _ _ _ _ => rfl) (by rw [hsz']; decide) (fun h => absurd h (by decide)) (fun h => absurd h (by decide)) (fun h => absurd h (by decide)) (fun h => absurd h (by decide)) (fun h => absurd h (by decide))
  | 4, _, ho, hmem, hdep, dep =>
    obtain ⟨hop, hd, hg⟩ := o10 ho (X := .convert 5 3 (.tmp 95)) (D := some 96) (by kernel_rfl)
    have d3 : slot a' 95 = vals10 b x3 ca cl cc which e m 3 := hI.val 3 (by decide) (dep 3 (by kernel_rfl)) (by decide) (by decide) (by decide) (by decide) (by decide)
    refine step_ok hg (conv8 hop d3 k0 k1 _) ⟨_, rfl, ?_⟩
    rw [hd]
    exact hI.step hnd hmem (by decide) _ (Grow.refl _) (fun h => absurd h (by decide)) (fun h => absurd h (by decide)) (fun h => absurd h (by decide)) (fun _ _ _ _ _ => rfl) (by rw [hsz']; decide) (fun h => absurd h (by decide)) (fun h => absurd h (by decide)) (fun h => absurd h (by decide)) (fun h => absurd h (by decide)) (fun h => absurd h (by decide))
  | 5, _, ho, hmem, hdep, dep =>
    obtain ⟨hop, hd, hg⟩ := o10 ho (X := .fieldAddr 27 (.tmp 4) 2) (D := some 97) (by kernel_rfl)
    refine step_ok hg (run_fa2 hop s4) ⟨_, rfl, ?_⟩
    rw [hd]
    exact hI.step hnd hmem (by decide) _ (Grow.refl _) (fun h => absurd h (by decide)) (fun h => absurd h (by decide)) (fun h => absurd h (by decide)) (fun _ _ _ _ _ => rfl) (by rw [hsz']; decide) (fun h => absurd h (by decide)) (fun h => absurd h (by decide)) (fun h => absurd h (by decide)) (fun h => absurd h (by decide)) (fun h => absurd h (by decide))
  | 6, _, ho, hmem, hdep, dep =>
    obtain ⟨hop, hd, hg⟩ := o10 ho (X := .load 23 (.tmp 97)) (D := some 98) (by kernel_rfl)
    have d5 : slot a' 97 = vals10 b x3 ca cl cc which e m 5 := hI.val 5 (by decide) (dep 5 (by kernel_rfl)) (by decide) (by decide) (by decide) (by decide) (by decide)
    refine step_ok hg (run_ld1 (.inl rfl) hop d5 hbk) ⟨_, rfl, ?_⟩
    rw [hd]
    exact hI.step hnd hmem (by decide) _ (Grow.refl _) (fun h => absurd h (by decide)) (fun h => absurd h (by decide)) (fun h => absurd h (by decide)) (fun _ _ _ _ _ => rfl) (by rw [hsz']; decide) (fun h => absurd h (by decide)) (fun h => absurd h (by decide)) (fun h => absurd h (by decide)) (fun h => absurd h (by decide)) (fun h => absurd h (by decide))
  | 7, _, ho, hmem, hdep, dep =>
    obtain ⟨hop, hd, hg⟩ := o10 ho (X := .call { callee := .builtin .len, args := #[.tmp 98], argTypes := #[23] }) (D := some 99) (by kernel_rfl)
    have d6 : slot a' 98 = vals10 b x3 ca cl cc which e m 6 := hI.val 6 (by decide) (dep 6 (by kernel_rfl)) (by decide) (by decide) (by decide) (by decide) (by decide)
    refine step_ok hg (run_len23 hop d6) ⟨_, rfl, ?_⟩
    rw [hd]
    exact hI.step hnd hmem (by decide) _ (Grow.refl _) (fun h => absurd h (by decide)) (fun h => absurd h (by decide)) (fun h => absurd h (by decide)) (fun _ _ _ _ _ => rfl) (by rw [hsz']; decide) (fun h => absurd h (by decide)) (fun h => absurd h (by decide)) (fun h => absurd h (by decide)) (fun h => absurd h (by decide)) (fun h => absurd h (by decide))
  | 8, _, ho, hmem, hdep, dep =>
    obtain ⟨hop, hd, hg⟩ := o10 ho (X := .binOp .add 3 (.tmp 99) (.const (.int .i64 1)) 3) (D := some 100) (by kernel_rfl)
    have d7 : slot a' 99 = vals10 b x3 ca cl cc which e m 7 := hI.val 7 (by decide) (dep 7 (by kernel_rfl)) (by decide) (by decide) (by decide) (by decide) (by decide)
    refine step_ok hg (run_add1 hop d7 (by omega)) ⟨_, rfl, ?_⟩
    rw [hd]
    exact hI.step hnd hmem (by decide) _ (Grow.refl _) (fun h => absurd h (by decide)) (fun h => absurd h (by decide)) (fun h => absurd h (by decide)) (fun _ _ _ _ _ => rfl) (by rw [hsz']; decide) (fun h => absurd h (by decide)) (fun h => absurd h (by decide)) (fun h => absurd h (by decide)) (fun h => absurd h (by decide)) (fun h => absurd h (by decide))
  | 9, _, ho, hmem, hdep, dep =>
    obtain ⟨hop, hd, hg⟩ := o10 ho (X := .binOp .rem 3 (.tmp 96) (.tmp 100) 3) (D := some 101) (by kernel_rfl)
    have d4 : slot a' 96 = vals10 b x3 ca cl cc which e m 4 := hI.val 4 (by decide) (dep 4 (by kernel_rfl)) (by decide) (by decide) (by decide) (by decide) (by decide)
    have d8 : slot a' 100 = vals10 b x3 ca cl cc which e m 8 := hI.val 8 (by decide) (dep 8 (by kernel_rfl)) (by decide) (by decide) (by decide) (by decide) (by decide)
    refine step_ok hg (run_rem hop d4 d8 (by omega) hm) ⟨_, rfl, ?_⟩
    rw [hd]
    exact hI.step hnd hmem (by decide) _ (Grow.refl _) (fun h => absurd h (by decide)) (fun h => absurd h (by decide)) (fun h => absurd h (by decide)) (fun _ _ _ _ _ => rfl) (by rw [hsz']; decide) (fun h => absurd h (by decide)) (fun h => absurd h (by decide)) (fun h => absurd h (by decide)) (fun h => absurd h (by decide)) (fun h => absurd h (by decide))
  | 10, _, ho, hmem, hdep, dep =>
    obtain ⟨hop, hd, hg⟩ := o10 ho (X := .slice 23 (.tmp 94) none (some (.tmp 101)) none) (D := some 102) (by kernel_rfl)
    have d2 : slot a' 94 = vals10 b x3 ca cl cc which e m 2 := hI.val 2 (by decide) (dep 2 (by kernel_rfl)) (by decide) (by decide) (by decide) (by decide) (by decide)
    have d9 : slot a' 101 = vals10 b x3 ca cl cc which e m 9 := hI.val 9 (by decide) (dep 9 (by kernel_rfl)) (by decide) (by decide) (by decide) (by decide) (by decide)
    refine step_ok hg (run_slTo hop d2 d9 (by omega)) ⟨_, rfl, ?_⟩
    rw [hd]
    exact hI.step hnd hmem (by decide) _ (Grow.refl _) (fun h => absurd h (by decide)) (fun h => absurd h (by decide)) (fun h => absurd h (by decide)) (fun _ _ _ _ _ => rfl) (by rw [hsz']; decide) (fun h => absurd h (by decide)) (fun h => absurd h (by decide)) (fun h => absurd h (by decide)) (fun h => absurd h (by decide)) (fun h => absurd h (by decide))
  | 11, _, ho, hmem, hdep, dep =>
    obtain ⟨hop, hd, hg⟩ := o10 ho (X := .call { callee := .builtin .append, args := #[.tmp 92, .tmp 102], argTypes := #[23, 23] }) (D := some 103) (by kernel_rfl)
    have d10 : slot a' 102 = vals10 b x3 ca cl cc which e m 10 := hI.val 10 (by decide) (dep 10 (by kernel_rfl)) (by decide) (by decide) (by decide) (by decide) (by decide)
    obtain ⟨⟨g, h1⟩, h2⟩ := hI.f0 (dep 0 (by kernel_rfl)) hmem
    rw [h1] at h2
    obtain ⟨v', w2, r1, ⟨g2, c2, r2⟩, r3, r4⟩ := append_copy (P := Tryd.prog) 23 o.type 55 j0 _ 5 40 Tryd.underlying23 HJ HJ0 HJ1 HJ2 rfl (by decide) caF_len (c := cc) (n := m) (l := p.calls.take m) (by rw [List.length_take]; omega) (calls_take hrd m) (by omega) (by decide) hB h2
    refine step_ok hg (run_ap hop h1 d10 r1) ⟨_, rfl, ?_⟩
    rw [hd]
    refine hI.step hnd hmem (by decide) _ r4 (fun _ => dep 0 (by kernel_rfl)) (fun h => absurd h (by decide)) (fun h => absurd h (by decide)) (fun _ h => absurd rfl h) (by rw [hsz']; decide) (fun h => absurd h (by decide)) (fun _ => ?_) (fun h => absurd h (by decide)) (fun h => absurd h (by decide)) (fun h => absurd h (by decide))
    unfold AF
    rw [slot_self _ (by rw [hsz']; decide)]
    exact ⟨⟨g2, c2, r2⟩, r3⟩
  | 12, _, ho, hmem, hdep, dep =>
    obtain ⟨hop, hd, hg⟩ := o10 ho (X := .load 55 (.tmp 5)) (D := some 104) (by kernel_rfl)
    refine step_ok hg (run_ld55 hop s5 hbek) ⟨_, rfl, ?_⟩
    rw [hd]
    exact hI.step hnd hmem (by decide) _ (Grow.refl _) (fun h => absurd h (by decide)) (fun h => absurd h (by decide)) (fun h => absurd h (by decide)) (fun _ _ _ _ _ => rfl) (by rw [hsz']; decide) (fun h => absurd h (by decide)) (fun h => absurd h (by decide)) (fun h => absurd h (by decide)) (fun h => absurd h (by decide)) (fun h => absurd h (by decide))
  | 13, _, ho, hmem, hdep, dep =>
    obtain ⟨hop, hd, hg⟩ := o10 ho (X := .buildSlice 23 1 #[(0, .tmp 104)]) (D := some 105) (by kernel_rfl)
    have d12 : slot a' 104 = vals10 b x3 ca cl cc which e m 12 := hI.val 12 (by decide) (dep 12 (by kernel_rfl)) (by decide) (by decide) (by decide) (by decide) (by decide)
    refine step_ok hg (run_one hop d12) ⟨_, rfl, ?_⟩
    rw [hd]
    refine hI.step hnd hmem (by decide) _ ((Below.refl _ _).alloc (Nat.le_refl _) _) (fun h => absurd h (by decide)) (fun h => absurd h (by decide)) (fun h => absurd h (by decide)) (fun _ _ h => absurd rfl h) (by rw [hsz']; decide) (fun h => absurd h (by decide)) (fun h => absurd h (by decide)) (fun _ => ?_) (fun h => absurd h (by decide)) (fun h => absurd h (by decide))
    refine ⟨w'.heap.size, slot_self _ (by rw [hsz']; decide), by simp, fun j u hu => ?_⟩
    have := (Blk.new w' 55 (caF e).toArray).cell j
    rw [List.getElem?_toArray, hu] at this
    exact this
  | 14, _, ho, hmem, hdep, dep =>
    obtain ⟨hop, hd, hg⟩ := o10 ho (X := .call { callee := .builtin .append, args := #[.tmp 103, .tmp 105], argTypes := #[23, 23] }) (D := some 106) (by kernel_rfl)
    obtain ⟨⟨g, c, h1⟩, h2⟩ := hI.f1 (dep 11 (by kernel_rfl)) hmem
    obtain ⟨g3, s1, s2, s3⟩ := hI.f2 (dep 13 (by kernel_rfl)) hmem
    obtain ⟨v', w2, r1, r2, r3, r4⟩ := run_append_own (P := Tryd.prog) w' w.heap.size 23 o.type 55 j0 _ 5 40 Tryd.underlying23 HJ HJ0 HJ1 HJ2 rfl (by decide) _ m _ h2 ⟨g3, 0, none⟩ 1 1 (caF e) rfl (fun j u hu => by
      have := s3 j u hu
      unfold Addr.add
      split
      · rename_i hz; rw [hz] at this; exact this
      · simpa using this) (by intro u hu; simp [caF] at hu; rcases hu with rfl | rfl | rfl | rfl | rfl <;> rfl) (by unfold maxLen; omega) (by omega) hB
    refine step_ok hg (run_ap hop rfl s1 r1) ⟨_, rfl, ?_⟩
    rw [hd]
    refine hI.step14 hnd hmem _ ((Below.refl w.heap.size w').grown r3 hB (fun k' hk' => (h2.lt k' hk').1)) ⟨dep 11 (by kernel_rfl), dep 13 (by kernel_rfl)⟩ ?_
    unfold AF
    rw [slot_self _ (by rw [hsz']; decide)]
    refine ⟨?_, by rw [List.flatMap_append, List.flatMap_singleton]; exact r2⟩
    rcases r2.2 with ⟨_, h⟩ | ⟨g', c', _, h, _⟩
    · omega
    · exact ⟨g', c', h⟩
  | 15, _, ho, hmem, hdep, dep =>
    obtain ⟨hop, hd, hg⟩ := o10 ho (X := .fieldAddr 27 (.tmp 4) 2) (D := some 107) (by kernel_rfl)
    refine step_ok hg (run_fa2 hop s4) ⟨_, rfl, ?_⟩
    rw [hd]
    exact hI.step hnd hmem (by decide) _ (Grow.refl _) (fun h => absurd h (by decide)) (fun h => absurd h (by decide)) (fun h => absurd h (by decide)) (fun _ _ _ _ _ => rfl) (by rw [hsz']; decide) (fun h => absurd h (by decide)) (fun h => absurd h (by decide)) (fun h => absurd h (by decide)) (fun h => absurd h (by decide)) (fun h => absurd h (by decide))
  | 16, _, ho, hmem, hdep, dep =>
    obtain ⟨hop, hd, hg⟩ := o10 ho (X := .load 23 (.tmp 107)) (D := some 108) (by kernel_rfl)
    have d15 : slot a' 107 = vals10 b x3 ca cl cc which e m 15 := hI.val 15 (by decide) (dep 15 (by kernel_rfl)) (by decide) (by decide) (by decide) (by decide) (by decide)
    refine step_ok hg (run_ld1 (.inl rfl) hop d15 hbk) ⟨_, rfl, ?_⟩
    rw [hd]
    exact hI.step hnd hmem (by decide) _ (Grow.refl _) (fun h => absurd h (by decide)) (fun h => absurd h (by decide)) (fun h => absurd h (by decide)) (fun _ _ _ _ _ => rfl) (by rw [hsz']; decide) (fun h => absurd h (by decide)) (fun h => absurd h (by decide)) (fun h => absurd h (by decide)) (fun h => absurd h (by decide)) (fun h => absurd h (by decide))
  | 17, _, ho, hmem, hdep, dep =>
    obtain ⟨hop, hd, hg⟩ := o10 ho (X := .load 5 (.tmp 6)) (D := some 109) (by kernel_rfl)
    refine step_ok hg (run_ld1 (.inr rfl) hop s6 hbwk) ⟨_, rfl, ?_⟩
    rw [hd]
    exact hI.step hnd hmem (by decide) _ (Grow.refl _) (fun h => absurd h (by decide)) (fun h => absurd h (by decide)) (fun h => absurd h (by decide)) (fun _ _ _ _ _ => rfl) (by rw [hsz']; decide) (fun h => absurd h (by decide)) (fun h => absurd h (by decide)) (fun h => absurd h (by decide)) (fun h => absurd h (by decide)) (fun h => absurd h (by decide))
  | 18, _, ho, hmem, hdep, dep =>
    obtain ⟨hop, hd, hg⟩ := o10 ho (X := .convert 5 3 (.tmp 109)) (D := some 110) (by kernel_rfl)
    have d17 : slot a' 109 = vals10 b x3 ca cl cc which e m 17 := hI.val 17 (by decide) (dep 17 (by kernel_rfl)) (by decide) (by decide) (by decide) (by decide) (by decide)
    refine step_ok hg (conv8 hop d17 k0 k1 _) ⟨_, rfl, ?_⟩
    rw [hd]
    exact hI.step hnd hmem (by decide) _ (Grow.refl _) (fun h => absurd h (by decide)) (fun h => absurd h (by decide)) (fun h => absurd h (by decide)) (fun _ _ _ _ _ => rfl) (by rw [hsz']; decide) (fun h => absurd h (by decide)) (fun h => absurd h (by decide)) (fun h => absurd h (by decide)) (fun h => absurd h (by decide)) (fun h => absurd h (by decide))
  | 19, _, ho, hmem, hdep, dep =>
    obtain ⟨hop, hd, hg⟩ := o10 ho (X := .fieldAddr 27 (.tmp 4) 2) (D := some 111) (by kernel_rfl)
    refine step_ok hg (run_fa2 hop s4) ⟨_, rfl, ?_⟩
    rw [hd]
    exact hI.step hnd hmem (by decide) _ (Grow.refl _) (fun h => absurd h (by decide)) (fun h => absurd h (by decide)) (fun h => absurd h (by decide)) (fun _ _ _ _ _ => rfl) (by rw [hsz']; decide) (fun h => absurd h (by decide)) (fun h => absurd h (by decide)) (fun h => absurd h (by decide)) (fun h => absurd h (by decide)) (fun h => absurd h (by decide))
  | 20, _, ho, hmem, hdep, dep =>
    obtain ⟨hop, hd, hg⟩ := o10 ho (X := .load 23 (.tmp 111)) (D := some 112) (by kernel_rfl)
    have d19 : slot a' 111 = vals10 b x3 ca cl cc which e m 19 := hI.val 19 (by decide) (dep 19 (by kernel_rfl)) (by decide) (by decide) (by decide) (by decide) (by decide)
    refine step_ok hg (run_ld1 (.inl rfl) hop d19 hbk) ⟨_, rfl, ?_⟩
    rw [hd]
    exact hI.step hnd hmem (by decide) _ (Grow.refl _) (fun h => absurd h (by decide)) (fun h => absurd h (by decide)) (fun h => absurd h (by decide)) (fun _ _ _ _ _ => rfl) (by rw [hsz']; decide) (fun h => absurd h (by decide)) (fun h => absurd h (by decide)) (fun h => absurd h (by decide)) (fun h => absurd h (by decide)) (fun h => absurd h (by decide))
  | 21, _, ho, hmem, hdep, dep =>
    obtain ⟨hop, hd, hg⟩ := o10 ho (X := .call { callee := .builtin .len, args := #[.tmp 112], argTypes := #[23] }) (D := some 113) (by kernel_rfl)
    have d20 : slot a' 112 = vals10 b x3 ca cl cc which e m 20 := hI.val 20 (by decide) (dep 20 (by kernel_rfl)) (by decide) (by decide) (by decide) (by decide) (by decide)
    refine step_ok hg (run_len23 hop d20) ⟨_, rfl, ?_⟩
    rw [hd]
    exact hI.step hnd hmem (by decide) _ (Grow.refl _) (fun h => absurd h (by decide)) (fun h => absurd h (by decide)) (fun h => absurd h (by decide)) (fun _ _ _ _ _ => rfl) (by rw [hsz']; decide) (fun h => absurd h (by decide)) (fun h => absurd h (by decide)) (fun h => absurd h (by decide)) (fun h => absurd h (by decide)) (fun h => absurd h (by decide))
  | 22, _, ho, hmem, hdep, dep =>
    obtain ⟨hop, hd, hg⟩ := o10 ho (X := .binOp .add 3 (.tmp 113) (.const (.int .i64 1)) 3) (D := some 114) (by kernel_rfl)
    have d21 : slot a' 113 = vals10 b x3 ca cl cc which e m 21 := hI.val 21 (by decide) (dep 21 (by kernel_rfl)) (by decide) (by decide) (by decide) (by decide) (by decide)
    refine step_ok hg (run_add1 hop d21 (by omega)) ⟨_, rfl, ?_⟩
    rw [hd]
    exact hI.step hnd hmem (by decide) _ (Grow.refl _) (fun h => absurd h (by decide)) (fun h => absurd h (by decide)) (fun h => absurd h (by decide)) (fun _ _ _ _ _ => rfl) (by rw [hsz']; decide) (fun h => absurd h (by decide)) (fun h => absurd h (by decide)) (fun h => absurd h (by decide)) (fun h => absurd h (by decide)) (fun h => absurd h (by decide))
  | 23, _, ho, hmem, hdep, dep =>
    obtain ⟨hop, hd, hg⟩ := o10 ho (X := .binOp .rem 3 (.tmp 110) (.tmp 114) 3) (D := some 115) (by kernel_rfl)
    have d18 : slot a' 110 = vals10 b x3 ca cl cc which e m 18 := hI.val 18 (by decide) (dep 18 (by kernel_rfl)) (by decide) (by decide) (by decide) (by decide) (by decide)
    have d22 : slot a' 114 = vals10 b x3 ca cl cc which e m 22 := hI.val 22 (by decide) (dep 22 (by kernel_rfl)) (by decide) (by decide) (by decide) (by decide) (by decide)
    refine step_ok hg (run_rem hop d18 d22 (by omega) hm) ⟨_, rfl, ?_⟩
    rw [hd]
    exact hI.step hnd hmem (by decide) _ (Grow.refl _) (fun h => absurd h (by decide)) (fun h => absurd h (by decide)) (fun h => absurd h (by decide)) (fun _ _ _ _ _ => rfl) (by rw [hsz']; decide) (fun h => absurd h (by decide)) (fun h => absurd h (by decide)) (fun h => absurd h (by decide)) (fun h => absurd h (by decide)) (fun h => absurd h (by decide))
  | 24, _, ho, hmem, hdep, dep =>
    obtain ⟨hop, hd, hg⟩ := o10 ho (X := .slice 23 (.tmp 108) (some (.tmp 115)) none none) (D := some 116) (by kernel_rfl)
    have d16 : slot a' 108 = vals10 b x3 ca cl cc which e m 16 := hI.val 16 (by decide) (dep 16 (by kernel_rfl)) (by decide) (by decide) (by decide) (by decide) (by decide)
    have d23 : slot a' 115 = vals10 b x3 ca cl cc which e m 23 := hI.val 23 (by decide) (dep 23 (by kernel_rfl)) (by decide) (by decide) (by decide) (by decide) (by decide)
    refine step_ok hg (run_slFrom hop d16 d23 (by omega) hcap) ⟨_, rfl, ?_⟩
    rw [hd]
    exact hI.step hnd hmem (by decide) _ (Grow.refl _) (fun h => absurd h (by decide)) (fun h => absurd h (by decide)) (fun h => absurd h (by decide)) (fun _ _ _ _ _ => rfl) (by rw [hsz']; decide) (fun h => absurd h (by decide)) (fun h => absurd h (by decide)) (fun h => absurd h (by decide)) (fun h => absurd h (by decide)) (fun h => absurd h (by decide))
  | 25, _, ho, hmem, hdep, dep =>
    obtain ⟨hop, hd, hg⟩ := o10 ho (X := .call { callee := .builtin .append, args := #[.tmp 106, .tmp 116], argTypes := #[23, 23] }) (D := some 117) (by kernel_rfl)
    have d24 : slot a' 116 = vals10 b x3 ca cl cc which e m 24 := hI.val 24 (by decide) (dep 24 (by kernel_rfl)) (by decide) (by decide) (by decide) (by decide) (by decide)
    obtain ⟨⟨g, c, h1⟩, h2⟩ := hI.f3 (dep 14 (by kernel_rfl)) hmem
    rw [h1] at h2
    obtain ⟨v', w2, r1, r2, r3, r4⟩ := append_more (P := Tryd.prog) (f := caF) 23 o.type 55 j0 _ 5 40 Tryd.underlying23 HJ HJ0 HJ1 HJ2 rfl (by decide) caF_len (fun x u hu => by simp [caF] at hu; rcases hu with rfl | rfl | rfl | rfl | rfl <;> rfl) (l := p.calls.drop m) (k := cl - m) (c := cc - m) (A := if cc = m then ca else ca.map (·.add (m * 5))) (by rw [List.length_drop]; omega) (drop_reads hrd hcl hcap) (fun _ hA => cap_none hnil hA) (by omega) (by decide) hB (by omega) h2
    refine step_ok hg (run_ap hop h1 d24 r1) ⟨_, rfl, ?_⟩
    rw [hd]
    refine hI.step25 hnd _ r4 (dep 14 (by kernel_rfl)) ?_
    unfold AF
    rw [slot_self _ (by rw [hsz']; decide)]
    have e1 : m + 1 + (cl - m) = p.calls.length + 1 := by omega
    rw [e1] at r2 r3
    refine ⟨r2, ?_⟩
    have e2 : (p.calls.take m ++ [e]).flatMap caF ++ (p.calls.drop m).flatMap caF = (p.calls.take m ++ e :: p.calls.drop m).flatMap caF := by
      rw [← List.flatMap_append, List.append_assoc]; rfl
    rw [← e2]; exact r3
  | 26, _, ho, hmem, hdep, dep =>
    obtain ⟨hop, hd, hg⟩ := o10 ho (X := .fieldAddr 27 (.tmp 13) 2) (D := some 118) (by kernel_rfl)
    refine step_ok hg (run_fa2 hop s13) ⟨_, rfl, ?_⟩
    rw [hd]
    exact hI.step hnd hmem (by decide) _ (Grow.refl _) (fun h => absurd h (by decide)) (fun h => absurd h (by decide)) (fun h => absurd h (by decide)) (fun _ _ _ _ _ => rfl) (by rw [hsz']; decide) (fun h => absurd h (by decide)) (fun h => absurd h (by decide)) (fun h => absurd h (by decide)) (fun h => absurd h (by decide)) (fun h => absurd h (by decide))
  | k + 27, hk, _, _, _, _ => exact absurd hk (by omega)
end
end Go.Proofs.YtlcolpnniipgbaaDoor
