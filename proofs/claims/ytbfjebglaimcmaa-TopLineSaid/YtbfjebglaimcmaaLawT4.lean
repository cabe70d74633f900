/- TopLine: the loop that makes both lines of what is pressed. Conditions: what the frame holds. -/
import Derived.Test.YtbfjebglaimcmaaLawT0
import Derived.Test.YtbfjebglaimcmaaRefA
import Derived.Test.YtbfjebglaimcmaaLawTw
namespace Go.Proofs.Ytbfjebglaimcmaa
open Go.RowKit Go.Hav Go.Sq
attribute [local go_sem] Oper.semAt_some
theorem own_kept {w w' : World} {B e size n : Nat} {v : Value} {xs : List Value} (h : w.ownsRow B e size v n xs) (hk : ∀ k, v.ownBlock = some k → w'.heap[k]? = w.heap[k]?) : w'.ownsRow B e size v n xs := by
  refine ⟨h.1, ?_⟩
  rcases h.2 with h1 | ⟨g, c, cur, rfl, k2, k3, k4⟩
  · exact .inl h1
  · exact .inr ⟨g, c, cur, rfl, k2, (hk g rfl).trans k3, k4⟩
theorem wpList_append_sep {P : Program} {ops : Array Oper} {rest : List Oper} {o : Oper} {a : Act} {w : World} {Q : Exit → Act → World → Prop} (hgd : o.guard = none) (s x : Operand) (t : TypeId)
    (ho : o.op = .call { callee := .builtin .append, args := #[s, x], argTypes := #[t, t] })
    (base : Nat) (e : TypeId) (i : TypeInfo) (z : Value) (size bytes : Nat) (ht : P.underlying t = some (.slice e)) (hi : P.info? e = some i) (hz : i.zero = some z)
    (hsize : i.size = size) (hby : i.bytes = bytes) (hzs : z.cells.size = size) (hsz : 0 < size) (v : Value) (n : Nat) (xs : List Value) (hs : a.eval s = v) (hown : w.ownsRow base e size v n xs)
    (ad : Addr) (c : Nat) (ys : List Value) (hx : a.eval x = .slice (some ad) 1 c) (hl : ys.length = size) (hnews : ∀ j x, ys[j]? = some x → w.cell? (ad.add j) = some x) (h1 : ∀ x ∈ ys, x.oneCell' = true) (h63 : n + 1 ≤ 100000) (hb : bytes ≤ 100000) (hbase : base ≤ w.heap.size)
    (h : ∀ v' w', w'.ownsRow base e size v' (n + 1) (xs ++ ys) → w.grownBy w' v.ownBlock → (∀ k, v'.ownBlock = some k → v.ownBlock = some k ∨ w.heap.size ≤ k) → wpList P ops Q rest (a.put o.dst v') w') :
    wpList P ops Q (o :: rest) a w := by
  refine wpList_plain hgd fun K hK => ?_
  obtain ⟨v', w', hr, h2, h3, h4⟩ := append_sep (P := P) base t o.type e i z size bytes ht hi hz hsize hby hzs hsz v n xs hown ad c ys hl hnews h1 h63 hb hbase
  unfold Oper.wp execOp
  simp only [ho, resolve, invoke, builtin, Sem.run_bind, Sem.run_pure, Result.andThen_ok, List.map_toArray, List.map_cons, List.map_nil, hs, hx, hr]
  exact hK _ _ (h v' w' h2 h3 h4)
theorem popN_pos : ∀ s, s < 1024 → 0 < s → 1 ≤ popN s := by decide +kernel
theorem own_slice {w : World} {B e size n : Nat} {v : Value} {xs : List Value} (h : w.ownsRow B e size v n xs) : ∃ a c, v = .slice a n c := by
  rcases h.2 with ⟨rfl, rfl⟩ | ⟨g, c, cur, rfl, -⟩
  · exact ⟨none, 0, rfl⟩
  · exact ⟨_, _, rfl⟩
/-- Numbers in a row. -/
def natF (k : Nat) : List Value := [.int .i64 (k : Nat)]
theorem natF_len (k : Nat) : (natF k).length = 1 := rfl
/-- What the loop leans on: both lines, what is wrong, the counter; rows that are its own, each apart. -/
structure TopW (w K : World) (Bq gc gs cn us may ul uc : Nat) (ua : Option Addr) (U : List Nat) (N : Nat) (vc : Value) (nc : Nat) (rc : List Value) (vs : Value) (ns : Nat) (rs : List Value) (vw : Value) (nw : Nat) (rw_ : List Value) : Prop where
  bw : Below w.heap.size w K
  hB : Bq ≤ K.heap.size
  wB : w.heap.size ≤ Bq
  hc : Blk K gc 75 #[vc, .int .i64 (may : Nat), .int .i64 30, .int .i64 0]
  hs : Blk K gs 75 #[vs, .int .i64 (may : Nat), .int .i64 30, .int .i64 0]
  oc : K.ownsRow Bq 77 3 vc nc rc
  os : K.ownsRow Bq 77 3 vs ns rs
  ow : K.ownsRow Bq 3 1 vw nw rw_
  cnt : Cnt cn N K
  hu : Blk K us 47 #[.slice ua ul uc]
  uin : UIn K w.heap.size ua ul U
  low : w.heap.size ≤ gc ∧ w.heap.size ≤ gs ∧ w.heap.size ≤ cn ∧ w.heap.size ≤ us ∧ gc < Bq ∧ gs < Bq ∧ cn < Bq ∧ us < Bq
  ne : gc ≠ gs ∧ gc ≠ cn ∧ gs ≠ cn ∧ us ≠ gc ∧ us ≠ gs ∧ us ≠ cn
  sep : ∀ k, (vc.ownBlock = some k → vs.ownBlock ≠ some k ∧ vw.ownBlock ≠ some k) ∧ (vs.ownBlock = some k → vw.ownBlock ≠ some k)
section
variable {w K K' : World} {Bq gc gs cn us may ul uc N nc ns nw : Nat} {ua : Option Addr} {U : List Nat} {vc vs vw v' : Value} {rc rs rw_ ys : List Value}
theorem TopW.turn {S : Nat → Prop} (h : TopW w K Bq gc gs cn us may ul uc ua U N vc nc rc vs ns rs vw nw rw_) (t : Turn S K K') (hS : ∀ b, S b → b = cn) {M : Nat} (hM : Cnt cn M K') : TopW w K' Bq gc gs cn us may ul uc ua U M vc nc rc vs ns rs vw nw rw_ := by
  obtain ⟨n1, n2, n3, n4, n5, n6⟩ := h.ne
  obtain ⟨l1, l2, l3, l4, l5, l6, l7, l8⟩ := h.low
  have hr : ∀ {e sz n : Nat} {v : Value} {xs : List Value}, K.ownsRow Bq e sz v n xs → K'.ownsRow Bq e sz v n xs := fun ho => own_kept ho fun k hk => t.block k (ho.lt k hk).2 (fun hs => by have := hS k hs; have := (ho.lt k hk).1; omega)
  have hwB := h.wB
  exact { h with bw := h.bw.trans (t.below h.bw.size (fun b hb => by have := hS b hb; omega)), hB := Nat.le_trans h.hB t.size, hc := h.hc.turn t (fun e => n2 (hS _ e)), hs := h.hs.turn t (fun e => n3 (hS _ e)), oc := hr h.oc, os := hr h.os, ow := hr h.ow, cnt := hM, hu := h.hu.turn t (fun e => n6 (hS _ e)), uin := h.uin.turn h.bw.size t (fun b hb e => by have := hS b e; omega) }
theorem TopW.below (h : TopW w K Bq gc gs cn us may ul uc ua U N vc nc rc vs ns rs vw nw rw_) (hb : Below K.heap.size K K') : TopW w K' Bq gc gs cn us may ul uc ua U N vc nc rc vs ns rs vw nw rw_ :=
  h.turn (Turn.of_below (S := fun _ => False) hb) (fun _ e => e.elim) (h.cnt.below hb)
/-- What lies below both lines' rows and is none of their boxes is kept. -/
theorem TopW.rowC (h : TopW w K Bq gc gs cn us may ul uc ua U N vc nc rc vs ns rs vw nw rw_) {w2 : World} (ho : w2.ownsRow Bq 77 3 v' (nc + 1) (rc ++ ys)) (hg : K.grownBy w2 vc.ownBlock) (hn : ∀ k, v'.ownBlock = some k → vc.ownBlock = some k ∨ K.heap.size ≤ k) :
    TopW w (w2.setCell ⟨gc, 0, none⟩ v') Bq gc gs cn us may ul uc ua U N v' (nc + 1) (rc ++ ys) vs ns rs vw nw rw_ ∧ Turn (fun b => b = gc ∨ Bq ≤ b) K (w2.setCell ⟨gc, 0, none⟩ v') := by
  obtain ⟨n1, n2, n3, n4, n5, n6⟩ := h.ne
  obtain ⟨l1, l2, l3, l4, l5, l6, l7, l8⟩ := h.low
  have hwB := h.wB
  have t1 : Turn (fun b => vc.ownBlock = some b) K w2 := Turn.of_grown hg (fun r e _ => e)
  have t2 : Turn (fun b => b = gc) w2 (w2.setCell ⟨gc, 0, none⟩ v') := Turn.set _ _ (fun _ => rfl)
  have t : Turn (fun b => vc.ownBlock = some b ∨ b = gc) K (w2.setCell ⟨gc, 0, none⟩ v') := (t1.mono fun _ e => .inl e).trans (t2.mono fun _ e => .inr e)
  have hlow : ∀ b, b < Bq → b ≠ gc → ¬ (vc.ownBlock = some b ∨ b = gc) := fun b hb hne e => e.elim (fun e => by have := (h.oc.lt b e).1; omega) hne
  have hc2 : Blk w2 gc 75 #[vc, .int .i64 (may : Nat), .int .i64 30, .int .i64 0] := h.hc.turn t1 (fun e => by have := (h.oc.lt gc e).1; omega)
  have hc3 := hc2.set_ 0 v'
  have hcnt : Cnt cn N (w2.setCell ⟨gc, 0, none⟩ v') := h.cnt.turn t (hlow cn l7 (fun e => n2 e.symm))
  refine ⟨{ h with bw := h.bw.trans (t.below h.bw.size (fun b hb => by rcases hb with hb | hb; (have := (h.oc.lt b hb).1; omega); omega)), hB := Nat.le_trans h.hB t.size, hc := by simpa using hc3, hs := h.hs.turn t (hlow gs l6 (fun e => n1 e.symm)), oc := own_kept ho (fun k hk => t2.block k (ho.lt k hk).2 (fun e => by have := (ho.lt k hk).1; have e' : k = gc := e; omega)), os := own_kept h.os (fun k hk => t.block k (h.os.lt k hk).2 (fun e => e.elim (fun e => (((h.sep k).1 e).1 hk).elim) (fun e => by have := (h.os.lt k hk).1; omega))), ow := own_kept h.ow (fun k hk => t.block k (h.ow.lt k hk).2 (fun e => e.elim (fun e => (((h.sep k).1 e).2 hk).elim) (fun e => by have := (h.ow.lt k hk).1; omega))), cnt := hcnt, hu := h.hu.turn t (hlow us l8 n4), uin := h.uin.turn h.bw.size t (fun b hb => hlow b (by omega) (by omega)), sep := fun k => ⟨fun hk => ?_, (h.sep k).2⟩ }, t.mono (fun b e => e.elim (fun e => .inr (h.oc.lt b e).1) .inl)⟩
  rcases hn k hk with e | e
  · exact (h.sep k).1 e
  · exact ⟨fun e2 => by have := (h.os.lt k e2).2; omega, fun e2 => by have := (h.ow.lt k e2).2; omega⟩
theorem TopW.rowS (h : TopW w K Bq gc gs cn us may ul uc ua U N vc nc rc vs ns rs vw nw rw_) {w2 : World} (ho : w2.ownsRow Bq 77 3 v' (ns + 1) (rs ++ ys)) (hg : K.grownBy w2 vs.ownBlock) (hn : ∀ k, v'.ownBlock = some k → vs.ownBlock = some k ∨ K.heap.size ≤ k) :
    TopW w (w2.setCell ⟨gs, 0, none⟩ v') Bq gc gs cn us may ul uc ua U N vc nc rc v' (ns + 1) (rs ++ ys) vw nw rw_ ∧ Turn (fun b => b = gs ∨ Bq ≤ b) K (w2.setCell ⟨gs, 0, none⟩ v') := by
  obtain ⟨n1, n2, n3, n4, n5, n6⟩ := h.ne
  obtain ⟨l1, l2, l3, l4, l5, l6, l7, l8⟩ := h.low
  have hwB := h.wB
  have t1 : Turn (fun b => vs.ownBlock = some b) K w2 := Turn.of_grown hg (fun r e _ => e)
  have t2 : Turn (fun b => b = gs) w2 (w2.setCell ⟨gs, 0, none⟩ v') := Turn.set _ _ (fun _ => rfl)
  have t : Turn (fun b => vs.ownBlock = some b ∨ b = gs) K (w2.setCell ⟨gs, 0, none⟩ v') := (t1.mono fun _ e => .inl e).trans (t2.mono fun _ e => .inr e)
  have hlow : ∀ b, b < Bq → b ≠ gs → ¬ (vs.ownBlock = some b ∨ b = gs) := fun b hb hne e => e.elim (fun e => by have := (h.os.lt b e).1; omega) hne
  have hs2 : Blk w2 gs 75 #[vs, .int .i64 (may : Nat), .int .i64 30, .int .i64 0] := h.hs.turn t1 (fun e => by have := (h.os.lt gs e).1; omega)
  have hs3 := hs2.set_ 0 v'
  have hcnt : Cnt cn N (w2.setCell ⟨gs, 0, none⟩ v') := h.cnt.turn t (hlow cn l7 (fun e => n3 e.symm))
  refine ⟨{ h with bw := h.bw.trans (t.below h.bw.size (fun b hb => by rcases hb with hb | hb; (have := (h.os.lt b hb).1; omega); omega)), hB := Nat.le_trans h.hB t.size, hs := by simpa using hs3, hc := h.hc.turn t (hlow gc l5 n1), os := own_kept ho (fun k hk => t2.block k (ho.lt k hk).2 (fun e => by have := (ho.lt k hk).1; have e' : k = gs := e; omega)), oc := own_kept h.oc (fun k hk => t.block k (h.oc.lt k hk).2 (fun e => e.elim (fun e => (((h.sep k).1 hk).1 e).elim) (fun e => by have := (h.oc.lt k hk).1; omega))), ow := own_kept h.ow (fun k hk => t.block k (h.ow.lt k hk).2 (fun e => e.elim (fun e => (((h.sep k).2 e) hk).elim) (fun e => by have := (h.ow.lt k hk).1; omega))), cnt := hcnt, hu := h.hu.turn t (hlow us l8 n5), uin := h.uin.turn h.bw.size t (fun b hb => hlow b (by omega) (by omega)), sep := fun k => ⟨fun hk => ⟨fun e => ?_, ((h.sep k).1 hk).2⟩, fun hk => ?_⟩ }, t.mono (fun b e => e.elim (fun e => .inr (h.os.lt b e).1) .inl)⟩
  · rcases hn k e with e | e
    · exact ((h.sep k).1 hk).1 e
    · have := (h.oc.lt k hk).2; omega
  · rcases hn k hk with e | e
    · exact (h.sep k).2 e
    · exact fun e2 => by have := (h.ow.lt k e2).2; omega
theorem TopW.rowW (h : TopW w K Bq gc gs cn us may ul uc ua U N vc nc rc vs ns rs vw nw rw_) {w2 : World} (ho : w2.ownsRow Bq 3 1 v' (nw + 1) (rw_ ++ ys)) (hg : K.grownBy w2 vw.ownBlock) (hn : ∀ k, v'.ownBlock = some k → vw.ownBlock = some k ∨ K.heap.size ≤ k) :
    TopW w w2 Bq gc gs cn us may ul uc ua U N vc nc rc vs ns rs v' (nw + 1) (rw_ ++ ys) ∧ Turn (fun b => Bq ≤ b) K w2 := by
  obtain ⟨n1, n2, n3, n4, n5, n6⟩ := h.ne
  obtain ⟨l1, l2, l3, l4, l5, l6, l7, l8⟩ := h.low
  have hwB := h.wB
  have t : Turn (fun b => vw.ownBlock = some b) K w2 := Turn.of_grown hg (fun r e _ => e)
  have hlow : ∀ b, b < Bq → ¬ (vw.ownBlock = some b) := fun b hb e => by have := (h.ow.lt b e).1; omega
  refine ⟨{ h with bw := h.bw.trans (t.below h.bw.size (fun b hb => by have := (h.ow.lt b hb).1; omega)), hB := Nat.le_trans h.hB t.size, hs := h.hs.turn t (hlow gs l6), hc := h.hc.turn t (hlow gc l5), ow := ho, oc := own_kept h.oc (fun k hk => t.block k (h.oc.lt k hk).2 (fun e => ((h.sep k).1 hk).2 e)), os := own_kept h.os (fun k hk => t.block k (h.os.lt k hk).2 (fun e => (h.sep k).2 hk e)), cnt := h.cnt.turn t (hlow cn l7), hu := h.hu.turn t (hlow us l8), uin := h.uin.turn h.bw.size t (fun b hb => hlow b (by omega)), sep := fun k => ⟨fun hk => ⟨((h.sep k).1 hk).1, fun e => ?_⟩, fun hk e => ?_⟩ }, t.mono (fun b e => (h.ow.lt b e).1)⟩
  · rcases hn k e with e | e
    · exact ((h.sep k).1 hk).2 e
    · have := (h.oc.lt k hk).2; omega
  · rcases hn k e with e | e
    · exact (h.sep k).2 hk e
    · have := (h.os.lt k hk).2; omega
end
theorem infoT3 : (Try.prog.info? 3).map (fun i => (i.zero, i.size, i.bytes)) = some (some (.int .i64 0), 1, 8) := by kernel_rfl
theorem infoT77 : (Try.prog.info? 77).map (fun i => (i.zero, i.size, i.bytes)) = some (some (.agg #[.int .i64 0, .int .i64 0, .int .i64 0]), 3, 24) := by kernel_rfl
theorem exec_build77 {o : Oper} {a : Act} (w : World) {d : Nat} {v0 v1 v2 : Value} (ho : o.op = .buildSlice 73 1 #[(0, .tmp d)]) (h1 : a.eval (.tmp d) = .agg #[v0, v1, v2]) :
    (execOp a.eval o).run Try.prog w = .ok (.value (.slice (some ⟨w.heap.size, 0, none⟩) 1 1)) (w.alloc (.cells #[v0, v1, v2] 77)) := by
  unfold execOp
  rw [ho]
  have hu := Try.underlying73
  have h1' : a.tmps[d]?.getD undef = .agg #[v0, v1, v2] := by rw [← h1]; simp [Act.eval]
  go_simp
theorem exec_append {P : Program} {o : Oper} {a : Act} {w w' : World} (s x : Operand) (t : TypeId) {v y v' : Value}
    (ho : o.op = .call { callee := .builtin .append, args := #[s, x], argTypes := #[t, t] }) (hs : a.eval s = v) (hx : a.eval x = y) (hr : (Builtin.append_ #[t, t] o.type #[v, y]).run P w = .ok v' w') :
    (execOp a.eval o).run P w = .ok (.value v') w' := by
  unfold execOp
  simp only [ho, resolve, invoke, builtin, Sem.run_bind, Sem.run_pure, Result.andThen_ok, List.map_toArray, List.map_cons, List.map_nil, hs, hx, hr]
section
variable {w K K' : World} {Bq gc gs cn us may ul uc : Nat} {ua : Option Addr} {U : List Nat} {vc vs vw : Value} {xs : List TopB}
theorem top_sums {xs : List TopB} (h : ∀ x ∈ xs, x.Ok) : (xs.map (·.n)).sum ≤ 30 * xs.length ∧ (xs.map (·.k)).sum ≤ 30 * xs.length := by
  induction xs with
  | nil => simp
  | cons a xs ih =>
    have h1 := h a (by simp)
    obtain ⟨h2, h3⟩ := ih (fun x hx => h x (by simp [hx]))
    unfold TopB.Ok at h1
    simp only [List.map_cons, List.sum_cons, List.length_cons]
    omega
theorem justC_snoc (may : Nat) (xs : List TopB) (x : TopB) : (justC may (xs ++ [x])).bl.flatMap blF = (justC may xs).bl.flatMap blF ++ [.int .i64 x.n, .int .i64 x.n, .int .i64 x.k] := by
  simp [justC, blF]
theorem seenC_snoc (may : Nat) (xs : List TopB) (x : TopB) : (seenC may (xs ++ [x])).bl.flatMap blF = (seenC may xs).bl.flatMap blF ++ [.int .i64 x.n, .int .i64 x.l, .int .i64 x.w] := by
  simp [seenC, blF]
theorem natF_snoc (xs : List TopB) (x : TopB) : ((xs ++ [x]).map (·.k)).flatMap natF = (xs.map (·.k)).flatMap natF ++ [.int .i64 x.k] := by
  simp [natF]
/-- What the lists say of the first sets. -/
structure TopL (L : List Nat) (bb : Nat) (k : Nat) (xs : List TopB) : Prop where
  len : xs.length = k
  n : xs.map (·.n) = (L.take k).map popN
  k : xs.map (·.k) = (L.take k).map fun s => popN (s &&& bb)
  ok : ∀ x ∈ xs, x.Ok
theorem TopL.snoc {L : List Nat} {bb k s : Nat} {xs : List TopB} {x : TopB} (h : TopL L bb k xs) (hs : L[k]? = some s) (hn : popN s = x.n) (hk : popN (s &&& bb) = x.k) (ho : x.Ok) : TopL L bb (k + 1) (xs ++ [x]) := by
  have ht : L.take (k + 1) = L.take k ++ [s] := by rw [List.take_add_one, hs]; rfl
  refine ⟨by simp [h.len], by rw [ht]; simp [h.n, hn], by rw [ht]; simp [h.k, hk], fun y hy => ?_⟩
  rcases List.mem_append.1 hy with hy | hy
  · exact h.ok y hy
  · rw [List.mem_singleton.1 hy]; exact ho
noncomputable def tpK (n : Nat) : Code := dropC n (Try.f11.body.getD .skip)
def LawTrueV (w : World) (e : Ending) (w' : World) : Prop := e = .returned (.bool true) ∧ Below w.heap.size w w'
variable {b4 b11 lc n bb BL : Nat} {LA : Option Addr} {L : List Nat} {w0 : World}
set_option maxRecDepth 100000 in
set_option maxHeartbeats 6400000 in
theorem top10 (hT : TopW w K Bq gc gs cn us may ul uc ua U 0 (.slice none 0 0) 0 [] (.slice none 0 0) 0 [] (.slice none 0 0) 0 []) (hL : RdG inF 1 K BL LA (intZ L)) (hBL : BL ≤ gc ∧ BL ≤ gs ∧ BL ≤ cn ∧ BL ≤ Bq) (hn : L.length = n) (hn5 : n ≤ 5) (hLb : ∀ s ∈ L, s < 1024 ∧ 0 < s) (hbb : bb ≤ 65535)
    (END : ∀ (K' : World) (xs : List TopB) (vc vs vw : Value), TopW w K' Bq gc gs cn us may ul uc ua U (2 * n) vc n ((justC may xs).bl.flatMap blF) vs n ((seenC may xs).bl.flatMap blF) vw n ((xs.map (·.k)).flatMap natF) → Below BL K K' → TopL L bb n xs → ∀ (s0 s1 s2 s3 s5 s6 s7 s8 s10 s12 s13 s20 s21 s22 s23 s24 s25 s26 s27 s28 s29 s30 s31 s32 s33 s34 s35 s36 s37 s38 s39 s40 s41 s42 s43 s44 s45 s46 s47 s48 s49 s50 s51 s52 s53 s54 s55 s56 s57 s58 s59 s60 s61 s62 s63 s64 s65 s66 s67 s68 s69 s70 s71 s72 s73 s74 s75 s76 s77 s78 s79 s80 s81 s82 s83 s84 s85 s86 s87 s88 s89 s90 s91 s92 s93 s94 s95 s96 s97 s98 s99 s100 s101 s102 s103 s104 s105 s106 s107 s108 s109 s110 s111 s112 s113 s114 s115 s116 s117 s118 s119 s120 s121 s122 s123 s124 s125 s126 s127 s128 s129 s130 s131 s132 s133 s134 s135 s136 s137 s138 s139 s140 s141 s142 s143 s144 s145 s146 s147 s148 s149 s150 s151 s152 s153 s154 s155 s156 s157 s158 s159 s160 s161 s162 s163 s164 s165 s166 s167 s168 s169 s170 s171 s172 s173 s174 s175 s176 s177 s178 s179 s180 s181 s182 s183 s184 s185 s186 s187 s188 s189 s190 s191 s192 s193 s194 s195 s196 s197 s198 s199 s200 s201 s202 s203 s204 s205 s206 s207 s208 s209 s210 s211 s212 s213 s214 s215 s216 s217 s218 s219 s220 s221 s222 s223 s224 s225 s226 s227 s228 s229 s230 s231 s232 s233 s234 s235 s236 s237 s238 s239 s240 s241 s242 s243 s244 s245 s246 s247 s248 s249 s250 s251 s252 s253 s254 s255 s256 s257 s258 s259 s260 s261 s262 s263 s264 s265 s266 s267 s268 s269 s270 s271 s272 s273 s274 s275 s276 s277 s278 s279 s280 s281 s282 s283 s284 s285 s286 s287 s288 s289 s290 s291 s292 s293 s294 s295 s296 s297 s298 s299 s300 s301 s302 s303 s304 s305 s306 s307 s308 : Value), Code.wp Try.prog (tpK 11) (bodyPost Try.prog Try.f11 (LawTrueV w0)) ⟨(s0::s1::s2::s3::(.pointer (some ⟨b4, 0, none⟩))::s5::s6::s7::s8::(.slice LA n lc)::s10::(.pointer (some ⟨b11, 0, none⟩))::s12::s13::(.pointer (some ⟨gc, 0, none⟩))::(.pointer (some ⟨gs, 0, none⟩))::(.int .i64 ((xs.map (·.n)).sum : Nat))::(.int .i64 ((xs.map (·.k)).sum : Nat))::(.int .i64 (fstI may (xs.map (·.k))))::vw::s20::s21::s22::s23::s24::s25::s26::s27::s28::s29::s30::s31::s32::s33::s34::s35::s36::s37::s38::s39::s40::s41::s42::s43::s44::s45::s46::s47::s48::s49::s50::s51::s52::s53::s54::s55::s56::s57::s58::s59::s60::s61::s62::s63::s64::s65::s66::s67::s68::s69::s70::s71::s72::s73::s74::s75::s76::s77::s78::s79::s80::s81::s82::s83::s84::s85::s86::s87::s88::s89::s90::s91::s92::s93::s94::s95::s96::s97::s98::s99::s100::s101::s102::s103::s104::s105::s106::s107::s108::s109::s110::s111::s112::s113::s114::s115::s116::s117::s118::s119::s120::s121::s122::s123::s124::s125::s126::s127::s128::s129::s130::s131::s132::s133::s134::s135::s136::s137::s138::s139::s140::s141::s142::s143::s144::s145::s146::s147::s148::s149::s150::s151::s152::s153::s154::s155::s156::s157::s158::s159::s160::s161::s162::s163::s164::s165::s166::s167::s168::s169::s170::s171::s172::s173::s174::s175::s176::s177::s178::s179::s180::s181::s182::s183::s184::s185::s186::s187::s188::s189::s190::s191::s192::s193::s194::s195::s196::s197::s198::s199::s200::s201::s202::s203::s204::s205::s206::s207::s208::s209::s210::s211::s212::s213::s214::s215::s216::s217::s218::s219::s220::s221::s222::s223::s224::s225::s226::s227::s228::s229::s230::s231::s232::s233::s234::s235::s236::s237::s238::s239::s240::s241::s242::s243::s244::s245::s246::s247::s248::s249::s250::s251::s252::s253::s254::s255::s256::s257::s258::s259::s260::s261::s262::s263::s264::s265::s266::s267::s268::s269::s270::s271::s272::s273::s274::s275::s276::s277::s278::s279::s280::s281::s282::s283::s284::s285::s286::s287::s288::s289::s290::s291::s292::s293::s294::s295::s296::s297::s298::s299::s300::s301::s302::s303::s304::s305::s306::s307::s308::[]).toArray, []⟩ K')
    {s0 s2 s3 s5 s6 s7 s8 s10 s12 s20 s21 s22 s23 s24 s25 s26 s27 s28 s29 s30 s31 s32 s33 s34 s35 s36 s37 s38 s39 s40 s41 s42 s43 s44 s45 s46 s47 s48 s49 s50 s51 s52 s53 s54 s55 s56 s57 s58 s59 s60 s61 s62 s63 s64 s65 s66 s67 s68 s69 s70 s71 s72 s73 s74 s75 s76 s77 s78 s79 s80 s81 s82 s83 s84 s85 s86 s87 s88 s89 s90 s91 s92 s93 s94 s95 s96 s97 s98 s99 s100 s101 s102 s103 s104 s105 s106 s107 s108 s109 s110 s111 s112 s113 s114 s115 s116 s117 s118 s119 s120 s121 s122 s123 s124 s125 s126 s127 s128 s129 s130 s131 s132 s133 s134 s135 s136 s137 s138 s139 s140 s141 s142 s143 s144 s145 s146 s147 s148 s149 s150 s151 s152 s153 s154 s155 s156 s157 s158 s159 s160 s161 s162 s163 s164 s165 s166 s167 s168 s169 s170 s171 s172 s173 s174 s175 s176 s177 s178 s179 s180 s181 s182 s183 s184 s185 s186 s187 s188 s189 s190 s191 s192 s193 s194 s195 s196 s197 s198 s199 s200 s201 s202 s203 s204 s205 s206 s207 s208 s209 s210 s211 s212 s213 s214 s215 s216 s217 s218 s219 s220 s221 s222 s223 s224 s225 s226 s227 s228 s229 s230 s231 s232 s233 s234 s235 s236 s237 s238 s239 s240 s241 s242 s243 s244 s245 s246 s247 s248 s249 s250 s251 s252 s253 s254 s255 s256 s257 s258 s259 s260 s261 s262 s263 s264 s265 s266 s267 s268 s269 s270 s271 s272 s273 s274 s275 s276 s277 s278 s279 s280 s281 s282 s283 s284 s285 s286 s287 s288 s289 s290 s291 s292 s293 s294 s295 s296 s297 s298 s299 s300 s301 s302 s303 s304 s305 s306 s307 s308 : Value} :
    Code.wp Try.prog (tpK 10) (bodyPost Try.prog Try.f11 (LawTrueV w0)) ⟨(s0::(.int .u16 bb)::s2::s3::(.pointer (some ⟨b4, 0, none⟩))::s5::s6::s7::s8::(.slice LA n lc)::s10::(.pointer (some ⟨b11, 0, none⟩))::s12::(.func (.func 86) #[] #[.pointer (some ⟨cn, 0, none⟩), .pointer (some ⟨us, 0, none⟩)])::(.pointer (some ⟨gc, 0, none⟩))::(.pointer (some ⟨gs, 0, none⟩))::(.int .i64 0)::(.int .i64 0)::(.int .i64 (-1))::(.slice none 0 0)::s20::s21::s22::s23::s24::s25::s26::s27::s28::s29::s30::s31::s32::s33::s34::s35::s36::s37::s38::s39::s40::s41::s42::s43::s44::s45::s46::s47::s48::s49::s50::s51::s52::s53::s54::s55::s56::s57::s58::s59::s60::s61::s62::s63::s64::s65::s66::s67::s68::s69::s70::s71::s72::s73::s74::s75::s76::s77::s78::s79::s80::s81::s82::s83::s84::s85::s86::s87::s88::s89::s90::s91::s92::s93::s94::s95::s96::s97::s98::s99::s100::s101::s102::s103::s104::s105::s106::s107::s108::s109::s110::s111::s112::s113::s114::s115::s116::s117::s118::s119::s120::s121::s122::s123::s124::s125::s126::s127::s128::s129::s130::s131::s132::s133::s134::s135::s136::s137::s138::s139::s140::s141::s142::s143::s144::s145::s146::s147::s148::s149::s150::s151::s152::s153::s154::s155::s156::s157::s158::s159::s160::s161::s162::s163::s164::s165::s166::s167::s168::s169::s170::s171::s172::s173::s174::s175::s176::s177::s178::s179::s180::s181::s182::s183::s184::s185::s186::s187::s188::s189::s190::s191::s192::s193::s194::s195::s196::s197::s198::s199::s200::s201::s202::s203::s204::s205::s206::s207::s208::s209::s210::s211::s212::s213::s214::s215::s216::s217::s218::s219::s220::s221::s222::s223::s224::s225::s226::s227::s228::s229::s230::s231::s232::s233::s234::s235::s236::s237::s238::s239::s240::s241::s242::s243::s244::s245::s246::s247::s248::s249::s250::s251::s252::s253::s254::s255::s256::s257::s258::s259::s260::s261::s262::s263::s264::s265::s266::s267::s268::s269::s270::s271::s272::s273::s274::s275::s276::s277::s278::s279::s280::s281::s282::s283::s284::s285::s286::s287::s288::s289::s290::s291::s292::s293::s294::s295::s296::s297::s298::s299::s300::s301::s302::s303::s304::s305::s306::s307::s308::[]).toArray, []⟩ K := by
  have HT := Lib.hid hT
  have HL := Lib.hid hL
  have HN := Lib.hid hn
  have HLB := Lib.hid hLb
  have HEND := Lib.hid END
  obtain ⟨i3, hi3, hz3, hs3, hy3⟩ := info_parts infoT3
  have HI3 : Hid (Try.prog.info? 3 = some i3 ∧ i3.zero = some (.int .i64 0) ∧ i3.size = 1 ∧ i3.bytes = 8) := ⟨hi3, hz3, hs3, hy3⟩
  obtain ⟨i7, hi7, hz7, hs7, hy7⟩ := info_parts infoT77
  have HI7 : Hid (Try.prog.info? 77 = some i7 ∧ i7.zero = some (.agg #[.int .i64 0, .int .i64 0, .int .i64 0]) ∧ i7.size = 3 ∧ i7.bytes = 24) := ⟨hi7, hz7, hs7, hy7⟩
  have heg : ∀ args w, (callFunc 86 args).run Try.prog w = .ok (.enter 86 args) w := enters_of Try.func86 (by kernel_rfl) rfl
  clear hT hL hn hLb END hi3 hz3 hs3 hy3 hi7 hz7 hs7 hy7
  conv => arg 2; whnf
  conv => arg 2; arg 2; change tpK 11
  go_upto_region 13 with (fail)
  go_loopw [16, 17, 18, 19, 94] (fun p16 p17 p18 p19 i wr => ∃ (k : Nat) (xs : List TopB) (vc vs vw : Value), k ≤ n ∧ i = .int .i64 k ∧ p16 = .int .i64 ((xs.map (·.n)).sum : Nat) ∧ p17 = .int .i64 ((xs.map (·.k)).sum : Nat) ∧ p18 = .int .i64 (fstI may (xs.map (·.k))) ∧ p19 = vw ∧ TopW w wr Bq gc gs cn us may ul uc ua U (2 * k) vc k ((justC may xs).bl.flatMap blF) vs k ((seenC may xs).bl.flatMap blF) vw k ((xs.map (·.k)).flatMap natF) ∧ Below BL K wr ∧ TopL L bb k xs) (fun _ _ _ _ i _ => n - (intOf i).toNat)
  case atStart => exact ⟨0, [], .slice none 0 0, .slice none 0 0, .slice none 0 0, Nat.zero_le _, rfl, rfl, rfl, rfl, rfl, HT.out, Below.refl _ _, ⟨rfl, rfl, rfl, fun x h => by cases h⟩⟩
  case round =>
    obtain ⟨k, xs, vc, vs, vw, hk, rfl, rfl, rfl, rfl, rfl, htw, hbk, htl⟩ := hrel
    have HTW := Lib.hid htw
    have HBK := Lib.hid hbk
    have HTL := Lib.hid htl
    clear htw hbk htl
    by_cases hlt : k < n
    · have hki : (k : Int) < n := by omega
      obtain ⟨s, hs⟩ : ∃ s, L[k]? = some s := ⟨L[k]'(by rw [HN.out]; exact hlt), by simp⟩
      obtain ⟨hs10, hs0⟩ := HLB.out s (List.mem_of_getElem? hs)
      obtain ⟨gb, off, rfl, hgb, H0⟩ := rd_in (HL.out.below HBK.out) k (s : Int) (by rw [intZ, List.getElem?_map, hs]; rfl)
      have hgw : gb < wr.heap.size := by have := HTW.out.hB; omega
      have han : bits BinOp.and IntKind.i64 (s : Int) (bb : Int) = ((s &&& bb : Nat) : Int) := and_i64 s bb (by omega) (by omega)
      have hand10 : s &&& bb < 1024 := Nat.lt_of_le_of_lt Nat.and_le_left hs10
      have HS := Lib.hid hs
      clear hs
      go_wp2_with fail
      refine (size_any s hs10 _).mono ?_
      rintro e w1 ⟨rfl, hw1⟩
      subst w1
      rw [popN_cast]
      go_wp2_with fail
      refine (size_any (s &&& bb) hand10 _).mono ?_
      rintro e w1 ⟨rfl, hw1⟩
      subst w1
      rw [popN_cast]
      obtain ⟨n1, hn1⟩ : ∃ n1, Hid (popN s = n1) := ⟨_, rfl⟩
      obtain ⟨k1, hk1⟩ : ∃ k1, Hid (popN (s &&& bb) = k1) := ⟨_, rfl⟩
      have hn10 : n1 ≤ 10 := by have h := popN_le s; rw [hn1.out] at h; exact h
      have hkn : k1 ≤ n1 := by have h := popN_and s bb; rw [hn1.out, hk1.out] at h; exact h
      have hn0 : 1 ≤ n1 := by have h := popN_pos s hs10 hs0; rw [hn1.out] at h; exact h
      rw [hn1.out, hk1.out]
      have HLT := Lib.hid (⟨HTW.out.low, HTW.out.ne, HTW.out.hB, HTW.out.wB⟩ : ((_ ∧ _) ∧ _ ∧ _ ∧ _))
      have HTA : Hid (TopW w (wr.alloc (.cells #[.int .i64 n1, .int .i64 n1, .int .i64 k1] 77)) Bq gc gs cn us may ul uc ua U (2 * k) vc k ((justC may xs).bl.flatMap blF) vs k ((seenC may xs).bl.flatMap blF) u19 k ((xs.map (·.k)).flatMap natF)) := HTW.out.below ((Below.refl _ _).alloc (Nat.le_refl _) _)
      have HOA := Lib.hid HTA.out.oc
      have hB1 : Bq ≤ (wr.alloc (.cells #[.int .i64 n1, .int .i64 n1, .int .i64 k1] 77)).heap.size := HTA.out.hB
      clear H0 hgw hgb
      have x0 := HTW.out.hc.cell 0
      have xl := HTW.out.hc.lt
      simp at x0
      go_wp2_with (at_builtin; refine wpList_append_sep rfl _ _ 73 rfl Bq 77 i7 _ 3 24 Try.underlying73 HI7.out.1 HI7.out.2.1 HI7.out.2.2.1 HI7.out.2.2.2 rfl (by decide) _ _ _ rfl HOA.out ⟨wr.heap.size, 0, none⟩ 1 [.int .i64 n1, .int .i64 n1, .int .i64 k1] rfl rfl (news_block (Blk.new wr 77 _)) (by simp [Value.oneCell']) (by omega) (by omega) hB1 ?_)
      intro vc' w2 hown2 hgrow2 hnew2
      obtain ⟨va, vk, rfl⟩ := own_slice hown2
      obtain ⟨ht3, htn3⟩ := HTA.out.rowC hown2 hgrow2 (by simpa using hnew2)
      have hb2 : Blk w2 gc 75 #[vc, .int .i64 (may : Nat), .int .i64 30, .int .i64 0] := HTA.out.hc.turn (Turn.of_grown hgrow2 (fun r e _ => e)) (fun e => by have := (HTA.out.oc.lt gc e).1; have := HLT.out.1; omega)
      clear x0 xl
      have x0 := hb2.cell 0
      have xf := hb2.frozen 0
      have xl := hb2.lt
      simp at x0
      obtain ⟨w3, hw3⟩ : ∃ x, x = w2.setCell ⟨gc, 0, none⟩ (.slice va (k + 1 : Nat) vk) := ⟨_, rfl⟩
      rw [← hw3] at ht3 htn3
      have HT3 := Lib.hid ht3
      have HB3 : Hid (Below BL K w3) := by
        refine HBK.out.trans ?_
        have h1 : Below BL wr (wr.alloc (.cells #[.int .i64 n1, .int .i64 n1, .int .i64 k1] 77)) := (Below.refl _ _).alloc (by have := HLT.out.2.2.1; omega) _
        exact h1.trans (htn3.below (by have := hB1; omega) (fun b hb => by rcases hb with hb | hb <;> omega))
      clear hown2 hgrow2 hnew2 ht3 htn3 hb2
      go_upto_region 17 with (fail)
      rw [← hw3]
      clear hw3 x0 xf xl
      go_wp2_with fail
      refine (span46_any 0 n1 w3).mono ?_
      rintro e w4 ⟨rfl, hb4⟩
      have HT4 := Lib.hid (HT3.out.below hb4)
      have HB4 : Hid (Below BL K w4) := HB3.out.trans (hb4.mono (by have := HT3.out.hB; omega))
      clear hb4
      go_wp2_with fail
      refine Calls.mono (draw86_any (lo := 0) (hi := n1) (by omega) (by omega) (by omega) w4 HT4.out.hu HT4.out.cnt HT4.out.bw.size (by have := HLT.out.1; omega) HT4.out.uin) ?_
      rintro e w5 ⟨⟨l1, rfl, hl0, hl1⟩, hcn5, htn5⟩
      have HT5 := Lib.hid (HT4.out.turn htn5 (fun _ e => e) hcn5)
      have HB5 : Hid (Below BL K w5) := HB4.out.trans (htn5.below (by have := HT4.out.hB; omega) (fun b hb => by have hb : b = cn := hb; omega))
      clear hcn5 htn5
      have mw1 : IntKind.i64.wrap ((n1 : Int) - l1) = (n1 : Int) - l1 := IntWalk.i64_in _ (by omega)
      have mw2 : IntKind.i64.wrap ((k1 : Int) - ((n1 : Int) - l1)) = (k1 : Int) - ((n1 : Int) - l1) := IntWalk.i64_in _ (by omega)
      go_upto_region 18 with (fail)
      refine HavG.wp_region_stg (fun wv => Blk wv gs 75 #[vs, .int .i64 (may : Nat), .int .i64 30, .int .i64 0]) [(0,false),(1,false),(2,false),(3,false),(4,false),(5,false),(6,false),(7,false),(8,false),(9,false),(10,false),(11,false),(12,false),(13,false),(14,true),(15,true),(16,false),(17,true),(18,true),(19,false)] [20] (fun _ _ => False) (by kernel_rfl) (by kernel_rfl) (fun _ _ _ _ h => h.elim) (HT5.out.hs.turn (Turn.of_below (S := fun _ => False) (Below.drew (Below.refl _ _))) (fun e => e)) ?_
      (apply HavG.stg_same (by simp only [List.getElem?_toArray, List.getElem?_cons_zero]; rfl) (by kernel_rfl); (focus (intro wv hI; have x0 := hI.cell 0; have xl := hI.lt; (simp at x0); clear hI; (try go_simp); try rfl; done)); simp only [Act.put, List.setIfInBounds_toArray, List.set_cons_succ, List.set_cons_zero])
      (apply HavG.stg_same (by simp only [List.getElem?_toArray, List.getElem?_cons_succ, List.getElem?_cons_zero]; rfl) (by kernel_rfl); (focus (intro wv hI; have x0 := hI.cell 0; have xl := hI.lt; (simp at x0); clear hI; (try go_simp); try rfl; done)); simp only [Act.put, List.setIfInBounds_toArray, List.set_cons_succ, List.set_cons_zero])
      iterate 12 (apply HavG.stg_same (by simp only [List.getElem?_toArray, List.getElem?_cons_succ, List.getElem?_cons_zero]; rfl) (by kernel_rfl); (focus (intro wv hI; clear hI; (try go_simp); try rfl; done)); simp only [Act.put, List.setIfInBounds_toArray, List.set_cons_succ, List.set_cons_zero])
      (apply HavG.stg_call (by simp only [List.getElem?_toArray, List.getElem?_cons_succ, List.getElem?_cons_zero]; rfl) (by kernel_rfl); (focus (go_simp; try exact ⟨rfl, rfl⟩; done)))
      have e1 : (if (n1 : Int) - l1 < k1 then (k1 : Int) - (n1 - l1) else 0) = ((k1 - (n1 - l1) : Nat) : Int) := by split <;> omega
      have e2 : (if k1 < l1 then (k1 : Int) else l1) = ((min l1 k1 : Nat) : Int) := by split <;> omega
      rw [e1, e2]
      obtain ⟨lo, hlo⟩ : ∃ x, k1 - (n1 - l1) = x := ⟨_, rfl⟩
      obtain ⟨hi, hhi⟩ : ∃ x, min l1 k1 = x := ⟨_, rfl⟩
      rw [hlo, hhi]
      clear e1 e2 mw1 mw2
      refine (span46_any _ _ w5.drew).mono ?_
      rintro e w6 ⟨rfl, hb6⟩
      have HT6 := Lib.hid ((HT5.out.below (Below.drew (Below.refl _ _))).below hb6)
      have HB6 : Hid (Below BL K w6) := HB5.out.trans ((Below.drew (Below.refl _ _)).trans (hb6.mono (by have := HT5.out.hB; simp; omega)))
      clear hb6
      refine .inl ⟨_, rfl, HT6.out.hs, ?_⟩
      simp only [Act.put, List.setIfInBounds_toArray, List.set_cons_succ, List.set_cons_zero]
      (apply HavG.stg_call (by simp only [List.getElem?_toArray, List.getElem?_cons_succ, List.getElem?_cons_zero]; rfl) (by kernel_rfl); (focus (go_simp; try exact ⟨rfl, rfl⟩; done)))
      refine Calls.mono (draw86_any (lo := lo) (hi := hi) (by omega) (by omega) (by omega) w6 HT6.out.hu HT6.out.cnt HT6.out.bw.size (by have := HLT.out.1; omega) HT6.out.uin) ?_
      rintro e w7 ⟨⟨d1, rfl, hd0, hd1⟩, hcn7, htn7⟩
      have HT7 := Lib.hid (HT6.out.turn htn7 (fun _ e => e) hcn7)
      have HB7 : Hid (Below BL K w7) := HB6.out.trans (htn7.below (by have := HT6.out.hB; omega) (fun b hb => by have hb : b = cn := hb; omega))
      clear hcn7 htn7
      refine .inl ⟨_, rfl, HT7.out.hs, ?_⟩
      simp only [Act.put, List.setIfInBounds_toArray, List.set_cons_succ, List.set_cons_zero]
      (apply HavG.stg_same (by simp only [List.getElem?_toArray, List.getElem?_cons_succ, List.getElem?_cons_zero]; rfl) (by kernel_rfl); (focus (intro wv hI; clear hI; (try go_simp); try rfl; done)); simp only [Act.put, List.setIfInBounds_toArray, List.set_cons_succ, List.set_cons_zero])
      apply HavG.stg_val (by simp only [List.getElem?_toArray, List.getElem?_cons_succ, List.getElem?_cons_zero]; rfl) (by kernel_rfl) (exec_build77 w7 rfl rfl) (HT7.out.hs.alloc _)
      simp only [Act.put, List.setIfInBounds_toArray, List.set_cons_succ, List.set_cons_zero]
      have HTB : Hid (TopW w (w7.alloc (.cells #[.int .i64 n1, .int .i64 l1, .int .i64 d1] 77)) Bq gc gs cn us may ul uc ua U (2 * k + 1 + 1) (.slice va (k + 1 : Nat) vk) (k + 1) ((justC may xs).bl.flatMap blF ++ [.int .i64 n1, .int .i64 n1, .int .i64 k1]) vs k ((seenC may xs).bl.flatMap blF) u19 k ((xs.map (·.k)).flatMap natF)) := HT7.out.below ((Below.refl _ _).alloc (Nat.le_refl _) _)
      obtain ⟨vs', w8, hr8, hown8, hgrow8, hnew8⟩ := append_sep (P := Try.prog) Bq 73 73 77 i7 _ 3 24 Try.underlying73 HI7.out.1 HI7.out.2.1 HI7.out.2.2.1 HI7.out.2.2.2 rfl (by decide) _ _ _ HTB.out.os ⟨w7.heap.size, 0, none⟩ 1 [.int .i64 n1, .int .i64 l1, .int .i64 d1] rfl (news_block (Blk.new w7 77 _)) (by simp [Value.oneCell']) (by omega) (by omega) HTB.out.hB
      obtain ⟨vb, vbk, rfl⟩ := own_slice hown8
      obtain ⟨ht9, htn9⟩ := HTB.out.rowS hown8 hgrow8 hnew8
      have hb8 : Blk w8 gs 75 #[vs, .int .i64 (may : Nat), .int .i64 30, .int .i64 0] := HTB.out.hs.turn (Turn.of_grown hgrow8 (fun r e _ => e)) (fun e => by have := (HTB.out.os.lt gs e).1; have := HLT.out.1; omega)
      have HB8 := Lib.hid hb8
      obtain ⟨w9, hw9⟩ : ∃ x, x = w8.setCell ⟨gs, 0, none⟩ (.slice vb (k + 1 : Nat) vbk) := ⟨_, rfl⟩
      rw [← hw9] at ht9 htn9
      have HT9 := Lib.hid ht9
      have HB9 : Hid (Below BL K w9) := by
        refine HB7.out.trans ?_
        have h1 : Below BL w7 (w7.alloc (.cells #[.int .i64 n1, .int .i64 l1, .int .i64 d1] 77)) := (Below.refl _ _).alloc (by have := HT7.out.hB; omega) _
        exact h1.trans (htn9.below (by have := HTB.out.hB; omega) (fun b hb => by rcases hb with hb | hb <;> omega))
      clear ht9 htn9 hb8 hgrow8 hnew8 hown8
      apply HavG.stg_val (by simp only [List.getElem?_toArray, List.getElem?_cons_succ, List.getElem?_cons_zero]; rfl) (by kernel_rfl) (exec_append _ _ 73 rfl rfl rfl hr8) HB8.out
      clear hr8
      simp only [Act.put, List.setIfInBounds_toArray, List.set_cons_succ, List.set_cons_zero]
      (apply HavG.stg_same (by simp only [List.getElem?_toArray, List.getElem?_cons_succ, List.getElem?_cons_zero]; rfl) (by kernel_rfl); (focus (intro wv hI; clear hI; (try go_simp); try rfl; done)); simp only [Act.put, List.setIfInBounds_toArray, List.set_cons_succ, List.set_cons_zero])
      simp only [HavG.wpStg, List.filterMap]
      have x0 := HB8.out.cell 0
      have xf := HB8.out.frozen 0
      have xl := HB8.out.lt
      simp at x0
      go_upto_region 19 with (fail)
      rw [← hw9]
      clear hw9 x0 xf xl
      obtain ⟨hS1b, hS2b⟩ := top_sums HTL.out.ok
      rw [HTL.out.len] at hS1b hS2b
      obtain ⟨S1, hS1⟩ : ∃ S, Hid ((xs.map (·.n)).sum = S) := ⟨_, rfl⟩
      obtain ⟨S2, hS2⟩ : ∃ S, Hid ((xs.map (·.k)).sum = S) := ⟨_, rfl⟩
      obtain ⟨F, hF⟩ : ∃ F, Hid (fstI may (xs.map (·.k)) = F) := ⟨_, rfl⟩
      rw [hS1.out] at hS1b
      rw [hS2.out] at hS2b
      rw [hS1.out, hS2.out, hF.out]
      have mw3 : IntKind.i64.wrap ((S1 : Int) + n1) = (S1 : Int) + n1 := IntWalk.i64_in _ (by omega)
      have mw4 : IntKind.i64.wrap ((S2 : Int) + k1) = (S2 : Int) + k1 := IntWalk.i64_in _ (by omega)
      have mw5 : IntKind.i64.wrap ((k : Int) + 1) = (k : Int) + 1 := IntWalk.i64_in _ (by omega)
      have HTC : Hid (TopW w (w9.alloc (.cells #[.int .i64 k1] 3)) Bq gc gs cn us may ul uc ua U (2 * k + 1 + 1) (.slice va (k + 1 : Nat) vk) (k + 1) ((justC may xs).bl.flatMap blF ++ [.int .i64 n1, .int .i64 n1, .int .i64 k1]) (.slice vb (k + 1 : Nat) vbk) (k + 1) ((seenC may xs).bl.flatMap blF ++ [.int .i64 n1, .int .i64 l1, .int .i64 d1]) u19 k ((xs.map (·.k)).flatMap natF)) := HT9.out.below ((Below.refl _ _).alloc (Nat.le_refl _) _)
      have HOC := Lib.hid HTC.out.ow
      have hB9 : Bq ≤ (w9.alloc (.cells #[.int .i64 k1] 3)).heap.size := HTC.out.hB
      go_wp2_with (at_builtin; refine wpList_append_sep rfl _ _ 38 rfl Bq 3 i3 _ 1 8 Try.underlying38 HI3.out.1 HI3.out.2.1 HI3.out.2.2.1 HI3.out.2.2.2 rfl (by decide) _ _ _ rfl HOC.out ⟨w9.heap.size, 0, none⟩ 1 [.int .i64 k1] rfl rfl (news_block (Blk.new w9 3 _)) (by simp [Value.oneCell']) (by omega) (by omega) hB9 ?_)
      intro vw' w10 hown10 hgrow10 hnew10
      obtain ⟨ht10, htn10⟩ := HTC.out.rowW hown10 hgrow10 (by simpa using hnew10)
      have HT10 := Lib.hid ht10
      have HB10 : Hid (Below BL K w10) := by
        refine HB9.out.trans ?_
        have h1 : Below BL w9 (w9.alloc (.cells #[.int .i64 k1] 3)) := (Below.refl _ _).alloc (by have := HT9.out.hB; omega) _
        exact h1.trans (htn10.below (by have := hB9; omega) (fun b hb => by omega))
      have HRD : Hid (∀ F' : Int, F' = fstI may ((xs ++ [(⟨n1, k1, l1, d1⟩ : TopB)]).map (·.k)) → ∃ (k' : Nat) (xs' : List TopB) (vc vs vw : Value), k' ≤ n ∧ Value.int IntKind.i64 ((k : Int) + 1) = .int .i64 k' ∧ Value.int IntKind.i64 ((S1 : Int) + n1) = .int .i64 ((xs'.map (·.n)).sum : Nat) ∧ Value.int IntKind.i64 ((S2 : Int) + k1) = .int .i64 ((xs'.map (·.k)).sum : Nat) ∧ Value.int IntKind.i64 F' = .int .i64 (fstI may (xs'.map (·.k))) ∧ vw' = vw ∧ TopW w w10 Bq gc gs cn us may ul uc ua U (2 * k') vc k' ((justC may xs').bl.flatMap blF) vs k' ((seenC may xs').bl.flatMap blF) vw k' ((xs'.map (·.k)).flatMap natF) ∧ Below BL K w10 ∧ TopL L bb k' xs') := by
        intro F' hF'
        refine ⟨k + 1, xs ++ [⟨n1, k1, l1, d1⟩], .slice va (k + 1 : Nat) vk, .slice vb (k + 1 : Nat) vbk, vw', hlt, by push_cast; rfl, ?_, ?_, by rw [hF'], rfl, ?_, HB10.out, HTL.out.snoc HS.out hn1.out hk1.out (by unfold TopB.Ok; simp only; omega)⟩
        · rw [List.map_append, List.sum_append, hS1.out]; simp
        · rw [List.map_append, List.sum_append, hS2.out]; simp
        · rw [justC_snoc, seenC_snoc, natF_snoc]; exact HT10.out
      have HFS := Lib.hid (fstI_snoc may (xs.map (·.k)) k1)
      clear hown10 hgrow10 hnew10 ht10 htn10
      have x1 := HT10.out.hc.cell 1
      have xl := HT10.out.hc.lt
      simp at x1
      go_upto_region 20 with (fail)
      by_cases hg : may < k1
      · have hd : decide (may < k1) = true := by simp [hg]
        by_cases hF0 : F < 0
        · have hd2 : decide (F < 0) = true := by simp [hF0]
          have HE : Hid ((k : Int) = fstI may ((xs ++ [(⟨n1, k1, l1, d1⟩ : TopB)]).map (·.k))) := by
            show _ = _
            rw [List.map_append]
            show _ = fstI may (xs.map (·.k) ++ [k1])
            rw [HFS.out, if_pos ⟨hg, by rw [hF.out]; exact hF0⟩, List.length_map, HTL.out.len]
          go_wp2
          go_roundw
          case rel => exact HRD.out _ HE.out
          case measure => simp [intOf]; omega
        · have hd2 : decide (F < 0) = false := by simp only [decide_eq_false_iff_not]; exact hF0
          have HE : Hid (F = fstI may ((xs ++ [(⟨n1, k1, l1, d1⟩ : TopB)]).map (·.k))) := by
            show _ = _
            rw [List.map_append]
            show _ = fstI may (xs.map (·.k) ++ [k1])
            rw [HFS.out, if_neg (fun h => by have h2 := h.2; rw [hF.out] at h2; exact hF0 h2), hF.out]
          go_wp2
          go_roundw
          case rel => exact HRD.out _ HE.out
          case measure => simp [intOf]; omega
      · have hd : decide (may < k1) = false := by simp only [decide_eq_false_iff_not]; exact hg
        have HE : Hid (F = fstI may ((xs ++ [(⟨n1, k1, l1, d1⟩ : TopB)]).map (·.k))) := by
          show _ = _
          rw [List.map_append]
          show _ = fstI may (xs.map (·.k) ++ [k1])
          rw [HFS.out, if_neg (fun h => hg h.1), hF.out]
        go_wp2
        go_roundw
        case rel => exact HRD.out _ HE.out
        case measure => simp [intOf]; omega
    · obtain rfl : k = n := by omega
      go_wp2
      exact HEND.out wr xs vc vs u19 HTW.out HBK.out HTL.out _ _ _ _ _ _ _ _ _ _ _ _ _ _ _ _ _ _ _ _ _ _ _ _ _ _ _ _ _ _ _ _ _ _ _ _ _ _ _ _ _ _ _ _ _ _ _ _ _ _ _ _ _ _ _ _ _ _ _ _ _ _ _ _ _ _ _ _ _ _ _ _ _ _ _ _ _ _ _ _ _ _ _ _ _ _ _ _ _ _ _ _ _ _ _ _ _ _ _ _ _ _ _ _ _ _ _ _ _ _ _ _ _ _ _ _ _ _ _ _ _ _ _ _ _ _ _ _ _ _ _ _ _ _ _ _ _ _ _ _ _ _ _ _ _ _ _ _ _ _ _ _ _ _ _ _ _ _ _ _ _ _ _ _ _ _ _ _ _ _ _ _ _ _ _ _ _ _ _ _ _ _ _ _ _ _ _ _ _ _ _ _ _ _ _ _ _ _ _ _ _ _ _ _ _ _ _ _ _ _ _ _ _ _ _ _ _ _ _ _ _ _ _ _ _ _ _ _ _ _ _ _ _ _ _ _ _ _ _ _ _ _ _ _ _ _ _ _ _ _ _ _ _ _ _ _ _ _ _ _ _ _ _ _ _ _ _ _ _ _ _ _ _ _ _ _ _ _ _ _ _ _ _ _ _ _ _ _ _ _ _ _ _ _ _ _ _ _ _ _
end
end Go.Proofs.Ytbfjebglaimcmaa
