/- The law's river with a look more. Conditions: what comes in. -/
import Derived.Test.YtiodmkokpfgkkaaAppB
import Derived.Test.YtiodmkokpfgkkaaHavP
import Derived.Test.YtiodmkokpfgkkaaEndsP
namespace Go.Proofs.Ytiodmkokpfgkkaa
open Go.RowKit Go.Hav Go.Shelf Go.Sq
attribute [local go_sem] Oper.semAt_some
theorem infoW58 : (Try.prog.info? 58).map (fun i => (i.zero, i.size, i.bytes)) = some (some (.agg #[.int .i64 0, .int .i64 0, .int .i64 0]), 3, 24) := by kernel_rfl
def withT (BW b2 : Nat) (fa : Option Addr) (fl fc : Nat) (la : Option Addr) (ll lc : Nat) (r : IRiv) (l : ILk) (i : Nat) (V : Nat → Value) (w : World) : Prop :=
 match i with
 | 0 => ∃ g, V 0 = .slice (some ⟨g, 0, none⟩) 0 0
 | 1 => V 1 = .pointer (some ⟨b2, 6, none⟩)
 | 2 => V 2 = .slice la ll lc
 | 3 => ∃ g c, V 3 = .slice (some ⟨g, 0, none⟩) ll c
 | 4 => V 4 = .agg #[Value.int .i64 l.day, Value.int .i64 l.dep.lo, Value.int .i64 l.dep.hi]
 | 5 => ∃ g, V 5 = .slice (some ⟨g, 0, none⟩) 1 1
 | 6 => ∃ g cp, V 6 = .slice (some ⟨g, 0, none⟩) (ll + 1) cp ∧ w.ownsRow BW 58 3 (.slice (some ⟨g, 0, none⟩) (ll + 1) cp) (ll + 1) (r.lk.flatMap lkI ++ [Value.int .i64 l.day, Value.int .i64 l.dep.lo, Value.int .i64 l.dep.hi])
 | 7 => V 7 = .pointer (some ⟨b2, 6, none⟩)
 | 8 => ∃ g cp, Blk w b2 27 #[.int .i64 r.depth.lo, .int .i64 r.depth.hi, .int .i64 r.fall.lo, .int .i64 r.fall.hi, .int .i64 r.days, .slice fa fl fc, .slice (some ⟨g, 0, none⟩) (ll + 1) cp] ∧ w.ownsRow BW 58 3 (.slice (some ⟨g, 0, none⟩) (ll + 1) cp) (ll + 1) (r.lk.flatMap lkI ++ [Value.int .i64 l.day, Value.int .i64 l.dep.lo, Value.int .i64 l.dep.hi])
 | _ => True
def withS (b2 : Nat) (fa : Option Addr) (fl fc : Nat) (la : Option Addr) (ll lc : Nat) (r : IRiv) (i : Nat) (w : World) : Prop :=
 match i with
 | 2 => Blk w b2 27 #[.int .i64 r.depth.lo, .int .i64 r.depth.hi, .int .i64 r.fall.lo, .int .i64 r.fall.hi, .int .i64 r.days, .slice fa fl fc, .slice la ll lc]
 | 8 => Blk w b2 27 #[.int .i64 r.depth.lo, .int .i64 r.depth.hi, .int .i64 r.fall.lo, .int .i64 r.fall.hi, .int .i64 r.days, .slice fa fl fc, .slice la ll lc]
 | _ => True
/-- What is new, as long as it is not yet lengthened. -/
def jw (BW ll : Nat) (r : IRiv) (l : ILk) (rem : List Nat) (a : Act) (w : World) : Prop :=
 (3 ∈ rem → HavG.slot a 8 = undef ∧ ∀ g, HavG.slot a 5 = .slice (some ⟨g, 0, none⟩) 0 0 → w.ownsRow BW 58 3 (.slice (some ⟨g, 0, none⟩) 0 0) 0 []) ∧
 (6 ∈ rem → ∀ g n c, HavG.slot a 8 = .slice (some ⟨g, 0, none⟩) n c → w.ownsRow BW 58 3 (.slice (some ⟨g, 0, none⟩) n c) ll (r.lk.flatMap lkI)) ∧
 (6 ∈ rem → ∀ g, HavG.slot a 10 = .slice (some ⟨g, 0, none⟩) 1 1 → Blk w g 58 #[Value.int .i64 l.day, Value.int .i64 l.dep.lo, Value.int .i64 l.dep.hi])
section
variable {BW b2 fl fc ll lc i d : Nat} {fa la : Option Addr} {r : IRiv} {l : ILk} {V : Nat → Value} {v : Value} {w w' : World} {S : Nat → Prop} {rem : List Nat} {a : Act}
theorem jw_gen (h : jw BW ll r l rem a w) (k1 : ∀ g cs, Blk w g 58 cs → Blk w' g 58 cs) (k2 : ∀ v n xs, w.ownsRow BW 58 3 v n xs → w'.ownsRow BW 58 3 v n xs) (a' : Act) (h5 : HavG.slot a' 5 = HavG.slot a 5) (h8 : HavG.slot a' 8 = HavG.slot a 8) (h10 : HavG.slot a' 10 = HavG.slot a 10) : jw BW ll r l (rem.erase i) a' w' :=
 ⟨fun hm => ⟨h8.trans (h.1 (List.mem_of_mem_erase hm)).1, fun g e => k2 _ _ _ ((h.1 (List.mem_of_mem_erase hm)).2 g (h5 ▸ e))⟩, fun hm g n c e => k2 _ _ _ (h.2.1 (List.mem_of_mem_erase hm) g n c (h8 ▸ e)), fun hm g e => k1 _ _ (h.2.2 (List.mem_of_mem_erase hm) g (h10 ▸ e))⟩
theorem jw_skip (e5 : d ≠ 5) (e8 : d ≠ 8) (e10 : d ≠ 10) (h : jw BW ll r l rem a w) (k1 : ∀ g cs, Blk w g 58 cs → Blk w' g 58 cs) (k2 : ∀ v n xs, w.ownsRow BW 58 3 v n xs → w'.ownsRow BW 58 3 v n xs) : jw BW ll r l (rem.erase i) (a.put (some d) v) w' :=
 jw_gen h k1 k2 _ (HavG.slot_put _ (by simpa using e5)) (HavG.slot_put _ (by simpa using e8)) (HavG.slot_put _ (by simpa using e10))
theorem jw_store (h : jw BW ll r l rem a w) (k1 : ∀ g cs, Blk w g 58 cs → Blk w' g 58 cs) (k2 : ∀ v n xs, w.ownsRow BW 58 3 v n xs → w'.ownsRow BW 58 3 v n xs) : jw BW ll r l (rem.erase i) (a.put none v) w' := jw_gen h k1 k2 _ rfl rfl rfl
theorem jw_nil {g : Nat} (h : jw BW ll r l rem a w) (k1 : ∀ g cs, Blk w g 58 cs → Blk w' g 58 cs) (k2 : ∀ v n xs, w.ownsRow BW 58 3 v n xs → w'.ownsRow BW 58 3 v n xs) (hn : w'.ownsRow BW 58 3 (.slice (some ⟨g, 0, none⟩) 0 0) 0 []) (hs : 5 < a.tmps.size) : jw BW ll r l (rem.erase i) (a.put (some 5) (.slice (some ⟨g, 0, none⟩) 0 0)) w' :=
 ⟨fun hm => ⟨by rw [HavG.slot_put _ (by simp)]; exact (h.1 (List.mem_of_mem_erase hm)).1, fun g' e => by rw [HavG.slot_self _ hs] at e; cases e; exact hn⟩, fun hm g' n c e => by rw [HavG.slot_put _ (by simp)] at e; exact k2 _ _ _ (h.2.1 (List.mem_of_mem_erase hm) g' n c e), fun hm g' e => by rw [HavG.slot_put _ (by simp)] at e; exact k1 _ _ (h.2.2 (List.mem_of_mem_erase hm) g' e)⟩
theorem jw_row {g c : Nat} (h : jw BW ll r l rem a w) (hnd : rem.Nodup) (k1 : ∀ g cs, Blk w g 58 cs → Blk w' g 58 cs) (_k2 : ∀ v n xs, w.ownsRow BW 58 3 v n xs → w'.ownsRow BW 58 3 v n xs) (hn : w'.ownsRow BW 58 3 (.slice (some ⟨g, 0, none⟩) ll c) ll (r.lk.flatMap lkI)) (hs : 8 < a.tmps.size) : jw BW ll r l (rem.erase 3) (a.put (some 8) (.slice (some ⟨g, 0, none⟩) ll c)) w' :=
 ⟨fun hm => absurd rfl (hnd.mem_erase_iff.1 hm).1, fun _ g' n c' e => by rw [HavG.slot_self _ hs] at e; cases e; exact hn, fun hm g' e => by rw [HavG.slot_put _ (by simp)] at e; exact k1 _ _ (h.2.2 (List.mem_of_mem_erase hm) g' e)⟩
theorem jw_one {g : Nat} (h : jw BW ll r l rem a w) (_k1 : ∀ g cs, Blk w g 58 cs → Blk w' g 58 cs) (k2 : ∀ v n xs, w.ownsRow BW 58 3 v n xs → w'.ownsRow BW 58 3 v n xs) (hn : Blk w' g 58 #[Value.int .i64 l.day, Value.int .i64 l.dep.lo, Value.int .i64 l.dep.hi]) (hs : 10 < a.tmps.size) : jw BW ll r l (rem.erase i) (a.put (some 10) (.slice (some ⟨g, 0, none⟩) 1 1)) w' :=
 ⟨fun hm => ⟨by rw [HavG.slot_put _ (by simp)]; exact (h.1 (List.mem_of_mem_erase hm)).1, fun g' e => by rw [HavG.slot_put _ (by simp)] at e; exact k2 _ _ _ ((h.1 (List.mem_of_mem_erase hm)).2 g' e)⟩, fun hm g' n c e => by rw [HavG.slot_put _ (by simp)] at e; exact k2 _ _ _ (h.2.1 (List.mem_of_mem_erase hm) g' n c e), fun _ g' e => by rw [HavG.slot_self _ hs] at e; cases e; exact hn⟩
theorem with_grow (h : withT BW b2 fa fl fc la ll lc r l i V w) (hb : Below w.heap.size w w') : withT BW b2 fa fl fc la ll lc r l i V w' := by
 unfold withT at h ⊢
 split at h
 case h_7 => obtain ⟨g, c, e, h⟩ := h; exact ⟨g, c, e, own_below h hb⟩
 case h_9 => obtain ⟨g, c, h1, h⟩ := h; exact ⟨g, c, h1.below hb h1.lt, own_below h hb⟩
 all_goals exact h
theorem with_val (h : withT BW b2 fa fl fc la ll lc r l i V w) (h6 : i ≠ 6) (h8 : i ≠ 8) : withT BW b2 fa fl fc la ll lc r l i V w' := by
 unfold withT at h ⊢
 split at h
 case h_7 => exact absurd rfl h6
 case h_9 => exact absurd rfl h8
 all_goals exact h
theorem with_set (h : withT BW b2 fa fl fc la ll lc r l i V w) (k : ∀ v n xs, w.ownsRow BW 58 3 v n xs → w'.ownsRow BW 58 3 v n xs) (h8 : i ≠ 8) : withT BW b2 fa fl fc la ll lc r l i V w' := by
 unfold withT at h ⊢
 split at h
 case h_7 => obtain ⟨g, c, e, h⟩ := h; exact ⟨g, c, e, k _ _ _ h⟩
 case h_9 => exact absurd rfl h8
 all_goals exact h
theorem withS_zero (h : Blk w b2 27 #[.int .i64 r.depth.lo, .int .i64 r.depth.hi, .int .i64 r.fall.lo, .int .i64 r.fall.hi, .int .i64 r.days, .slice fa fl fc, .slice la ll lc]) (i : Nat) : withS b2 fa fl fc la ll lc r i w := by
 unfold withS
 split
 ·exact h
 ·exact h
 ·trivial
theorem withS_turn (h : withS b2 fa fl fc la ll lc r i w) (t : Turn S w w') (hs : ¬ S b2) : withS b2 fa fl fc la ll lc r i w' := by
 unfold withS at h ⊢
 split at h
 ·exact h.turn t hs
 ·exact h.turn t hs
 ·trivial
theorem withS_grow (h : withS b2 fa fl fc la ll lc r i w) (hb : Below w.heap.size w w') : withS b2 fa fl fc la ll lc r i w' := withS_turn (S := fun _ => False) h (Turn.of_below hb) id
theorem withS_last (_h : withS b2 fa fl fc la ll lc r i w) (h8 : i ≠ 8) (h2 : i ≠ 2) : withS b2 fa fl fc la ll lc r i w' := by
 unfold withS
 split
 ·exact absurd rfl h2
 ·exact absurd rfl h8
 ·trivial
theorem jw_last {A : Option Addr} {n c : Nat} (h : jw BW ll r l rem a w) (hnd : rem.Nodup) (h3 : HavG.slot a 8 = .slice A n c) : jw BW ll r l (rem.erase 6) (a.put (some 11) v) w' :=
 ⟨fun hm => by { have e := (h.1 (List.mem_of_mem_erase hm)).1; rw [h3] at e; exact absurd e (by intro h; cases h) }, fun hm => absurd rfl (hnd.mem_erase_iff.1 hm).1, fun hm => absurd rfl (hnd.mem_erase_iff.1 hm).1⟩
/-- What it leaves. -/
def WithPost (fa : Option Addr) (fl fc ll : Nat) (r : IRiv) (l : ILk) (w : World) (e : Ending) (w' : World) : Prop :=
 (∃ g cp, e = .returned (.agg #[.int .i64 r.depth.lo, .int .i64 r.depth.hi, .int .i64 r.fall.lo, .int .i64 r.fall.hi, .int .i64 r.days, .slice fa fl fc, .slice (some ⟨g, 0, none⟩) (ll + 1) cp]) ∧ w'.ownsRow w.heap.size 58 3 (.slice (some ⟨g, 0, none⟩) (ll + 1) cp) (ll + 1) ((withR r l).lk.flatMap lkI)) ∧ Below w.heap.size w w'
theorem rv_with {g cp BW : Nat} (hP : RvIn w w.heap.size fa fl la ll r) (ho : w.ownsRow BW 58 3 (.slice (some ⟨g, 0, none⟩) (ll + 1) cp) (ll + 1) ((withR r l).lk.flatMap lkI)) (hll : ll ≤ 1000) : RvIn w w.heap.size fa fl (some ⟨g, 0, none⟩) (ll + 1) (withR r l) := by
 have hlen : (withR r l).lk.length = ll + 1 := by show (r.lk ++ [l]).length = _; rw [List.length_append, hP.ell]; rfl
 rw [← hlen] at ho
 obtain ⟨A, cq, he, hrd, -⟩ := own_rd lkI_len (by decide) ho
 rw [hlen] at he
 have hA : A = some ⟨g, 0, none⟩ := by injection he with e1 e2 e3; exact e1.symm
 subst hA
 exact ⟨hP.efl, hlen, hP.hfr, hrd, hP.mfl, by omega⟩
set_option maxRecDepth 100000 in
set_option maxHeartbeats 6400000 in
theorem with_any (hok : okR r = true) (w : World) (hP : RvIn w w.heap.size fa fl la ll r) : Calls Try.prog 39 #[(.agg #[.int .i64 r.depth.lo, .int .i64 r.depth.hi, .int .i64 r.fall.lo, .int .i64 r.fall.hi, .int .i64 r.days, .slice fa fl fc, .slice la ll lc]), .agg #[Value.int .i64 l.day, Value.int .i64 l.dep.lo, Value.int .i64 l.dep.hi]] w (WithPost fa fl fc ll r l w) := by
 have hll5 : ll ≤ 5 := by rw [← hP.ell]; exact (okR_pts hok).1.2.2.2.2
 have HEL := Lib.hid hP.ell
 have HP := Lib.hid hP
 obtain ⟨i0, hi, hz0, hz1, hz2⟩ := info_parts infoW58
 have HI := Lib.hid hi
 have HI0 := Lib.hid hz0
 have HI1 := Lib.hid hz1
 have HI2 := Lib.hid hz2
 obtain ⟨K, hK⟩ : ∃ K, K = ((w.alloc (.cells #[.int .i64 r.depth.lo, .int .i64 r.depth.hi, .int .i64 r.fall.lo, .int .i64 r.fall.hi, .int .i64 r.days, .slice fa fl fc, .slice la ll lc] 27)).alloc (.cells #[Value.int .i64 l.day, Value.int .i64 l.dep.lo, Value.int .i64 l.dep.hi] 58)).alloc (.cells #[.int .i64 0, .int .i64 0, .int .i64 0, .int .i64 0, .int .i64 0, .slice none 0 0, .slice none 0 0] 27) := ⟨_, rfl⟩
 obtain ⟨b2, hb2⟩ : ∃ b, b = w.heap.size := ⟨_, rfl⟩
 obtain ⟨b3, hb3⟩ : ∃ b, b = w.heap.size + 1 := ⟨_, rfl⟩
 obtain ⟨b4, hb4⟩ : ∃ b, b = w.heap.size + 1 + 1 := ⟨_, rfl⟩
 have HB : Hid (Below w.heap.size w K) := by rw [hK]; exact (((Below.refl _ _).alloc (Nat.le_refl _) _).alloc (by simp) _).alloc (by simp; omega) _
 have HX : Hid (Blk K b2 27 #[.int .i64 r.depth.lo, .int .i64 r.depth.hi, .int .i64 r.fall.lo, .int .i64 r.fall.hi, .int .i64 r.days, .slice fa fl fc, .slice la ll lc]) := by rw [hK, hb2]; exact ((Blk.new w 27 _).alloc _).alloc _
 have HL : Hid (Blk K b3 58 #[Value.int .i64 l.day, Value.int .i64 l.dep.lo, Value.int .i64 l.dep.hi]) := by rw [hK, hb3]; exact (Blk.new_ (by simp) 58 _).alloc _
 have HZ : Hid (Blk K b4 27 #[.int .i64 0, .int .i64 0, .int .i64 0, .int .i64 0, .int .i64 0, .slice none 0 0, .slice none 0 0]) := by rw [hK, hb4]; exact Blk.new_ (by simp) 27 _
 have HWB : Hid (w.heap.size ≤ b2 ∧ w.heap.size ≤ b3 ∧ w.heap.size ≤ b4 ∧ b2 ≠ b4) := by
  subst hb2 hb3 hb4
  exact ⟨Nat.le_refl _, by omega, by omega, by omega⟩
 have HB2 : Hid (b2 < K.heap.size) := HX.out.lt
 have HLS : Hid (¬ (b3 = b2 ∨ K.heap.size ≤ b3)) := by
  have := HL.out.lt
  have h3 : b3 ≠ b2 := blk_ne HL.out HX.out (by decide)
  show ¬ _
  omega
 have HRD : Hid (∀ w', Turn (fun b => b = b2 ∨ K.heap.size ≤ b) K w' → RdG lkI 3 w' w.heap.size la r.lk) := fun w' t => (HP.out.hlk.below HB.out).keep fun b hb _ => t.block b (Nat.lt_of_lt_of_le hb HB.out.size) (fun e => by have := HWB.out; have := HB.out.size; omega)
 clear hi hz0 hz1 hz2 hP hok
 go_enter Try.func39, Try.ntmps39
 go_upto_region 1 with (fail)
 rw [← hb4, ← hb3, ← hb2, ← hK]
 clear hK hb2 hb3 hb4
 refine HavG.wp_region_tabY (R := (TP (ι := Empty) (fun b => b = b2 ∨ K.heap.size ≤ b) (fun i _ => i.elim) (fun i => i.elim))) (fun i V wx => withT K.heap.size b2 fa fl fc la ll lc r l i V wx) (fun i wx => withS b2 fa fl fc la ll lc r i wx) (jw K.heap.size ll r l) (fun _ _ => False) [] [some 5, some 6, some 7, some 8, some 9, some 10, some 11, some 12, none] (by kernel_rfl) (by kernel_rfl) (by rfl) (fun i _ => withS_grow (withS_zero HX.out i) (Below.drew (Below.refl _ _))) ⟨fun _ => ⟨rfl, fun g e => (by cases e)⟩, fun _ g n c e => (by cases e), fun _ g e => (by cases e)⟩ (fun _ _ h => h.elim) (fun _ _ _ _ h => h.elim) (fun h => h.1.size) ?_ (fun i hi => by cases hi) ?_ ?_
 ·intro i hi V V' w h hV
  match i, hi, h, hV with
  | 0, _, h, hV => (obtain ⟨g, e⟩ := h; exact ⟨g, (hV 0 (.inl rfl)).symm.trans e⟩)
  | 1, _, h, hV => exact (hV _ (.inl rfl)).symm.trans h
  | 2, _, h, hV => exact (hV _ (.inl rfl)).symm.trans h
  | 3, _, h, hV => (obtain ⟨g, c, e⟩ := h; exact ⟨g, c, (hV 3 (.inl rfl)).symm.trans e⟩)
  | 4, _, h, hV => exact (hV _ (.inl rfl)).symm.trans h
  | 5, _, h, hV => (obtain ⟨g, e⟩ := h; exact ⟨g, (hV 5 (.inl rfl)).symm.trans e⟩)
  | 6, _, h, hV => (obtain ⟨g, c, e, h⟩ := h; exact ⟨g, c, (hV 6 (.inl rfl)).symm.trans e, h⟩)
  | 7, _, h, hV => exact (hV _ (.inl rfl)).symm.trans h
  | 8, _, h, hV => exact h
  | j + 9, hj, _, _ => exact absurd hj (by simp)
 ·intro i hi oo a' w' ho hag hg hd hps hsl rem him hnd hj
  match i, hi, ho, hd, hps, hsl, him with
  | 0, _, ho, hd, hps, hsl, him =>
   (simp only [List.getElem?_toArray, List.getElem?_cons_zero, Option.some.injEq] at ho; subst ho)
   have HB : Below w'.heap.size w' (w'.alloc (.cells #[] 58)) := (Below.refl _ _).alloc (Nat.le_refl _) _
   refine HavG.tabY_val rfl (by simp) ⟨.slice (some ⟨w'.heap.size, 0, none⟩) 0 0, w'.alloc (.cells #[] 58), ?_, ⟨⟨Turn.of_below HB, fun i => i.elim⟩, jw_nil hj (fun _ _ h => h.below HB h.lt) (fun _ _ _ h => own_below h HB) (own_base (ownsRow_empty rfl 58 3) hg.1.size) (by have := hag.2.1; rw [this]; simp)⟩, fun j V _ _ _ h => with_grow h HB, fun j _ _ _ h => withS_grow h HB, fun V _ hv => ⟨w'.heap.size, hv⟩, fun h => by simp at h⟩
   go_simp
  | 1, _, ho, hd, hps, hsl, him =>
   (simp only [List.getElem?_toArray, List.getElem?_cons_succ, List.getElem?_cons_zero, Option.some.injEq] at ho; subst ho)
   have s2 : a'.tmps[2]?.getD undef = (.pointer (some ⟨b2, 0, none⟩)) := by rw [← Array.getD_eq_getD_getElem?]; exact hag.slot 2 (by kernel_rfl)
   have r2 : a'.tmps.getD 2 undef = (.pointer (some ⟨b2, 0, none⟩)) := hag.slot 2 (by kernel_rfl)
   refine HavG.tabY_val rfl (by simp) ⟨.pointer (some ⟨b2, 6, none⟩), w', ?_, ⟨HavG.Rel.refl _ _, jw_skip (by decide) (by decide) (by decide) hj (fun _ _ h => h) (fun _ _ _ h => h)⟩, fun _ _ _ _ _ h => h, fun _ _ _ _ h => h, fun V _ hv => hv, fun h => by simp at h⟩
   go_simp
   try rfl
  | 2, _, ho, hd, hps, hsl, him =>
   (simp only [List.getElem?_toArray, List.getElem?_cons_succ, List.getElem?_cons_zero, Option.some.injEq] at ho; subst ho)
   have d6 : a'.tmps.getD 6 undef = (.pointer (some ⟨b2, 6, none⟩)) := hd 1 (by kernel_rfl) (by decide)
   have c6 : a'.tmps[6]?.getD undef = (.pointer (some ⟨b2, 6, none⟩)) := by rw [← Array.getD_eq_getD_getElem?]; exact d6
   have hps' : Blk w' b2 27 #[.int .i64 r.depth.lo, .int .i64 r.depth.hi, .int .i64 r.fall.lo, .int .i64 r.fall.hi, .int .i64 r.days, .slice fa fl fc, .slice la ll lc] := hps
   have z5 := hps'.cell 6
   have zl := hps'.lt
   simp at z5
   clear hps hps'
   refine HavG.tabY_val rfl (by simp) ⟨.slice la ll lc, w', ?_, ⟨HavG.Rel.refl _ _, jw_skip (by decide) (by decide) (by decide) hj (fun _ _ h => h) (fun _ _ _ h => h)⟩, fun _ _ _ _ _ h => h, fun _ _ _ _ h => h, fun V _ hv => hv, fun h => by simp at h⟩
   go_simp
   try rfl
  | 3, _, ho, hd, hps, hsl, him =>
   (simp only [List.getElem?_toArray, List.getElem?_cons_succ, List.getElem?_cons_zero, Option.some.injEq] at ho; subst ho)
   obtain ⟨g, e3⟩ : ∃ g, HavG.slot a' 5 = .slice (some ⟨g, 0, none⟩) 0 0 := hd 0 (by kernel_rfl) (by decide)
   have h3 := (hj.1 him).2 g e3
   have e4 : HavG.slot a' 7 = .slice la ll lc := hd 2 (by kernel_rfl) (by decide)
   obtain ⟨v', w2, hrun, ⟨g', c', rfl, -⟩, hown, HB⟩ := append_copy (P := Try.prog) (α := ILk) (f := lkI) (n := ll) (c := lc) (A := la) (l := r.lk) 25 25 58 i0 _ 3 24 Try.underlying25 HI.out HI0.out HI1.out HI2.out rfl (by decide) lkI_len HEL.out (HRD.out w' hg.1) (by omega) (by omega) hg.1.size h3
   exact HavG.tabY_val rfl (by simp) ⟨_, w2, append_oper rfl e3 e4 hrun, ⟨⟨Turn.of_below HB, fun i => i.elim⟩, jw_row hj hnd (fun _ _ h => h.below HB h.lt) (fun _ _ _ h => own_below h HB) hown (by have := hag.2.1; rw [this]; simp)⟩, fun j V _ _ _ h => with_grow h HB, fun j _ _ _ h => withS_grow h HB, fun V _ hv => ⟨_, _, hv⟩, fun h => by simp at h⟩
  | 4, _, ho, hd, hps, hsl, him =>
   (simp only [List.getElem?_toArray, List.getElem?_cons_succ, List.getElem?_cons_zero, Option.some.injEq] at ho; subst ho)
   have s3 : a'.tmps[3]?.getD undef = (.pointer (some ⟨b3, 0, none⟩)) := by rw [← Array.getD_eq_getD_getElem?]; exact hag.slot 3 (by kernel_rfl)
   have r3 : a'.tmps.getD 3 undef = (.pointer (some ⟨b3, 0, none⟩)) := hag.slot 3 (by kernel_rfl)
   have hx := HL.out.turn hg.1 HLS.out
   have z0 := hx.cell 0
   have z1 := hx.cell 1
   have z2 := hx.cell 2
   have zl := hx.lt
   simp at z0 z1 z2
   clear hx
   refine HavG.tabY_val rfl (by simp) ⟨.agg #[Value.int .i64 l.day, Value.int .i64 l.dep.lo, Value.int .i64 l.dep.hi], w', ?_, ⟨HavG.Rel.refl _ _, jw_skip (by decide) (by decide) (by decide) hj (fun _ _ h => h) (fun _ _ _ h => h)⟩, fun _ _ _ _ _ h => h, fun _ _ _ _ h => h, fun V _ hv => hv, fun h => by simp at h⟩
   go_simp
   try rfl
  | 5, _, ho, hd, hps, hsl, him =>
   (simp only [List.getElem?_toArray, List.getElem?_cons_succ, List.getElem?_cons_zero, Option.some.injEq] at ho; subst ho)
   have d9 : a'.tmps.getD 9 undef = .agg #[Value.int .i64 l.day, Value.int .i64 l.dep.lo, Value.int .i64 l.dep.hi] := hd 4 (by kernel_rfl) (by decide)
   have c9 : a'.tmps[9]?.getD undef = .agg #[Value.int .i64 l.day, Value.int .i64 l.dep.lo, Value.int .i64 l.dep.hi] := by rw [← Array.getD_eq_getD_getElem?]; exact d9
   have HB : Below w'.heap.size w' (w'.alloc (.cells #[Value.int .i64 l.day, Value.int .i64 l.dep.lo, Value.int .i64 l.dep.hi] 58)) := (Below.refl _ _).alloc (Nat.le_refl _) _
   refine HavG.tabY_val rfl (by simp) ⟨.slice (some ⟨w'.heap.size, 0, none⟩) 1 1, w'.alloc (.cells #[Value.int .i64 l.day, Value.int .i64 l.dep.lo, Value.int .i64 l.dep.hi] 58), ?_, ⟨⟨Turn.of_below HB, fun i => i.elim⟩, jw_one hj (fun _ _ h => h.below HB h.lt) (fun _ _ _ h => own_below h HB) (Blk.new w' 58 _) (by have := hag.2.1; rw [this]; simp)⟩, fun j V _ _ _ h => with_grow h HB, fun j _ _ _ h => withS_grow h HB, fun V _ hv => ⟨w'.heap.size, hv⟩, fun h => by simp at h⟩
   go_simp
   try rfl
  | 6, _, ho, hd, hps, hsl, him =>
   (simp only [List.getElem?_toArray, List.getElem?_cons_succ, List.getElem?_cons_zero, Option.some.injEq] at ho; subst ho)
   obtain ⟨g, c, e3⟩ : ∃ g c, HavG.slot a' 8 = .slice (some ⟨g, 0, none⟩) ll c := hd 3 (by kernel_rfl) (by decide)
   obtain ⟨h, e5⟩ : ∃ g, HavG.slot a' 10 = .slice (some ⟨g, 0, none⟩) 1 1 := hd 5 (by kernel_rfl) (by decide)
   have h3 := hj.2.1 him g ll c e3
   have hk5 := hj.2.2 him h e5
   obtain ⟨g2, cp, w2, hrun, hown, ht, -⟩ := append_at (P := Try.prog) K.heap.size 25 25 58 i0 _ 3 24 Try.underlying25 HI.out HI0.out HI1.out HI2.out rfl (by decide) _ ll _ h3 ⟨h, 0, none⟩ 1 [Value.int .i64 l.day, Value.int .i64 l.dep.lo, Value.int .i64 l.dep.hi] rfl (news_block hk5) (by simp [Value.oneCell']) (by omega) (by omega) hg.1.size
   have hgK := (own_blk h3).choose_spec.2.1
   exact HavG.tabY_val rfl (by simp) ⟨_, w2, append_oper rfl e3 e5 hrun, ⟨⟨ht.mono (fun b e => by cases e; exact .inr hgK), fun i => i.elim⟩, jw_last hj hnd e3⟩, fun j V _ hji hbf h => with_val h hji (fun e => by subst e; exact Bool.false_ne_true (hbf.symm.trans (by kernel_rfl))), fun j _ _ _ h => withS_turn h ht (fun e => by cases e; have h2 : g < K.heap.size := HB2.out; omega), fun V hV hv => ⟨_, _, hv, hown⟩, fun h => by simp at h⟩
  | 7, _, ho, hd, hps, hsl, him =>
   (simp only [List.getElem?_toArray, List.getElem?_cons_succ, List.getElem?_cons_zero, Option.some.injEq] at ho; subst ho)
   have s2 : a'.tmps[2]?.getD undef = (.pointer (some ⟨b2, 0, none⟩)) := by rw [← Array.getD_eq_getD_getElem?]; exact hag.slot 2 (by kernel_rfl)
   have r2 : a'.tmps.getD 2 undef = (.pointer (some ⟨b2, 0, none⟩)) := hag.slot 2 (by kernel_rfl)
   refine HavG.tabY_val rfl (by simp) ⟨.pointer (some ⟨b2, 6, none⟩), w', ?_, ⟨HavG.Rel.refl _ _, jw_skip (by decide) (by decide) (by decide) hj (fun _ _ h => h) (fun _ _ _ h => h)⟩, fun _ _ _ _ _ h => h, fun _ _ _ _ h => h, fun V _ hv => hv, fun h => by simp at h⟩
   go_simp
   try rfl
  | 8, _, ho, hd, hps, hsl, him =>
   (simp only [List.getElem?_toArray, List.getElem?_cons_succ, List.getElem?_cons_zero, Option.some.injEq] at ho; subst ho)
   have d12 : a'.tmps.getD 12 undef = (.pointer (some ⟨b2, 6, none⟩)) := hd 7 (by kernel_rfl) (by decide)
   have c12 : a'.tmps[12]?.getD undef = (.pointer (some ⟨b2, 6, none⟩)) := by rw [← Array.getD_eq_getD_getElem?]; exact d12
   obtain ⟨g, cp, e6, ho⟩ : ∃ g cp, HavG.slot a' 11 = .slice (some ⟨g, 0, none⟩) (ll + 1) cp ∧ w'.ownsRow K.heap.size 58 3 (.slice (some ⟨g, 0, none⟩) (ll + 1) cp) (ll + 1) (r.lk.flatMap lkI ++ [Value.int .i64 l.day, Value.int .i64 l.dep.lo, Value.int .i64 l.dep.hi]) := hd 6 (by kernel_rfl) (by decide)
   have d11 : a'.tmps.getD 11 undef = .slice (some ⟨g, 0, none⟩) (ll + 1) cp := e6
   have c11 : a'.tmps[11]?.getD undef = .slice (some ⟨g, 0, none⟩) (ll + 1) cp := by rw [← Array.getD_eq_getD_getElem?]; exact d11
   have hps' : Blk w' b2 27 #[.int .i64 r.depth.lo, .int .i64 r.depth.hi, .int .i64 r.fall.lo, .int .i64 r.fall.hi, .int .i64 r.days, .slice fa fl fc, .slice la ll lc] := hps
   have z5 := hps'.cell 6
   have z6 := hps'.frozen 6
   have zl := hps'.lt
   simp at z5
   have hset : Turn (fun b => b = b2) w' (w'.setCell ⟨b2, 6, none⟩ (.slice (some ⟨g, 0, none⟩) (ll + 1) cp)) := Turn.set _ _ (fun _ => rfl)
   have hnew : Blk (w'.setCell ⟨b2, 6, none⟩ (.slice (some ⟨g, 0, none⟩) (ll + 1) cp)) b2 27 #[.int .i64 r.depth.lo, .int .i64 r.depth.hi, .int .i64 r.fall.lo, .int .i64 r.fall.hi, .int .i64 r.days, .slice fa fl fc, .slice (some ⟨g, 0, none⟩) (ll + 1) cp] := by have h := hps'.set_ 6 (.slice (some ⟨g, 0, none⟩) (ll + 1) cp); simpa using h
   have hb2 : b2 < K.heap.size := HB2.out
   have far : ∀ {v : Value} {n : Nat} {xs : List Value}, w'.ownsRow K.heap.size 58 3 v n xs → (w'.setCell ⟨b2, 6, none⟩ (.slice (some ⟨g, 0, none⟩) (ll + 1) cp)).ownsRow K.heap.size 58 3 v n xs := fun h => own_turn h hset (fun q hq e => by have := (own_block h hq).1; have e' : q = b2 := e; omega)
   have far2 : ∀ g' cs, Blk w' g' 58 cs → Blk (w'.setCell ⟨b2, 6, none⟩ (.slice (some ⟨g, 0, none⟩) (ll + 1) cp)) g' 58 cs := fun g' cs h => h.turn hset (blk_ne h hps' (by decide))
   refine HavG.tabY_store rfl rfl (by simp) ⟨w'.setCell ⟨b2, 6, none⟩ (.slice (some ⟨g, 0, none⟩) (ll + 1) cp), ?_, ⟨⟨hset.mono (fun b e => .inl e), fun i => i.elim⟩, jw_store hj far2 (fun _ _ _ h => far h)⟩, fun j V _ hji _ h => with_set h (fun _ _ _ h => far h) hji, fun j _ hji hbf h => withS_last h hji (fun e => by subst e; exact Bool.false_ne_true (hbf.symm.trans (by kernel_rfl))), fun V _ => ⟨g, cp, hnew, far ho⟩⟩
   clear hnew hset hps hps' e6 far far2
   go_simp
   try rfl
  | j + 9, hj, _, _, _, _, _ => exact absurd hj (by simp)
 intro f w2 hg hjj hf hap
 obtain ⟨g5, q5⟩ : ∃ g, f 5 = .slice (some ⟨g, 0, none⟩) 0 0 := hf 0 (by decide)
 have q6 : f 6 = .pointer (some ⟨b2, 6, none⟩) := hf 1 (by decide)
 have q7 : f 7 = .slice la ll lc := hf 2 (by decide)
 obtain ⟨g8, c8, q8⟩ : ∃ g c, f 8 = .slice (some ⟨g, 0, none⟩) ll c := hf 3 (by decide)
 have q9 : f 9 = .agg #[Value.int .i64 l.day, Value.int .i64 l.dep.lo, Value.int .i64 l.dep.hi] := hf 4 (by decide)
 obtain ⟨g10, q10⟩ : ∃ g, f 10 = .slice (some ⟨g, 0, none⟩) 1 1 := hf 5 (by decide)
 obtain ⟨g11, c11, q11, -⟩ : ∃ g cp, f 11 = .slice (some ⟨g, 0, none⟩) (ll + 1) cp ∧ w2.ownsRow K.heap.size 58 3 (.slice (some ⟨g, 0, none⟩) (ll + 1) cp) (ll + 1) (r.lk.flatMap lkI ++ [Value.int .i64 l.day, Value.int .i64 l.dep.lo, Value.int .i64 l.dep.hi]) := hf 6 (by decide)
 have q12 : f 12 = .pointer (some ⟨b2, 6, none⟩) := hf 7 (by decide)
 obtain ⟨g, cp, hx, ho⟩ : ∃ g cp, Blk w2 b2 27 #[.int .i64 r.depth.lo, .int .i64 r.depth.hi, .int .i64 r.fall.lo, .int .i64 r.fall.hi, .int .i64 r.days, .slice fa fl fc, .slice (some ⟨g, 0, none⟩) (ll + 1) cp] ∧ w2.ownsRow K.heap.size 58 3 (.slice (some ⟨g, 0, none⟩) (ll + 1) cp) (ll + 1) (r.lk.flatMap lkI ++ [Value.int .i64 l.day, Value.int .i64 l.dep.lo, Value.int .i64 l.dep.hi]) := hf 8 (by decide)
 have tg := hg.1
 simp only [List.filterMap, HavG.puts, List.foldl_cons, List.foldl_nil, Act.put, List.setIfInBounds_toArray, List.set_cons_succ, List.set_cons_zero]
 rw [q5, q6, q7, q8, q9, q10, q11, q12]
 clear hf hap hjj q5 q6 q7 q8 q9 q10 q11 q12 hg
 have HX2 := Lib.hid hx
 have HZ2 : Hid (Blk w2 b4 27 #[.int .i64 0, .int .i64 0, .int .i64 0, .int .i64 0, .int .i64 0, .slice none 0 0, .slice none 0 0]) := HZ.out.turn tg (fun h => by have := HZ.out.lt; have := HWB.out; omega)
 have HO := Lib.hid ho
 have HB4 : Hid (Below w.heap.size w w2) := HB.out.trans (tg.below HB.out.size (fun b e => by have := HWB.out; have := HB.out.size; omega))
 have hlt4 : w.heap.size ≤ b4 := HWB.out.2.2.1
 clear hx ho tg
 have HX := HX2
 have x0 := HX.out.cell 0
 have x1 := HX.out.cell 1
 have x2 := HX.out.cell 2
 have x3 := HX.out.cell 3
 have x4 := HX.out.cell 4
 have x5 := HX.out.cell 5
 have x6 := HX.out.cell 6
 have xl := HX.out.lt
 simp at x0 x1 x2 x3 x4 x5 x6
 have z0 := HZ2.out.frozen 0
 have z1 := HZ2.out.frozen 1
 have z2 := HZ2.out.frozen 2
 have z3 := HZ2.out.frozen 3
 have z4 := HZ2.out.frozen 4
 have z5 := HZ2.out.frozen 5
 have z6 := HZ2.out.frozen 6
 have zc0 := HZ2.out.cell 0
 have zc1 := HZ2.out.cell 1
 have zc2 := HZ2.out.cell 2
 have zc3 := HZ2.out.cell 3
 have zc4 := HZ2.out.cell 4
 have zc5 := HZ2.out.cell 5
 have zc6 := HZ2.out.cell 6
 have zl := HZ2.out.lt
 simp at zc0 zc1 zc2 zc3 zc4 zc5 zc6
 go_wp2
 obtain ⟨W5, hW5⟩ : ∃ W5, W5 = set7 w2 b4 (.int .i64 r.depth.lo) (.int .i64 r.depth.hi) (.int .i64 r.fall.lo) (.int .i64 r.fall.hi) (.int .i64 r.days) (.slice fa fl fc) (.slice (some ⟨g, 0, none⟩) (ll + 1) cp) := ⟨_, rfl⟩
 have HK5 : Blk W5 b4 27 #[.int .i64 r.depth.lo, .int .i64 r.depth.hi, .int .i64 r.fall.lo, .int .i64 r.fall.hi, .int .i64 r.days, .slice fa fl fc, .slice (some ⟨g, 0, none⟩) (ll + 1) cp] := by rw [hW5]; exact set7_blk HZ2.out
 have HB5 : Below w.heap.size w W5 := by rw [hW5]; exact set7_below HB4.out hlt4 _ _ _ _ _ _ _
 have hg4 : g ≠ b4 := by
  have h1 := (own_blk HO.out).choose_spec.2.1
  have h2 := HZ.out.lt
  omega
 have ho5 : W5.ownsRow K.heap.size 58 3 (.slice (some ⟨g, 0, none⟩) (ll + 1) cp) (ll + 1) ((withR r l).lk.flatMap lkI) := by
  rw [hW5]
  have h := own_turn HO.out (set7_turn w2 b4 (.int .i64 r.depth.lo) (.int .i64 r.depth.hi) (.int .i64 r.fall.lo) (.int .i64 r.fall.hi) (.int .i64 r.days) (.slice fa fl fc) (.slice (some ⟨g, 0, none⟩) (ll + 1) cp)) (fun g' e => by cases e; exact hg4)
  show World.ownsRow _ _ _ _ _ _ ((r.lk ++ [l]).flatMap lkI)
  rw [List.flatMap_append]
  exact h
 unfold set7 at hW5
 rw [← hW5]
 clear hW5
 have k0 := HK5.cell 0
 have k1 := HK5.cell 1
 have k2 := HK5.cell 2
 have k3 := HK5.cell 3
 have k4 := HK5.cell 4
 have k5 := HK5.cell 5
 have k6 := HK5.cell 6
 simp at k0 k1 k2 k3 k4 k5 k6
 exact bodyPost_ret (v := .agg #[.int .i64 r.depth.lo, .int .i64 r.depth.hi, .int .i64 r.fall.lo, .int .i64 r.fall.hi, .int .i64 r.days, .slice fa fl fc, .slice (some ⟨g, 0, none⟩) (ll + 1) cp]) (by simp [results, Try.results39, go_sem, k0, k1, k2, k3, k4, k5, k6]) rfl ⟨⟨_, _, rfl, own_base ho5 HB.out.size⟩, HB5⟩
end
end Go.Proofs.Ytiodmkokpfgkkaa
