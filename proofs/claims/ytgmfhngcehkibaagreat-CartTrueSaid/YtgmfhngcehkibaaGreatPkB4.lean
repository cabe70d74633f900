/- The walks of within, has; the iterators of a fall and of a flood; condition: numbers are small. Condition: what the statements say. -/
import Derived.Test.YtgmfhngcehkibaaGreatPkB3
set_option maxRecDepth 100000
set_option maxHeartbeats 6400000
namespace Go.Proofs.YtgmfhngcehkibaaGreat
open Go.RowKit Go.Hav Go.Shelf Go.Sq
attribute [local go_sem] Oper.semAt_some
theorem room_of_none {F : Fence} (hd : F.depth = none) (k : Nat) : F.room k := fun d h => by rw [hd] at h; cases h
theorem RoundIn.anyDepth {F : Fence} (hd : F.depth = none) {m m' : Nat} {P : Program} {l : Nat} {f : FuncId} {tmps : Array Value} {assign body : Code} {w : World} {R : Ending → World → Prop}
  (h : RoundIn F m P l f tmps assign body w R) : RoundIn F m' P l f tmps assign body w R := ⟨h.1, fun c cs _ => h.2 c cs (room_of_none hd _)⟩
theorem within_any (n lo hi : Int) (w : World) :
  Calls Tryz.prog 131 #[.int .i64 n, .int .i64 lo, .int .i64 hi] w fun e w' => e = .returned (.bool (inB n lo hi)) ∧ w' = w := by
 by_cases h1 : lo ≤ n
 ·have hl : decide (lo ≤ n) = true := by simp [h1]
  go_enter Tryz.func131, Tryz.ntmps131
  go_wp2; go_ret
  exact ⟨ret_bool (by simp [inB, h1]), rfl⟩
 ·have hl : decide (lo ≤ n) = false := by simp [h1]
  go_enter Tryz.func131, Tryz.ntmps131
  go_wp2; go_ret
  exact ⟨ret_bool (by simp [inB]; omega), rfl⟩
def stC (s : St) : Array Value := #[.int .i64 s.1, .int .u64 s.2]
def stV (s : St) : Value := .agg (stC s)
def encS (s : St) : Array Value := #[stV s]
theorem has_any (s : St) (i : Nat) (hs : s.2 < 1024) (hi : i < 64) (w : World) :
  Calls Tryz.prog 176 #[stV s, .int .i64 i] w fun e w' => e = .returned (.bool (s.2.testBit i)) ∧ Below w.heap.size w w' := by
 obtain ⟨d, c⟩ := s; have hi' : (i : Int) < 64 := by omega
 have htb := tb_u64 c i (by simp only at hs; omega)
 unfold stV stC
 go_enter Tryz.func176, Tryz.ntmps176
 go_wp2; go_ret
 exact ⟨rfl, (by repeat (first | exact Below.refl _ _ | assumption | refine Below.drew ?_ | refine below_drewN ?_ _ | refine Below.alloc ?_ (by (try simp) <;> omega) _ | refine Below.setCell ?_ (by (try simp) <;> omega) _ | refine Below.trans ?_ (Below.mono (by assumption) (by (try simp) <;> omega))))⟩
theorem fallStates_any (by_ : Nat) (s : St) (day : Int) (w : World) :
  Calls Tryz.prog 177 #[.agg #[.int .i64 by_], stV s, .int .i64 day] w fun e w' => e = .returned (.func (.func 178) #[] #[.pointer (some ⟨w.heap.size + 1, 0, none⟩), .pointer (some ⟨w.heap.size, 0, none⟩)]) ∧
   w' = (w.alloc (.cells #[.int .i64 by_] 216)).alloc (.cells (stC s) 189) := by
 have hmf := hmf0; obtain ⟨d, c⟩ := s; unfold stV stC
 go_enter Tryz.func177, Tryz.ntmps177
 go_wp2; go_ret
 exact ⟨rfl, rfl⟩
theorem max_run (a b : Int) (w : World) : (Builtin.max_ #[3, 3] 3 #[.int .i64 a, .int .i64 b]).run Tryz.prog w = .ok (.int .i64 (max a b)) w := by
 rcases Int.lt_or_le a b with h | h
 ·simp [Builtin.max_, Builtin.max2, h]; omega
 ·simp [Builtin.max_, Builtin.max2]; omega
theorem min_run (a b : Int) (w : World) : (Builtin.min_ #[3, 3] 3 #[.int .i64 a, .int .i64 b]).run Tryz.prog w = .ok (.int .i64 (min a b)) w := by
 rcases Int.lt_or_le b a with h | h
 ·simp [Builtin.min_, Builtin.min2, h]; omega
 ·simp [Builtin.min_, Builtin.min2]; omega
theorem fall_seq (Ty : TypeId → Prop) (Kx : World → World → Prop) (by_ bs bf : Nat) (s : St) (h1 : by_ < 1000) (h2 : s.1 < 1000000) :
  SeqL Tryz.prog 178 #[.pointer (some ⟨bs, 0, none⟩), .pointer (some ⟨bf, 0, none⟩)] [encS (s.1 - by_, s.2)] Ty Kx (fun _ W => Blk W bs 189 (stC s) ∧ Blk W bf 216 #[.int .i64 by_]) := by
 rintro S L J Jx W ⟨hs, hf⟩ _ _ hJ hJx hY h0; obtain ⟨d, c⟩ := s; have s0 : W.cell? ⟨bs, 0, none⟩ = some (.int .i64 d) := hs.cell 0; have s1 : W.cell? ⟨bs, 1, none⟩ = some (.int .u64 c) := hs.cell 1; have f0 : W.cell? ⟨bf, 0, none⟩ = some (.int .i64 by_) := hf.cell 0; obtain ⟨fn, tmps, assign, body, hy, hR⟩ := hY 0 _ W h0 rfl; clear hY hs hf
 have hmx : ∀ w, (Builtin.max_ #[3, 3] 3 #[.int .i64 0, .int .i64 ((d : Int) - by_)]).run Tryz.prog w = .ok (.int .i64 ((d - by_ : Nat) : Int)) w := fun w => by
  rw [max_run, show max 0 ((d : Int) - by_) = ((d - by_ : Nat) : Int) by omega]
 dsimp only [encS, stV, stC] at hy; refine (callsIn_wide (n := 0)).1 (callsIn_of_wp Tryz.func178 rfl trivial ?_ rfl); simp only [Tryz.ntmps178, List.size_toArray, List.length_cons, List.length_nil, Nat.reduceAdd, Nat.reduceSub, Array.replicate_succ, Array.replicate_zero, List.push_toArray, List.append_toArray, List.nil_append, List.cons_append]
 gi_wp2
 refine ⟨rfl, hR.mono ?_⟩; rintro e W3 ⟨_, (⟨rfl, hJ3⟩ | ⟨rfl, hJx3⟩)⟩
 ·gi_wp2
  go_end0
  exact ⟨⟨_, rfl⟩, .inl hJ3⟩
 ·gi_wp2
  go_end0
  exact ⟨⟨_, rfl⟩, .inr hJx3⟩
theorem floodStates_any (f0 f1 f2 f3 f4 f5 : Value) (s : St) (day : Int) (w : World) :
  Calls Tryz.prog 179 #[.agg #[f0, f1, f2, f3, f4, f5], stV s, .int .i64 day] w fun e w' => e = .returned (.func (.func 180) #[] #[.pointer (some ⟨w.heap.size, 0, none⟩), .pointer (some ⟨w.heap.size + 1, 0, none⟩), .pointer (some ⟨w.heap.size + 2, 0, none⟩)]) ∧
   w' = ((w.alloc (.cells #[f0, f1, f2, f3, f4, f5] 218)).alloc (.cells (stC s) 189)).alloc (.cells #[.int .i64 day] 3) := by
 have hmf := hmf0; obtain ⟨d, c⟩ := s; unfold stV stC
 go_enter Tryz.func179, Tryz.ntmps179
 go_wp2; go_ret
 exact ⟨rfl, rfl⟩
end Go.Proofs.YtgmfhngcehkibaaGreat
namespace Go.Proofs.YtgmfhngcehkibaaGreat
open Go.RowKit Go.Hav Go.Shelf Go.Sq
attribute [local go_sem] Oper.semAt_some
abbrev TyB : TypeId → Prop := fun t => t = 4
abbrev KxN : World → World → Prop := fun _ _ => False
def flC (i : Nat) (f : NFr) : Array Value := #[.int .i64 0, .int .i64 i, .int .i64 f.days.lo, .int .i64 f.days.hi, .int .i64 f.rise.lo, .int .i64 f.rise.hi]
structure NFr.Fit (f : NFr) : Prop where
 d1 : f.days.lo ≤ f.days.hi
 d2 : f.days.hi ≤ 10
 r1 : f.rise.lo ≤ f.rise.hi
 r2 : f.rise.hi ≤ 20
theorem opts_at {f : NFr} {i day : Nat} {x : St} (hb : x.2.testBit i = false) (h1 : f.days.lo ≤ day) (h2 : day ≤ f.days.hi) {j : Nat} (hj : j < f.rise.hi + 1 - f.rise.lo) :
  (opts f i day x)[(if day < f.days.hi then 1 else 0) + j]? = some (x.1 + (f.rise.lo + j), x.2 ||| 2 ^ i) := by
 unfold opts; rw [hb]; simp only [Bool.false_or, Bool.not_false, decide_eq_true_eq, h1, h2, decide_true, Bool.and_self, if_true]
 split
 ·rw [Nat.add_comm 1 j, List.getElem?_append_right (by simp), List.length_singleton, Nat.add_sub_cancel, List.getElem?_map, List.getElem?_range hj]
  rfl
 ·rw [List.nil_append, Nat.zero_add, List.getElem?_map, List.getElem?_range hj]
  rfl
theorem Blk.turn {S : Nat → Prop} {X Y : World} {g : Nat} {t : TypeId} {cs : Array Value} (h : Blk X g t cs) (k : Turn S X Y) (hs : ¬ S g) : Blk Y g t cs := (k.block g h.lt hs).trans h
def FV (bf bd Bx By L i day d c : Nat) (f : NFr) (X : World) : Prop := Blk X bf 218 (flC i f) ∧ Blk X bd 3 #[.int .i64 day] ∧ Blk X Bx 189 (stC (d, c)) ∧ Blk X By 210 #[.func (.yield L) #[] #[]]
theorem FV.turn {S : Nat → Prop} {X Y : World} {bf bd Bx By L i day d c : Nat} {f : NFr} (h : FV bf bd Bx By L i day d c f X) (k : Turn S X Y) (h1 : ¬ S bf) (h2 : ¬ S bd) (h3 : ¬ S Bx) (h4 : ¬ S By) : FV bf bd Bx By L i day d c f Y :=
 ⟨h.1.turn k h1, h.2.1.turn k h2, h.2.2.1.turn k h3, h.2.2.2.turn k h4⟩
def RelB : HavG.Rel where
 G w w' := Below w.heap.size w w'
 refl w := Below.refl _ w
 trans h k := h.trans (k.mono h.size)
 drew w := Below.drew (Below.refl _ w)
theorem opts_len2 {f : NFr} {i day : Nat} {x : St} : (opts f i day x).length = (if x.2.testBit i = true ∨ day < f.days.hi then 1 else 0) + (if x.2.testBit i = false ∧ f.days.lo ≤ day ∧ day ≤ f.days.hi then f.rise.hi + 1 - f.rise.lo else 0) := by
 unfold opts; rw [List.length_append]
 congr 1
 ·by_cases h : x.2.testBit i = true ∨ day < f.days.hi
  ·rw [if_pos h, if_pos (by simpa using h)]; rfl
  ·rw [if_neg h, if_neg (by simpa using h)]; rfl
 ·by_cases h : x.2.testBit i = false ∧ f.days.lo ≤ day ∧ day ≤ f.days.hi
  ·rw [if_pos h, if_pos (by simp [h.1, h.2.1, h.2.2])]; simp
  ·rw [if_neg h, if_neg (by simpa [and_assoc] using h)]; rfl
theorem opts_zero {f : NFr} {i day : Nat} {x : St} (h : x.2.testBit i = true ∨ day < f.days.hi) : (opts f i day x)[0]? = some x := by
 unfold opts; rw [if_pos (by simpa using h)]
 rfl
theorem shl_or (c i : Nat) (hc : c < 1024) (hi : i < 10) : bits BinOp.or IntKind.u64 (c : Int) (IntKind.u64.wrap (2 ^ i)) = ((c ||| 2 ^ i : Nat) : Int) := by
 have h1 : (2 : Nat) ^ i ≤ 2 ^ 10 := Nat.pow_le_pow_right (by omega) (by omega)
 have h2 : ((2 ^ i : Nat) : Int) = 2 ^ i := by simp
 have h3 : ∀ m : Nat, m ≤ 1024 → IntKind.u64.wrap (m : Int) = m := fun m hm => by rw [IntKind.wrap_u64]; omega
 rw [← h2, h3 _ (by omega)]
 exact or_u64 _ _ (by omega) (by omega)
def kk (k n : Nat) : Nat := if k = 0 then 0 else n
theorem flood_seq (i day bf bs bd : Nat) (f : NFr) (s : St) (hf : f.Fit) (hi : i < 3) (hs1 : s.1 < 1000000) (hs2 : s.2 < 1024) :
  SeqL Tryz.prog 180 #[.pointer (some ⟨bf, 0, none⟩), .pointer (some ⟨bs, 0, none⟩), .pointer (some ⟨bd, 0, none⟩)] ((opts f i day s).map encS) TyB KxN
   (fun S W => (Blk W bf 218 (flC i f) ∧ ¬ S bf) ∧ (Blk W bs 189 (stC s) ∧ ¬ S bs) ∧ (Blk W bd 3 #[.int .i64 day] ∧ ¬ S bd)) := by
 rintro S L J Jx W ⟨⟨hbf, nf⟩, ⟨hbs, ns⟩, ⟨hbd, nd⟩⟩ hSL hSW hJ hJx hY h0; obtain ⟨d, c⟩ := s; have HY := Lib.hid hY; have HJ := Lib.hid hJ; have HJX := Lib.hid hJx; have H0 := Lib.hid h0; have HBF := Lib.hid hbf; have HBS := Lib.hid hbs; have HBD := Lib.hid hbd; have HF := Lib.hid hf; clear hY hJ hJx h0; have t1 : W.cell? ⟨bf, 0, none⟩ = some (.int .i64 0) := hbf.cell 0; have t2 : W.cell? ⟨bf, 1, none⟩ = some (.int .i64 i) := hbf.cell 1; have t3 : W.cell? ⟨bf, 2, none⟩ = some (.int .i64 f.days.lo) := hbf.cell 2; have t4 : W.cell? ⟨bf, 3, none⟩ = some (.int .i64 f.days.hi) := hbf.cell 3; have t5 : W.cell? ⟨bf, 4, none⟩ = some (.int .i64 f.rise.lo) := hbf.cell 4; have t6 : W.cell? ⟨bf, 5, none⟩ = some (.int .i64 f.rise.hi) := hbf.cell 5; have t7 : W.cell? ⟨bs, 0, none⟩ = some (.int .i64 d) := hbs.cell 0; have t8 : W.cell? ⟨bs, 1, none⟩ = some (.int .u64 c) := hbs.cell 1; have t9 : W.cell? ⟨bd, 0, none⟩ = some (.int .i64 day) := hbd.cell 0; have l1 := hbf.lt; have l2 := hbs.lt; have l3 := hbd.lt; clear hbf hbs hbd hf; refine (callsIn_wide (n := 6)).1 (callsIn_of_wp_marks Tryz.func180 rfl trivial ?_ rfl); simp only [Tryz.ntmps180, List.size_toArray, List.length_cons, List.length_nil, Nat.reduceAdd, Nat.reduceSub, Array.replicate_succ, Array.replicate_zero, List.push_toArray, List.append_toArray, List.nil_append, List.cons_append]; refine wpIn_wide.2 ?_; go_wp2_with fail; refine (fallStates_any 0 (d, c) day _).mono ?_; rintro e w' ⟨rfl, rfl⟩; unfold stC; go_wp2_with fail
 obtain ⟨W0, hW0⟩ : ∃ W0, W0 = (((W.alloc (.cells #[.func (.yield L) #[] #[]] 210)).alloc (.cells #[.int .i64 0] 216)).alloc (.cells #[.int .i64 d, .int .u64 c] 189)) := ⟨_, rfl⟩; have HB0 : Hid (Below W.heap.size W W0) := by rw [hW0]; exact (((Below.refl _ _).alloc (Nat.le_refl _) _).alloc (by simp) _).alloc (by simp; omega) _
 have hs0 : W0.heap.size = W.heap.size + 3 := by rw [hW0]; simp
 have HX1 : Hid (Blk W0 W.heap.size 210 #[.func (.yield L) #[] #[]]) := by rw [hW0]; exact ((Blk.new W 210 _).alloc _).alloc _
 have HX2 : Hid (Blk W0 (W.heap.size + 1) 216 #[.int .i64 ((0 : Nat) : Int)]) := by rw [hW0]; exact (Blk.new_ (by simp) 216 _).alloc _
 have HX3 : Hid (Blk W0 (W.heap.size + 1 + 1) 189 (stC (d, c))) := by rw [hW0]; exact Blk.new_ (by simp) 189 _
 rw [← hW0]; clear hW0; obtain ⟨n, hn⟩ : ∃ n, (opts f i day (d, c)).length = n := ⟨_, rfl⟩
 refine wpIn_wide.1 (wpIn_rangeL_slots (n := 6) (gf := 178) (lb := #[.pointer (some ⟨W.heap.size + 1 + 1, 0, none⟩), .pointer (some ⟨W.heap.size + 1, 0, none⟩)]) rfl (enters_of Tryz.func178 (by kernel_rfl) rfl)
  (fall_seq TyB KxN 0 (W.heap.size + 1 + 1) (W.heap.size + 1) (d, c) (by omega) hs1) keepsRec_none (by simp [encS]) S (fun b h => by have := hSW b h; omega)
  (fun r => ⟨(HX3.out.alloc _).alloc _, (HX2.out.alloc _).alloc _⟩)
  (fun k X => Turn S W0 X ∧ J (kk k n) X) (fun cd X => Turn S W0 X ∧ cd = .ret ∧ Jx X)
  (fun k => (OwnT.turn TyB (Nat.le_refl _) (fun _ _ _ h => h.elim)).and ((HJ.out _).le (by omega))) (fun cd => (OwnT.turn TyB (Nat.le_refl _) (fun _ _ _ h => h.elim)).and ((OwnT.pure _ _ _ _).and (HJX.out.le (by omega))))
  ⟨Turn.refl _ _, (HJ.out 0).below H0.out HB0.out⟩
  (fun _ (Bx : Nat) T => (T.setIfInBounds 12 (stV (d, c))).setIfInBounds 5 (.pointer (some ⟨Bx, 0, none⟩))) (fun _ Bx X => W0.heap.size ≤ Bx ∧ Blk X Bx 189 (stC (d, c))) (fun _ Bx => (OwnT.pure _ _ _ _).and (OwnT.blk _ (by decide) (fun _ _ h => h.elim)))
  ?assign ?body ?done ?stop)
 case assign =>
  rintro l k x X K ⟨hT, hj⟩ hx hK
  have hk0 : k = 0 := by
   have := (List.getElem?_eq_some_iff.1 hx).1; simp at this; exact this
  subst hk0; obtain rfl : x = encS (d, c) := by simpa using hx.symm
  simp only [List.setIfInBounds_toArray, List.set_cons_succ, List.set_cons_zero] at hK; dsimp only [encS]; simp only [stV, stC] at hK ⊢; have HK := Lib.hid hK; clear hK
  gi_wp2
  exact HK.out X.heap.size _ ((Turn.refl S X).alloc _) ⟨hT.alloc _, (HJ.out _).alloc _ hj⟩ ⟨hT.size, Blk.new _ _ _⟩
 case body =>
  rintro l k x Bx X hl ⟨r, hr⟩ ⟨hT, hj⟩ ⟨hBx, hX⟩ hx
  have hk0 : k = 0 := by
   have := (List.getElem?_eq_some_iff.1 hx).1; simp at this; exact this
  subst hk0; simp only [List.setIfInBounds_toArray, List.set_cons_succ, List.set_cons_zero]; simp only [stV, stC]; obtain ⟨By, hBy⟩ : ∃ By, By = W.heap.size := ⟨_, rfl⟩; rw [← hBy]
  have nx : ¬ S Bx := fun h => by have := hSW _ h; omega
  have ny : ¬ S By := fun h => by have := hSW _ h; omega
  have HT := Lib.hid hT; have HJ0 : Hid (J 0 X) := hj; have hszX := hT.size; have HVX : Hid (FV bf bd Bx By L i day d c f X) := ⟨(HBF.out.below HB0.out l1).turn hT nf, (HBD.out.below HB0.out l3).turn hT nd, hX, by rw [hBy]; exact HX1.out.turn hT (by rw [← hBy]; exact ny)⟩
  clear hx hr hT hj hX; have u1 : X.cell? ⟨bf, 1, none⟩ = some (.int .i64 i) := HVX.out.1.cell 1; have u2 : X.cell? ⟨bf, 2, none⟩ = some (.int .i64 f.days.lo) := HVX.out.1.cell 2; have u3 : X.cell? ⟨bf, 3, none⟩ = some (.int .i64 f.days.hi) := HVX.out.1.cell 3; have u4 : X.cell? ⟨bf, 4, none⟩ = some (.int .i64 f.rise.lo) := HVX.out.1.cell 4; have u5 : X.cell? ⟨bf, 5, none⟩ = some (.int .i64 f.rise.hi) := HVX.out.1.cell 5; have u6 : X.cell? ⟨bd, 0, none⟩ = some (.int .i64 day) := HVX.out.2.1.cell 0; have u7 : X.cell? ⟨Bx, 0, none⟩ = some (.int .i64 d) := HVX.out.2.2.1.cell 0; have u8 : X.cell? ⟨Bx, 1, none⟩ = some (.int .u64 c) := HVX.out.2.2.1.cell 1; have u9 : X.cell? ⟨By, 0, none⟩ = some (.func (.yield L) #[] #[]) := HVX.out.2.2.2.cell 0; have m1 : bf < X.heap.size := by omega
  have m2 : bd < X.heap.size := by omega
  have m3 : Bx < X.heap.size := HVX.out.2.2.1.lt; have m4 : By < X.heap.size := by omega
  have HBy := Lib.hid hBy; clear hBy
  gi_wp2_with fail
  (refine ⟨trivial, rfl, (CallsIn.inRound l (callsIn_wide.2 (has_any (d, c) i hs2 (by omega) _))).mono ?_⟩; rintro e W2 ⟨rfl, hbW2⟩)
  have hT2 : Turn S X W2 := Turn.of_below hbW2; have HVW2 : Hid (FV bf bd Bx By L i day d c f W2) := HVX.out.turn hT2 nf nd nx ny; have HJ2 : Hid (J 0 W2) := (HJ.out 0).below HJ0.out hbW2; have HT2 := Lib.hid hT2; clear u1 u2 u3 u4 u5 u6 u7 u8 u9; clear hT2 hbW2; have u1 : W2.cell? ⟨bf, 1, none⟩ = some (.int .i64 i) := HVW2.out.1.cell 1; have u2 : W2.cell? ⟨bf, 2, none⟩ = some (.int .i64 f.days.lo) := HVW2.out.1.cell 2; have u3 : W2.cell? ⟨bf, 3, none⟩ = some (.int .i64 f.days.hi) := HVW2.out.1.cell 3; have u4 : W2.cell? ⟨bf, 4, none⟩ = some (.int .i64 f.rise.lo) := HVW2.out.1.cell 4; have u5 : W2.cell? ⟨bf, 5, none⟩ = some (.int .i64 f.rise.hi) := HVW2.out.1.cell 5; have u6 : W2.cell? ⟨bd, 0, none⟩ = some (.int .i64 day) := HVW2.out.2.1.cell 0; have u7 : W2.cell? ⟨Bx, 0, none⟩ = some (.int .i64 d) := HVW2.out.2.2.1.cell 0; have u8 : W2.cell? ⟨Bx, 1, none⟩ = some (.int .u64 c) := HVW2.out.2.2.1.cell 1; have u9 : W2.cell? ⟨By, 0, none⟩ = some (.func (.yield L) #[] #[]) := HVW2.out.2.2.2.cell 0
  by_cases hq : c.testBit i = true ∨ day < f.days.hi
  ·obtain ⟨fn, tmps, assign, body, hy, hR⟩ := HY.out 0 _ W2 HJ2.out (by rw [List.getElem?_map, opts_zero hq]; rfl)
   dsimp only [encS, stV, stC] at hy; have HR := Lib.hid hR; clear hR
   cases hb : c.testBit i
   ·have hlt : (day : Int) < f.days.hi := by
     rw [hb] at hq; have : day < f.days.hi := by simpa using hq
     omega
    have hltd : decide ((day : Int) < f.days.hi) = true := by simpa using hlt
    have HQ := Lib.hid hq; have HB := Lib.hid hb; clear hq
    gi_wp2_with fail
    refine ⟨rfl, HR.out.mono ?_⟩; rintro e Y ⟨hTY, (⟨rfl, hJY⟩ | ⟨rfl, hJY⟩)⟩
    ·obtain ⟨o, ho⟩ : ∃ o, o = (if c.testBit i = true ∨ day < f.days.hi then 1 else 0) := ⟨_, rfl⟩
     have HJY : Hid (J o Y) := by rw [ho, if_pos HQ.out]; exact hJY
     have HO := Lib.hid ho; have HTY : Hid (Turn S X Y) := HT2.out.trans hTY; have HVY : Hid (FV bf bd Bx By L i day d c f Y) := HVW2.out.turn hTY nf nd nx ny; have hszY := hTY.size; clear hTY hJY ho hlt hltd; clear u1 u2 u3 u4 u5 u6 u7 u8 u9; have u1 : Y.cell? ⟨bf, 1, none⟩ = some (.int .i64 i) := HVY.out.1.cell 1; have u2 : Y.cell? ⟨bf, 2, none⟩ = some (.int .i64 f.days.lo) := HVY.out.1.cell 2; have u3 : Y.cell? ⟨bf, 3, none⟩ = some (.int .i64 f.days.hi) := HVY.out.1.cell 3; have u4 : Y.cell? ⟨bf, 4, none⟩ = some (.int .i64 f.rise.lo) := HVY.out.1.cell 4; have u5 : Y.cell? ⟨bf, 5, none⟩ = some (.int .i64 f.rise.hi) := HVY.out.1.cell 5; have u6 : Y.cell? ⟨bd, 0, none⟩ = some (.int .i64 day) := HVY.out.2.1.cell 0; have u7 : Y.cell? ⟨Bx, 0, none⟩ = some (.int .i64 d) := HVY.out.2.2.1.cell 0; have u8 : Y.cell? ⟨Bx, 1, none⟩ = some (.int .u64 c) := HVY.out.2.2.1.cell 1; have u9 : Y.cell? ⟨By, 0, none⟩ = some (.func (.yield L) #[] #[]) := HVY.out.2.2.2.cell 0
     gi_wp2_with fail
     (refine ⟨trivial, rfl, (CallsIn.inRound l (callsIn_wide.2 (has_any (d, c) i hs2 (by omega) _))).mono ?_⟩; rintro e Z0 ⟨rfl, hbZ0⟩)
     have HTZ : Hid (Turn S X Z0) := HTY.out.trans (Turn.of_below hbZ0); have HVZ0 : Hid (FV bf bd Bx By L i day d c f Z0) := HVY.out.turn (Turn.of_below hbZ0) nf nd nx ny; have HJZ : Hid (J o Z0) := (HJ.out o).below HJY.out hbZ0; have hszZ := hbZ0.size; clear hbZ0; clear u1 u2 u3 u4 u5 u6 u7 u8 u9; have u1 : Z0.cell? ⟨bf, 1, none⟩ = some (.int .i64 i) := HVZ0.out.1.cell 1; have u2 : Z0.cell? ⟨bf, 2, none⟩ = some (.int .i64 f.days.lo) := HVZ0.out.1.cell 2; have u3 : Z0.cell? ⟨bf, 3, none⟩ = some (.int .i64 f.days.hi) := HVZ0.out.1.cell 3; have u4 : Z0.cell? ⟨bf, 4, none⟩ = some (.int .i64 f.rise.lo) := HVZ0.out.1.cell 4; have u5 : Z0.cell? ⟨bf, 5, none⟩ = some (.int .i64 f.rise.hi) := HVZ0.out.1.cell 5; have u6 : Z0.cell? ⟨bd, 0, none⟩ = some (.int .i64 day) := HVZ0.out.2.1.cell 0; have u7 : Z0.cell? ⟨Bx, 0, none⟩ = some (.int .i64 d) := HVZ0.out.2.2.1.cell 0; have u8 : Z0.cell? ⟨Bx, 1, none⟩ = some (.int .u64 c) := HVZ0.out.2.2.1.cell 1; have u9 : Z0.cell? ⟨By, 0, none⟩ = some (.func (.yield L) #[] #[]) := HVZ0.out.2.2.2.cell 0; rw [HB.out]
     gi_wp2_with fail
     (refine ⟨trivial, rfl, (CallsIn.inRound l (callsIn_wide.2 (within_any _ _ _ _))).mono ?_⟩; rintro e Z ⟨rfl, rfl⟩)
     cases hw : inB day f.days.lo f.days.hi
     ·have hno : n = o := by
       rw [← hn, opts_len2, if_neg (show ¬ (c.testBit i = false ∧ f.days.lo ≤ day ∧ day ≤ f.days.hi) from fun h => by
        have : inB day f.days.lo f.days.hi = true := inB_iff.2 (by omega)
        rw [this] at hw; cases hw), HO.out]
       rfl
      have HNO := Lib.hid hno; clear hno
      gi_wp2
      exact ⟨HTZ.out, HT.out.trans HTZ.out, by rw [show kk (0 + 1) n = o from HNO.out]; exact HJZ.out⟩
     ·have hw2 := inB_iff.1 hw
      have HNO : Hid (n = o + (f.rise.hi + 1 - f.rise.lo)) := by
       show n = _; rw [← hn, opts_len2, if_pos (show c.testBit i = false ∧ f.days.lo ≤ day ∧ day ≤ f.days.hi from ⟨HB.out, by omega, by omega⟩), HO.out]
      have HAT : Hid (∀ j, j < f.rise.hi + 1 - f.rise.lo → (opts f i day (d, c))[o + j]? = some (d + (f.rise.lo + j), c ||| 2 ^ i)) := fun j hj => by
       have h := opts_at (x := (d, c)) HB.out (show f.days.lo ≤ day by omega) (show day ≤ f.days.hi by omega) hj
       rw [HO.out]; simp only [HB.out, Bool.false_eq_true, false_or]; exact h
      have HR1 := Lib.hid HF.out.r1; have HR2 := Lib.hid HF.out.r2
      gi_wp2
      gi_loopw [6] (fun v wr => ∃ j, j ≤ f.rise.hi + 1 - f.rise.lo ∧ v = .int .i64 ((f.rise.lo + j : Nat) : Int) ∧ Hid (J (o + j) wr) ∧ Hid (Turn S X wr) ∧ Hid (FV bf bd Bx By L i day d c f wr)) (fun v _ => f.rise.hi + 1 - (intOf v).toNat)
      case atStart => exact ⟨0, Nat.zero_le _, rfl, HJZ, HTZ, HVZ0⟩
      case round =>
       obtain ⟨j, hj, rfl, HJr, HTr, HVr⟩ := hrel; clear u1 u2 u3 u4 u5 u6 u7 u8 u9; have u1 : wr.cell? ⟨bf, 1, none⟩ = some (.int .i64 i) := HVr.out.1.cell 1; have u2 : wr.cell? ⟨bf, 2, none⟩ = some (.int .i64 f.days.lo) := HVr.out.1.cell 2; have u3 : wr.cell? ⟨bf, 3, none⟩ = some (.int .i64 f.days.hi) := HVr.out.1.cell 3; have u4 : wr.cell? ⟨bf, 4, none⟩ = some (.int .i64 f.rise.lo) := HVr.out.1.cell 4; have u5 : wr.cell? ⟨bf, 5, none⟩ = some (.int .i64 f.rise.hi) := HVr.out.1.cell 5; have u6 : wr.cell? ⟨bd, 0, none⟩ = some (.int .i64 day) := HVr.out.2.1.cell 0; have u7 : wr.cell? ⟨Bx, 0, none⟩ = some (.int .i64 d) := HVr.out.2.2.1.cell 0; have u8 : wr.cell? ⟨Bx, 1, none⟩ = some (.int .u64 c) := HVr.out.2.2.1.cell 1; have u9 : wr.cell? ⟨By, 0, none⟩ = some (.func (.yield L) #[] #[]) := HVr.out.2.2.2.cell 0; have m1 : bf < wr.heap.size := HVr.out.1.lt; have m2 : bd < wr.heap.size := HVr.out.2.1.lt; have m3 : Bx < wr.heap.size := HVr.out.2.2.1.lt; have m4 : By < wr.heap.size := HVr.out.2.2.2.lt; have hr2 := HR2.out; have hr1 := HR1.out
       by_cases hlt : f.rise.lo + j ≤ f.rise.hi
       ·have hc : (f.rise.lo : Int) + j ≤ f.rise.hi := by omega
        gi_wp2
        refine HavG.wpIn_region_tail (R := RelB) [(0,false),(1,false),(2,false),(3,false),(4,false),(5,false),(6,false),(7,false),(8,false),(9,false),(10,false),(11,false)] [12, 13] (fun _ _ => False) (by kernel_rfl) (by kernel_rfl) (by kernel_rfl) (fun _ _ _ _ h => h.elim) ?_
        (apply HavG.hav_same (by exact ho rfl) (by kernel_rfl); (focus (intro wv hgv _; have hcv := cvB hgv; (try go_simp); try rfl; done)); simp only [Act.put, List.setIfInBounds_toArray, List.set_cons_succ, List.set_cons_zero])
        iterate 11 (apply HavG.hav_same (by exact ho rfl) (by kernel_rfl); (focus (intro wv hgv _; have hcv := cvB hgv; (try go_simp); try rfl; done)); simp only [Act.put, List.setIfInBounds_toArray, List.set_cons_succ, List.set_cons_zero])
        rw [shl_or c i (by omega) (by omega), show IntKind.i64.wrap ((d : Int) + ((f.rise.lo : Int) + (j : Int))) = ((d + (f.rise.lo + j) : Nat) : Int) by rw [IntKind.wrap_i64]; omega]
        refine HavG.hav_end (fun wz hgz _ => ?_)
        simp only [List.filterMap]; have hbz : Below wr.heap.size wr wz := hgz; obtain ⟨fn, tmps, assign, body, hy, hR⟩ := HY.out (o + j) _ wz ((HJ.out _).below HJr.out hbz) (by rw [List.getElem?_map, HAT.out j (by omega)]; rfl)
        dsimp only [encS, stV, stC] at hy; have HR := Lib.hid hR; have HTz : Hid (Turn S X wz) := HTr.out.trans (Turn.of_below hbz); have HVz : Hid (FV bf bd Bx By L i day d c f wz) := HVr.out.turn (Turn.of_below hbz) nf nd nx ny; have hcast : ((d + (f.rise.lo + j) : Nat) : Int) = (d : Int) + ((f.rise.lo : Int) + (j : Int)) := by omega
        rw [hcast] at hy; clear hR hgz hbz hcast
        gi_wp2_with fail
        refine ⟨rfl, HR.out.mono ?_⟩; rintro e Y2 ⟨hT2, (⟨rfl, hJ2⟩ | ⟨rfl, hJ2⟩)⟩
        ·have HJ3 : Hid (J (o + (j + 1)) Y2) := hJ2; have HT3 : Hid (Turn S X Y2) := HTz.out.trans hT2; have HV3 : Hid (FV bf bd Bx By L i day d c f Y2) := HVz.out.turn hT2 nf nd nx ny; clear hJ2 hT2
         gi_wp2
         go_roundw
         case rel => exact ⟨j + 1, by omega, by go_num, HJ3, HT3, HV3⟩
         case measure => simp [intOf]; omega
        ·have HJ3 := Lib.hid hJ2; have HT3 : Hid (Turn S X Y2) := HTz.out.trans hT2; clear hJ2 hT2
         gi_wp2
         exact ⟨HT3.out, HT.out.trans HT3.out, rfl, HJ3.out⟩
       ·have hc : ¬ (f.rise.lo : Int) + j ≤ f.rise.hi := by omega
        have hjm : j = f.rise.hi + 1 - f.rise.lo := by omega
        have HJ3 : Hid (J n wr) := by rw [HNO.out, ← hjm]; exact HJr.out
        clear hjm
        gi_wp2
        exact ⟨HTr.out, HT.out.trans HTr.out, HJ3.out⟩
    ·have HJXY := Lib.hid hJY; have HTY : Hid (Turn S X Y) := HT2.out.trans hTY; clear hTY hJY
     gi_wp2
     exact ⟨HTY.out, HT.out.trans HTY.out, rfl, HJXY.out⟩
   ·have HQ := Lib.hid hq; have HB := Lib.hid hb; clear hq
    gi_wp2_with fail
    refine ⟨rfl, HR.out.mono ?_⟩; rintro e Y ⟨hTY, (⟨rfl, hJY⟩ | ⟨rfl, hJY⟩)⟩
    ·obtain ⟨o, ho⟩ : ∃ o, o = (if c.testBit i = true ∨ day < f.days.hi then 1 else 0) := ⟨_, rfl⟩
     have HJY : Hid (J o Y) := by rw [ho, if_pos HQ.out]; exact hJY
     have HO := Lib.hid ho; have HTY : Hid (Turn S X Y) := HT2.out.trans hTY; have HVY : Hid (FV bf bd Bx By L i day d c f Y) := HVW2.out.turn hTY nf nd nx ny; have hszY := hTY.size; clear hTY hJY ho; clear u1 u2 u3 u4 u5 u6 u7 u8 u9; have u1 : Y.cell? ⟨bf, 1, none⟩ = some (.int .i64 i) := HVY.out.1.cell 1; have u2 : Y.cell? ⟨bf, 2, none⟩ = some (.int .i64 f.days.lo) := HVY.out.1.cell 2; have u3 : Y.cell? ⟨bf, 3, none⟩ = some (.int .i64 f.days.hi) := HVY.out.1.cell 3; have u4 : Y.cell? ⟨bf, 4, none⟩ = some (.int .i64 f.rise.lo) := HVY.out.1.cell 4; have u5 : Y.cell? ⟨bf, 5, none⟩ = some (.int .i64 f.rise.hi) := HVY.out.1.cell 5; have u6 : Y.cell? ⟨bd, 0, none⟩ = some (.int .i64 day) := HVY.out.2.1.cell 0; have u7 : Y.cell? ⟨Bx, 0, none⟩ = some (.int .i64 d) := HVY.out.2.2.1.cell 0; have u8 : Y.cell? ⟨Bx, 1, none⟩ = some (.int .u64 c) := HVY.out.2.2.1.cell 1; have u9 : Y.cell? ⟨By, 0, none⟩ = some (.func (.yield L) #[] #[]) := HVY.out.2.2.2.cell 0
     gi_wp2_with fail
     (refine ⟨trivial, rfl, (CallsIn.inRound l (callsIn_wide.2 (has_any (d, c) i hs2 (by omega) _))).mono ?_⟩; rintro e Z ⟨rfl, hbZ⟩)
     have HTZ : Hid (Turn S X Z) := HTY.out.trans (Turn.of_below hbZ); have HJZ : Hid (J o Z) := (HJ.out o).below HJY.out hbZ
     have hno : n = o := by rw [← hn, opts_len2, if_neg (show ¬ (c.testBit i = false ∧ _) from fun h => by rw [HB.out] at h; cases h.1), HO.out]; rfl
     have HNO := Lib.hid hno; clear hno hbZ; rw [HB.out]
     gi_wp2
     refine ⟨trivial, ?_⟩
     gi_wp2
     exact ⟨HTZ.out, HT.out.trans HTZ.out, by rw [show kk (0 + 1) n = o from HNO.out]; exact HJZ.out⟩
    ·have HJXY := Lib.hid hJY; have HTY : Hid (Turn S X Y) := HT2.out.trans hTY; clear hTY hJY
     gi_wp2
     exact ⟨HTY.out, HT.out.trans HTY.out, rfl, HJXY.out⟩
  ·have HB : Hid (c.testBit i = false) := by show _ = _; cases hb : c.testBit i <;> simp [hb] at hq ⊢
   have hnl : ¬ (day : Int) < f.days.hi := by
    have h2 : ¬ day < f.days.hi := fun h => hq (.inr h)
    omega
   have hltd : decide ((day : Int) < f.days.hi) = false := by simpa using hnl
   obtain ⟨o, ho⟩ : ∃ o, o = (if c.testBit i = true ∨ day < f.days.hi then 1 else 0) := ⟨_, rfl⟩
   have HJY : Hid (J o W2) := by rw [ho, if_neg hq]; exact HJ2.out
   have HO := Lib.hid ho; obtain ⟨Y, hYe⟩ : ∃ Y, Y = W2 := ⟨_, rfl⟩; subst hYe; have HTY := HT2; have HVY := HVW2; rw [HB.out]; clear ho hq
   gi_wp2_with fail
   (refine ⟨trivial, rfl, (CallsIn.inRound l (callsIn_wide.2 (has_any (d, c) i hs2 (by omega) _))).mono ?_⟩; rintro e Z0 ⟨rfl, hbZ0⟩)
   have HTZ : Hid (Turn S X Z0) := HTY.out.trans (Turn.of_below hbZ0); have HVZ0 : Hid (FV bf bd Bx By L i day d c f Z0) := HVY.out.turn (Turn.of_below hbZ0) nf nd nx ny; have HJZ : Hid (J o Z0) := (HJ.out o).below HJY.out hbZ0; have hszZ := hbZ0.size; clear hbZ0; clear u1 u2 u3 u4 u5 u6 u7 u8 u9; have u1 : Z0.cell? ⟨bf, 1, none⟩ = some (.int .i64 i) := HVZ0.out.1.cell 1; have u2 : Z0.cell? ⟨bf, 2, none⟩ = some (.int .i64 f.days.lo) := HVZ0.out.1.cell 2; have u3 : Z0.cell? ⟨bf, 3, none⟩ = some (.int .i64 f.days.hi) := HVZ0.out.1.cell 3; have u4 : Z0.cell? ⟨bf, 4, none⟩ = some (.int .i64 f.rise.lo) := HVZ0.out.1.cell 4; have u5 : Z0.cell? ⟨bf, 5, none⟩ = some (.int .i64 f.rise.hi) := HVZ0.out.1.cell 5; have u6 : Z0.cell? ⟨bd, 0, none⟩ = some (.int .i64 day) := HVZ0.out.2.1.cell 0; have u7 : Z0.cell? ⟨Bx, 0, none⟩ = some (.int .i64 d) := HVZ0.out.2.2.1.cell 0; have u8 : Z0.cell? ⟨Bx, 1, none⟩ = some (.int .u64 c) := HVZ0.out.2.2.1.cell 1; have u9 : Z0.cell? ⟨By, 0, none⟩ = some (.func (.yield L) #[] #[]) := HVZ0.out.2.2.2.cell 0; rw [HB.out]
   gi_wp2_with fail
   (refine ⟨trivial, rfl, (CallsIn.inRound l (callsIn_wide.2 (within_any _ _ _ _))).mono ?_⟩; rintro e Z ⟨rfl, rfl⟩)
   cases hw : inB day f.days.lo f.days.hi
   ·have hno : n = o := by
     rw [← hn, opts_len2, if_neg (show ¬ (c.testBit i = false ∧ f.days.lo ≤ day ∧ day ≤ f.days.hi) from fun h => by
      have : inB day f.days.lo f.days.hi = true := inB_iff.2 (by omega)
      rw [this] at hw; cases hw), HO.out]
     rfl
    have HNO := Lib.hid hno; clear hno
    gi_wp2
    exact ⟨HTZ.out, HT.out.trans HTZ.out, by rw [show kk (0 + 1) n = o from HNO.out]; exact HJZ.out⟩
   ·have hw2 := inB_iff.1 hw
    have HNO : Hid (n = o + (f.rise.hi + 1 - f.rise.lo)) := by
     show n = _; rw [← hn, opts_len2, if_pos (show c.testBit i = false ∧ f.days.lo ≤ day ∧ day ≤ f.days.hi from ⟨HB.out, by omega, by omega⟩), HO.out]
    have HAT : Hid (∀ j, j < f.rise.hi + 1 - f.rise.lo → (opts f i day (d, c))[o + j]? = some (d + (f.rise.lo + j), c ||| 2 ^ i)) := fun j hj => by
     have h := opts_at (x := (d, c)) HB.out (show f.days.lo ≤ day by omega) (show day ≤ f.days.hi by omega) hj
     rw [HO.out]; simp only [HB.out, Bool.false_eq_true, false_or]; exact h
    have HR1 := Lib.hid HF.out.r1; have HR2 := Lib.hid HF.out.r2
    gi_wp2
    gi_loopw [6] (fun v wr => ∃ j, j ≤ f.rise.hi + 1 - f.rise.lo ∧ v = .int .i64 ((f.rise.lo + j : Nat) : Int) ∧ Hid (J (o + j) wr) ∧ Hid (Turn S X wr) ∧ Hid (FV bf bd Bx By L i day d c f wr)) (fun v _ => f.rise.hi + 1 - (intOf v).toNat)
    case atStart => exact ⟨0, Nat.zero_le _, rfl, HJZ, HTZ, HVZ0⟩
    case round =>
     obtain ⟨j, hj, rfl, HJr, HTr, HVr⟩ := hrel; clear u1 u2 u3 u4 u5 u6 u7 u8 u9; have u1 : wr.cell? ⟨bf, 1, none⟩ = some (.int .i64 i) := HVr.out.1.cell 1; have u2 : wr.cell? ⟨bf, 2, none⟩ = some (.int .i64 f.days.lo) := HVr.out.1.cell 2; have u3 : wr.cell? ⟨bf, 3, none⟩ = some (.int .i64 f.days.hi) := HVr.out.1.cell 3; have u4 : wr.cell? ⟨bf, 4, none⟩ = some (.int .i64 f.rise.lo) := HVr.out.1.cell 4; have u5 : wr.cell? ⟨bf, 5, none⟩ = some (.int .i64 f.rise.hi) := HVr.out.1.cell 5; have u6 : wr.cell? ⟨bd, 0, none⟩ = some (.int .i64 day) := HVr.out.2.1.cell 0; have u7 : wr.cell? ⟨Bx, 0, none⟩ = some (.int .i64 d) := HVr.out.2.2.1.cell 0; have u8 : wr.cell? ⟨Bx, 1, none⟩ = some (.int .u64 c) := HVr.out.2.2.1.cell 1; have u9 : wr.cell? ⟨By, 0, none⟩ = some (.func (.yield L) #[] #[]) := HVr.out.2.2.2.cell 0; have m1 : bf < wr.heap.size := HVr.out.1.lt; have m2 : bd < wr.heap.size := HVr.out.2.1.lt; have m3 : Bx < wr.heap.size := HVr.out.2.2.1.lt; have m4 : By < wr.heap.size := HVr.out.2.2.2.lt; have hr2 := HR2.out; have hr1 := HR1.out
     by_cases hlt : f.rise.lo + j ≤ f.rise.hi
     ·have hc : (f.rise.lo : Int) + j ≤ f.rise.hi := by omega
      gi_wp2
      refine HavG.wpIn_region_tail (R := RelB) [(0,false),(1,false),(2,false),(3,false),(4,false),(5,false),(6,false),(7,false),(8,false),(9,false),(10,false),(11,false)] [12, 13] (fun _ _ => False) (by kernel_rfl) (by kernel_rfl) (by kernel_rfl) (fun _ _ _ _ h => h.elim) ?_
      (apply HavG.hav_same (by exact ho rfl) (by kernel_rfl); (focus (intro wv hgv _; have hcv := cvB hgv; (try go_simp); try rfl; done)); simp only [Act.put, List.setIfInBounds_toArray, List.set_cons_succ, List.set_cons_zero])
      iterate 11 (apply HavG.hav_same (by exact ho rfl) (by kernel_rfl); (focus (intro wv hgv _; have hcv := cvB hgv; (try go_simp); try rfl; done)); simp only [Act.put, List.setIfInBounds_toArray, List.set_cons_succ, List.set_cons_zero])
      rw [shl_or c i (by omega) (by omega), show IntKind.i64.wrap ((d : Int) + ((f.rise.lo : Int) + (j : Int))) = ((d + (f.rise.lo + j) : Nat) : Int) by rw [IntKind.wrap_i64]; omega]
      refine HavG.hav_end (fun wz hgz _ => ?_)
      simp only [List.filterMap]; have hbz : Below wr.heap.size wr wz := hgz; obtain ⟨fn, tmps, assign, body, hy, hR⟩ := HY.out (o + j) _ wz ((HJ.out _).below HJr.out hbz) (by rw [List.getElem?_map, HAT.out j (by omega)]; rfl)
      dsimp only [encS, stV, stC] at hy; have HR := Lib.hid hR; have HTz : Hid (Turn S X wz) := HTr.out.trans (Turn.of_below hbz); have HVz : Hid (FV bf bd Bx By L i day d c f wz) := HVr.out.turn (Turn.of_below hbz) nf nd nx ny; have hcast : ((d + (f.rise.lo + j) : Nat) : Int) = (d : Int) + ((f.rise.lo : Int) + (j : Int)) := by omega
      rw [hcast] at hy; clear hR hgz hbz hcast
      gi_wp2_with fail
      refine ⟨rfl, HR.out.mono ?_⟩; rintro e Y2 ⟨hT2, (⟨rfl, hJ2⟩ | ⟨rfl, hJ2⟩)⟩
      ·have HJ3 : Hid (J (o + (j + 1)) Y2) := hJ2; have HT3 : Hid (Turn S X Y2) := HTz.out.trans hT2; have HV3 : Hid (FV bf bd Bx By L i day d c f Y2) := HVz.out.turn hT2 nf nd nx ny; clear hJ2 hT2
       gi_wp2
       go_roundw
       case rel => exact ⟨j + 1, by omega, by go_num, HJ3, HT3, HV3⟩
       case measure => simp [intOf]; omega
      ·have HJ3 := Lib.hid hJ2; have HT3 : Hid (Turn S X Y2) := HTz.out.trans hT2; clear hJ2 hT2
       gi_wp2
       exact ⟨HT3.out, HT.out.trans HT3.out, rfl, HJ3.out⟩
     ·have hc : ¬ (f.rise.lo : Int) + j ≤ f.rise.hi := by omega
      have hjm : j = f.rise.hi + 1 - f.rise.lo := by omega
      have HJ3 : Hid (J n wr) := by rw [HNO.out, ← hjm]; exact HJr.out
      clear hjm
      gi_wp2
      exact ⟨HTr.out, HT.out.trans HTr.out, HJ3.out⟩
 case done =>
  rintro D X rfl ⟨hT, hj⟩ hD; have HE : Hid (J n (X.putObj W0.heap.size (.deferred none))) := (HJ.out n).put _ hj (by omega) hD rfl
  have HD := Lib.hid hD; clear hT hj hD; go_wp2; refine ⟨by simp, .inl ⟨_, _, rfl, run_takeDeferred HD.out, ?_⟩⟩
  exact ⟨_, results_none rfl _ _ _, ⟨_, rfl⟩, .inl (by rw [List.length_map, hn]; exact HE.out)⟩
 case stop =>
  rintro D cd X rfl ⟨hT, rfl, hj⟩ hD; have HE : Hid (Jx (X.putObj W0.heap.size (.deferred none))) := HJX.out.put _ hj (by omega) hD rfl
  have HD := Lib.hid hD; clear hT hj hD
  gi_wp2
  refine ⟨by simp, .inl ⟨_, _, rfl, run_takeDeferred HD.out, ?_⟩⟩
  exact ⟨_, results_none rfl _ _ _, ⟨_, rfl⟩, .inr HE.out⟩
end Go.Proofs.YtgmfhngcehkibaaGreat
