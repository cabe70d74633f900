import Derived.Test.YtgmfhngcehkibaaGreatPkU12
import Derived.Laws.MakeOwn
import Derived.Laws.CopyOwn
import Derived.Deep.AppendLies
import Derived.Laws.CopyRow
set_option maxRecDepth 100000
set_option maxHeartbeats 6400000
namespace Go.Proofs.YtgmfhngcehkibaaGreat
open Go.RowKit Go.Hav Go.Shelf Go.Sq
attribute [local go_sem] Oper.semAt_some
def fillN (n k : Nat) : List Nat := (List.range n).map fun i => if i < k then i else 0
theorem fillN_zero (n : Nat) : fillN n 0 = List.replicate n 0 := by
 apply List.ext_getElem <;> simp [fillN]
theorem fillN_all (n : Nat) : fillN n n = List.range n := by
 apply List.ext_getElem
 ·simp [fillN]
 ·intro i h1 h2
  simp [fillN] at h1 ⊢
  omega
theorem fillN_set (n k : Nat) : (fillN n k).set k k = fillN n (k + 1) := by
 apply List.ext_getElem
 ·simp [fillN]
 ·intro i h1 h2; simp only [fillN, List.getElem_set, List.getElem_map, List.getElem_range]
  by_cases e : k = i
  ·subst e; simp
  ·rw [if_neg e]
   by_cases h : i < k
   ·rw [if_pos h, if_pos (by omega)]
   ·rw [if_neg h, if_neg (by omega)]
theorem fillN_len (n k : Nat) : (fillN n k).length = n := by simp [fillN]
theorem uA_size (M : List Nat) : (uA M).size = M.length := by simp [uA]
theorem uA_zero (n : Nat) : madeCells #[.int .u64 0] n = uA (List.replicate n 0) := by
 apply Array.ext'
 rw [toList_madeCells_one]
 simp [uA]
theorem Tryz.infoE82 : (Tryz.prog.info? 164).map (fun i => (i.zero, i.size, i.bytes)) = some (some (.int .u64 0), 1, 8) := by kernel_rfl
theorem make_sets (k : IntKind) (n : Nat) (hn : n ≤ 1000) (w : World) : (Instr.makeSlice 163 (.int k (n : Int)) (.int k (n : Int))).run Tryz.prog w = .ok (.slice (some ⟨w.heap.size, 0, none⟩) n n) (w.alloc (.cells (uA (List.replicate n 0)) 164)) := by
 obtain ⟨i, hi, hz0, hz1, hz2⟩ := info_parts Tryz.infoE82; have hr := run_make (P := Tryz.prog) w 163 164 i (.int .u64 0) Tryz.underlying163 hi hz0 k k n n (by omega) (by omega) (by rw [hz2]; omega) (by omega)
 simp only [Int.toNat_natCast, hz1, Nat.mul_one] at hr; rw [hr, show Value.cells (.int .u64 0) = #[.int .u64 0] from rfl, uA_zero]
theorem copy_sets {W : World} {g n b : Nat} {M old : List Nat} (hl : M.length = n) (ho : old.length = n) (hb : Blk W g 164 (uA old)) (hr : Blk W b 164 (uA M)) :
  ∃ w1, (Builtin.copy_ #[163, 163] 3 #[.slice (some ⟨g, 0, none⟩) n n, .slice (some ⟨b, 0, none⟩) n n]).run Tryz.prog W = .ok (.int .i64 n) w1 ∧ Blk w1 g 164 (uA M) ∧ Below g W w1 := by
 have h := run_copy_row (P := Tryz.prog) W 163 163 3 164 g 0 n n ⟨b, 0, none⟩ n n (uA old) 164 (M.map fun m : Nat => Value.int .u64 m) Tryz.underlying163 (by kernel_rfl) hb (by simp [hl])
  (fun j v hv => by
   have e : (uA M)[j]? = some v := by rw [uA_get]; rwa [List.getElem?_map] at hv
   have := (hr.cell j).trans e; unfold Addr.add
   split
   ·rename_i hz; subst hz; exact this
   ·simpa using this) (by simp [uA_size, hl, ho]) (by
   intro v hv; obtain ⟨x, _, rfl⟩ := List.mem_map.1 hv
   rfl)
 have e : ((uA old).toList.take 0 ++ (M.map fun m : Nat => Value.int .u64 m) ++ (uA old).toList.drop (0 + (M.map fun m : Nat => Value.int .u64 m).length)).toArray = uA M := by
  simp [uA, hl, ho]
 rw [e] at h; exact ⟨_, by rw [h, List.length_map, hl]; rfl, setRow_heap W g (uA old) (uA M) 164 (0, 0) hb, below_setRow (Below.refl _ _) (Nat.le_refl _) _⟩
theorem truths_sub {r : Riv} {s : Nat} (h : truthsA r ≠ []) : clashB r s = false := by
 obtain ⟨t, ht⟩ := List.exists_mem_of_ne_nil _ h
 have hm : t ∈ truthsP r s := by
  unfold truthsA truthsP at ht; unfold truthsP; rw [List.mem_filter] at ht ⊢; refine ⟨ht.1, ?_⟩; have h2 := ht.2; unfold rightP at h2 ⊢; rw [rightN_iff] at h2 ⊢; intro k hk; have h3 := h2 k hk; unfold okP at h3 ⊢; rw [List.getElem?_eq_getElem hk] at h3 ⊢; simp only [tb_full, hk, decide_true, Bool.true_and, Bool.not_not] at h3 ⊢; rw [h3]; simp
 unfold clashB
 cases e : truthsP r s with
 | nil => rw [e] at hm; simp at hm
 | cons a l => rfl
section
variable {B d k : Nat} {fa la : Option Addr} {fl fc ll lc : Nat} {r : Riv}
theorem idxC (hv : r.Good) (ef : ∀ args w, (callFunc 120 args).run Tryz.prog w = .ok (.enter 120 args) w) {N go b4 : Nat} {BS : List Nat} (hl : BS.length = N) (hN : N ≤ 1000) (hx : ∀ x ∈ BS, x < 1000) {w : World} (hD : GauIn w B d k fa fl fc la ll lc r) (hK : KeptOK w k r) (hb : Blk w b4 115 #[(.pointer (some ⟨d, 0, none⟩))]) (hO : Blk w go 164 (uA BS)) (hbk : b4 ≠ k) :
  Calls Tryz.prog 119 #[.slice (some ⟨go, 0, none⟩) N N, .func (.func 120) #[] #[.pointer (some ⟨b4, 0, none⟩)]] w fun e w' => e = .returned (.int .i64 (firstI (fun j => !canB r (BS.getD j 0)) N)) ∧ Turn (fun x => x = k) w w' := by
 refine (index_any (f := 120) (n := N) (c := N) (cap := #[.pointer (some ⟨b4, 0, none⟩)]) (A := some ⟨go, 0, none⟩) (xs := BS) (w := w) (S := fun x => x = k) ef hl hN (fun _ a => KeptOK a k r ∧ Turn (fun x => x = k) w a) (fun j => !canB r (BS.getD j 0)) ?_ ?_ ⟨hK, Turn.refl _ _⟩).mono ?_
 ·rintro j a ⟨hka, hta⟩ i x hx; have hne : go ≠ k := (hK.ne_blk hO).symm
  have hb := hO.turn hta (fun e => hne e)
  refine ⟨go, 0, rfl, hb.lt, fun q u hu => ?_⟩
  obtain ⟨rfl, rfl⟩ : q = 0 ∧ Value.int .u64 (x : Nat) = u := by
   cases q with
   | zero => exact ⟨rfl, by simpa [uF] using hu⟩
   | succ q => simp [uF] at hu
  rw [show 0 + (i * 1 + 0) = i by omega, hb.cell i, uA_get, hx]
  rfl
 ·rintro j x a hjx ⟨hka, hta⟩; have hg : BS.getD j 0 = x := by rw [List.getD_eq_getElem?_getD, hjx]; rfl
  have hxN := hx x (List.mem_of_getElem? hjx); show Calls Tryz.prog 120 #[.int .u64 x, .pointer (some ⟨b4, 0, none⟩)] a _
  refine (is88 hv x b4 hxN a (hD.turn hta (fun b e => by have e' : b = k := e; have := hD.hk; omega) (fun e => hD.kd (show d = k from e).symm)) hka (hb.turn hta (fun e => hbk e))).mono ?_
  rintro e w' ⟨rfl, h1, h2⟩; exact ⟨by rw [hg], ⟨h1, hta.trans (Turn.of_grownK h2)⟩, Turn.of_grownK h2⟩
 ·rintro e w' ⟨h1, h2, _⟩; exact ⟨h1, h2⟩
end
section
variable {fa la : Option Addr} {fl fc ll lc : Nat} {r : IRiv} {w : World}
theorem PClash_err (hP : RvIn w w.heap.size fa fl la ll r) (h : okR r = false) :
  Calls Tryz.prog 92 #[(.agg #[.int .i64 r.depth.lo, .int .i64 r.depth.hi, .int .i64 r.fall.lo, .int .i64 r.fall.hi, .int .i64 r.days, .slice fa fl fc, .slice la ll lc])] w fun e w' => e = .returned (.tuple #[.int .i64 (clashV r), .int .i64 (clashE r)]) ∧ Below w.heap.size w w' := by
 have hE2 : clashE r = 1 := by unfold clashE; rw [if_pos h]
 have HR : Hid (Value.tuple #[.int .i64 (clashV r), .int .i64 (clashE r)] = .tuple #[.int .i64 0, .int .i64 1]) := by
  show _ = _; unfold clashV; rw [if_neg (by rw [hE2]; omega), hE2]
  rfl
 have HP := Lib.hid hP; have HH := Lib.hid h; have EG := Lib.hid (enters_of Tryz.func114 (by kernel_rfl) rfl)
 have EG83 := Lib.hid (enters_of Tryz.func113 (by kernel_rfl) rfl)
 clear hP h hE2; refine (callsIn_wide (n := 6)).1 (callsIn_of_wp_marks Tryz.func92 rfl trivial ?_ rfl); simp only [Tryz.ntmps92, List.size_toArray, List.length_cons, List.length_nil, Nat.reduceAdd, Nat.reduceSub, Array.replicate_succ, Array.replicate_zero, List.push_toArray, List.append_toArray, List.nil_append, List.cons_append]; refine wpIn_wide.2 ?_; have hmf := hmf0; go_upto_region 2 with (fail); obtain ⟨W, hW⟩ : ∃ W, W = (w.alloc (.cells #[.int .i64 r.depth.lo, .int .i64 r.depth.hi, .int .i64 r.fall.lo, .int .i64 r.fall.hi, .int .i64 r.days, .slice fa fl fc, .slice la ll lc] 27)).alloc (.cells #[.int .i64 0] 35) := ⟨_, rfl⟩; obtain ⟨B2, hB2⟩ : ∃ B2, B2 = w.heap.size := ⟨_, rfl⟩; obtain ⟨B5, hB5⟩ : ∃ B5, B5 = w.heap.size + 1 := ⟨_, rfl⟩; have HB0 : Hid (Below w.heap.size w W) := by rw [hW]; exact ((Below.refl _ _).alloc (Nat.le_refl _) _).alloc (by simp) _
 have HXB : Hid (Blk W B2 27 #[.int .i64 r.depth.lo, .int .i64 r.depth.hi, .int .i64 r.fall.lo, .int .i64 r.fall.hi, .int .i64 r.days, .slice fa fl fc, .slice la ll lc]) := by rw [hW, hB2]; exact (Blk.new w 27 _).alloc _
 have HX5 : Hid (Blk W B5 35 #[.int .i64 0]) := by rw [hW, hB5]; exact Blk.new_ (by simp) 35 _
 have HE : Hid (w.heap.size ≤ B5 ∧ w.heap.size ≤ W.heap.size ∧ B5 < W.heap.size) := ⟨by omega, HB0.out.size, HX5.out.lt⟩
 rw [← hW, ← hB5, ← hB2]; clear hW hB2 hB5; have q0 := HXB.out.cell 0; have q1 := HXB.out.cell 1; have q2 := HXB.out.cell 2; have q3 := HXB.out.cell 3; have q4 := HXB.out.cell 4; have q5 := HXB.out.cell 5; have q6 := HXB.out.cell 6; have ql := HXB.out.lt; simp at q0 q1 q2 q3 q4 q5 q6; go_wp2_with fail
 refine (open_err 114 #[] EG.out (HP.out.grow HB0.out) (fun _ => isG_always) (.inl HH.out)).mono ?_
 rintro e w' ⟨h1, hb⟩; rw [if_pos HH.out] at h1; subst h1; clear q0 q1 q2 q3 q4 q5 q6 ql; obtain ⟨e1, e2, _⟩ := HE.out
 refine api_panic (ds := []) (B := W.heap.size) isAns113 EG83.out (Marks.nil _ _) (HX5.out.below hb HX5.out.lt) (fun w2 hk2 hfar hbel => ?_)
 have g0 := hk2.cell 0; simp at g0; refine ⟨.tuple #[.int .i64 0, .int .i64 1], by simp [results, Tryz.results92, go_sem, g0], by rw [HR.out], ?_⟩
 exact HB0.out.trans ((hb.mono e2).trans ((hbel w.heap.size e2 e1).mono (Nat.le_refl _)))
theorem PClash_go (hP : RvIn w w.heap.size fa fl la ll r) (hv : okR r = true) :
  Calls Tryz.prog 92 #[(.agg #[.int .i64 r.depth.lo, .int .i64 r.depth.hi, .int .i64 r.fall.lo, .int .i64 r.fall.hi, .int .i64 r.days, .slice fa fl fc, .slice la ll lc])] w fun e w' => e = .returned (.tuple #[.int .i64 (clashV r), .int .i64 (clashE r)]) ∧ Below w.heap.size w w' := by
 obtain ⟨nl, hnl⟩ : ∃ nl, r.nat.lk.length = nl := ⟨_, rfl⟩; have hnl5 : nl ≤ 5 := by rw [← hnl]; exact (good_of hv).ll
 obtain ⟨N, hN⟩ : ∃ N, N = 2 ^ nl := ⟨_, rfl⟩
 have hN32 : 1 ≤ N ∧ N ≤ 32 ∧ N ≠ 20 := by
  have : nl = 0 ∨ nl = 1 ∨ nl = 2 ∨ nl = 3 ∨ nl = 4 ∨ nl = 5 := by omega
  rcases this with h | h | h | h | h | h <;> subst h <;> subst hN <;> decide
 obtain ⟨F, hF⟩ : ∃ F, full r.nat.lk.length = F := ⟨_, rfl⟩; have hFN : F + 1 = N := by rw [← hF, hnl, hN]; unfold full; have := Nat.two_pow_pos nl; omega
 have hST : stableF N (List.range N) = bySize nl := by rw [hN]; exact stable_sets nl (by omega)
 have HFACT : Hid ((bySize nl).length = N ∧ ∀ x ∈ bySize nl, x < N) := by
  obtain ⟨b1, _, b3, _⟩ := bySize_facts nl (by omega)
  rw [← hN] at b1 b3; exact ⟨b1, b3⟩
 have HRES : Hid ((∃ j v : Nat, j < N ∧ (bySize nl)[j]? = some v ∧ canB r.nat v = false ∧ (∀ i x, i < j → (bySize nl)[i]? = some x → canB r.nat x = true) ∧ Value.tuple #[.int .i64 (clashV r), .int .i64 (clashE r)] = .tuple #[.int .i64 v, .int .i64 0])
   ∨ ((∀ x, canB r.nat x = true) ∧ Value.tuple #[.int .i64 (clashV r), .int .i64 (clashE r)] = .tuple #[.int .i64 0, .int .i64 4])) := by
  have hcb : ∀ x, canB r.nat x = !clashB r.nat x := fun x => can_truths (good_of hv) x
  by_cases ht : truthsA r.nat = []
  ·have hcf : clashB r.nat (full nl) = true := by unfold clashB; rw [← hnl]; unfold truthsA at ht; rw [ht]; rfl
   obtain ⟨j, k1, k2, k3, k4⟩ := first_clash hnl hnl5 rfl hcf; have hE : clashE r = 0 := by unfold clashE; rw [if_neg (by rw [hv]; simp), if_pos ht]
   refine .inl ⟨j, clashP r.nat, by rw [hN]; exact k1, k2, by rw [hcb, k3]; rfl, fun i x hi hx => by rw [hcb, k4 i x hi hx]; rfl, ?_⟩
   unfold clashV; rw [if_pos hE, hE]
   rfl
  ·have hE : clashE r = 4 := by unfold clashE; rw [if_neg (by rw [hv]; simp), if_neg ht]
   refine .inr ⟨fun x => by rw [hcb, truths_sub ht]; rfl, ?_⟩
   unfold clashV; rw [if_neg (by rw [hE]; omega), hE]
   rfl
 obtain ⟨BS, hBS⟩ : ∃ BS, BS = bySize nl := ⟨_, rfl⟩; rw [← hBS] at hST HFACT HRES; have HST := Lib.hid hST; have HFF := Lib.hid hF; have HP := Lib.hid hP; have HV := Lib.hid hv; have HGD : Hid (r.nat.Good) := good_of hv; have EG := Lib.hid (enters_of Tryz.func114 (by kernel_rfl) rfl)
 have EG83 := Lib.hid (enters_of Tryz.func113 (by kernel_rfl) rfl)
 have EG88 := Lib.hid (enters_of Tryz.func120 (by kernel_rfl) rfl)
 have HWR : Hid (IntKind.u64.wrap ((F : Int) + 1) = (N : Int)) := by show _ = _; rw [IntKind.wrap_u64]; omega
 clear hP hv hST hnl hN hF hBS; refine (callsIn_wide (n := 6)).1 (callsIn_of_wp_marks Tryz.func92 rfl trivial ?_ rfl); simp only [Tryz.ntmps92, List.size_toArray, List.length_cons, List.length_nil, Nat.reduceAdd, Nat.reduceSub, Array.replicate_succ, Array.replicate_zero, List.push_toArray, List.append_toArray, List.nil_append, List.cons_append]; refine wpIn_wide.2 ?_; have hmf := hmf0; go_upto_region 2 with (fail); obtain ⟨W, hW⟩ : ∃ W, W = (w.alloc (.cells #[.int .i64 r.depth.lo, .int .i64 r.depth.hi, .int .i64 r.fall.lo, .int .i64 r.fall.hi, .int .i64 r.days, .slice fa fl fc, .slice la ll lc] 27)).alloc (.cells #[.int .i64 0] 35) := ⟨_, rfl⟩; obtain ⟨B2, hB2⟩ : ∃ B2, B2 = w.heap.size := ⟨_, rfl⟩; obtain ⟨B5, hB5⟩ : ∃ B5, B5 = w.heap.size + 1 := ⟨_, rfl⟩; have HB0 : Hid (Below w.heap.size w W) := by rw [hW]; exact ((Below.refl _ _).alloc (Nat.le_refl _) _).alloc (by simp) _
 have HXB : Hid (Blk W B2 27 #[.int .i64 r.depth.lo, .int .i64 r.depth.hi, .int .i64 r.fall.lo, .int .i64 r.fall.hi, .int .i64 r.days, .slice fa fl fc, .slice la ll lc]) := by rw [hW, hB2]; exact (Blk.new w 27 _).alloc _
 have HX5 : Hid (Blk W B5 35 #[.int .i64 0]) := by rw [hW, hB5]; exact Blk.new_ (by simp) 35 _
 have HE : Hid (w.heap.size ≤ B5 ∧ w.heap.size ≤ W.heap.size ∧ B5 < W.heap.size) := ⟨by omega, HB0.out.size, HX5.out.lt⟩
 rw [← hW, ← hB5, ← hB2]; clear hW hB2 hB5; have q0 := HXB.out.cell 0; have q1 := HXB.out.cell 1; have q2 := HXB.out.cell 2; have q3 := HXB.out.cell 3; have q4 := HXB.out.cell 4; have q5 := HXB.out.cell 5; have q6 := HXB.out.cell 6; have ql := HXB.out.lt; simp at q0 q1 q2 q3 q4 q5 q6; go_wp2_with fail
 refine (open_ok 114 #[] EG.out (HP.out.grow HB0.out) (fun _ => isG_always) HV.out).mono ?_
 rintro e w1 ⟨d, k, rfl, hD, hK, hb0⟩; have HB1 : Hid (Below W.heap.size W w1) := hb0; have HD1 := Lib.hid hD; have HK1 := Lib.hid hK; have hkw1 : k < w1.heap.size := by obtain ⟨o, ho, _⟩ := hK.lt; exact (Array.getElem?_eq_some_iff.1 ho).1
 have hdw1 : d < w1.heap.size := hD.blk.lt; clear hD hK hb0 q0 q1 q2 q3 q4 q5 q6 ql; obtain ⟨B4, hB4⟩ : ∃ B4, B4 = w1.heap.size := ⟨_, rfl⟩; obtain ⟨w2, hw2⟩ : ∃ w2, w2 = w1.alloc (.cells #[(.pointer (some ⟨d, 0, none⟩))] 115) := ⟨_, rfl⟩; have HB2 : Hid (Below w1.heap.size w1 w2) := by rw [hw2]; exact (Below.refl _ _).alloc (Nat.le_refl _) _
 have HX4 : Hid (Blk w2 B4 115 #[(.pointer (some ⟨d, 0, none⟩))]) := by rw [hw2, hB4]; exact Blk.new w1 115 _
 have hs2 : w2.heap.size = B4 + 1 := by rw [hw2, hB4]; simp
 go_wp2_with fail; rw [← hw2, ← hB4]
 have HS2 := Lib.hid hs2; have HD2 := Lib.hid (HD1.out.grow HB2.out); have HK2 := Lib.hid (HK1.out.below HB2.out); have HB4E := Lib.hid hB4; clear hw2 hs2 hB4; refine (every_any HGD.out w2 HD2.out).mono ?_; rw [HFF.out]; rintro e wy ⟨rfl, hwy⟩; obtain rfl : w2 = wy := hwy.symm; have hwr := HWR.out; have hmk := make_sets .u64 N (by omega)
 obtain ⟨ga, hga⟩ : ∃ ga, ga = w2.heap.size := ⟨_, rfl⟩; obtain ⟨w3, hw3⟩ : ∃ w3, w3 = w2.alloc (.cells (uA (List.replicate N 0)) 164) := ⟨_, rfl⟩; have HB3 : Hid (Below w2.heap.size w2 w3) := by rw [hw3]; exact (Below.refl _ _).alloc (Nat.le_refl _) _
 have HA3 : Hid (Blk w3 ga 164 (uA (fillN N 0))) := by rw [hw3, hga, fillN_zero]; exact Blk.new w2 164 _
 clear hwy; go_wp2; rw [← hw3, ← hga]; have HGA := Lib.hid hga; clear hwr hmk hw3 hga
 go_loopw [18] (fun v wr => ∃ i : Nat, i ≤ N ∧ v = .int .i64 i ∧ Hid (Blk wr ga 164 (uA (fillN N i))) ∧ Hid (Below w2.heap.size w2 wr)) (fun v _ => N - (intOf v).toNat)
 case atStart => exact ⟨0, Nat.zero_le _, rfl, HA3, HB3⟩
 case round =>
  obtain ⟨i, hi, rfl, HAI, HBI⟩ := hrel
  by_cases hlt : i < N
  ·have l1 := HAI.out.lt; have f1 := HAI.out.frozen i
   obtain ⟨x, hx⟩ : ∃ x, wr.cell? ⟨ga, i, none⟩ = some x := by
    rw [HAI.out.cell, uA_at (by rw [fillN_len]; exact hlt)]; exact ⟨_, rfl⟩
   have hwi : IntKind.u64.wrap (i : Int) = (i : Int) := by rw [IntKind.wrap_u64]; omega
   go_wp2; clear hwi
   go_roundw
   case rel =>
    refine ⟨i + 1, by omega, by go_num, ?_, HBI.out.setCell (p := ⟨ga, i, none⟩) (by have := HGA.out; simp; omega) _⟩
    have h := HAI.out.set_ i (.int .u64 i); rw [uA_set, fillN_set] at h; exact h
   case measure => simp [intOf]; omega
  ·obtain rfl : N = i := by omega
   have HA4 : Hid (Blk wr ga 164 (uA (List.range N))) := by rw [← fillN_all]; exact HAI
   clear HAI; have hmk := make_sets .i64 N (by omega)
   obtain ⟨go, hgo⟩ : ∃ go, go = wr.heap.size := ⟨_, rfl⟩; obtain ⟨w4, hw4⟩ : ∃ w4, w4 = wr.alloc (.cells (uA (List.replicate N 0)) 164) := ⟨_, rfl⟩; have HB4 : Hid (Below wr.heap.size wr w4) := by rw [hw4]; exact (Below.refl _ _).alloc (Nat.le_refl _) _
   have HO4 : Hid (Blk w4 go 164 (uA (List.replicate N 0))) := by rw [hw4, hgo]; exact Blk.new wr 164 _
   have HA5 : Hid (Blk w4 ga 164 (uA (List.range N))) := HA4.out.below HB4.out HA4.out.lt; obtain ⟨w5, hcp, hb5, hw5⟩ := copy_sets (n := N) (M := List.range N) (old := List.replicate N 0) (by simp) (by simp) HO4.out HA5.out
   have HO5 := Lib.hid hb5; have HB5 : Hid (Below w2.heap.size w2 w5) := HBI.out.trans ((HB4.out.trans (hw5.mono (by omega))).mono HBI.out.size)
   rw [hw4, hgo] at hcp; clear hb5 hw5 hw4; go_wp2_with fail; rw [← hgo]; have hgw : w2.heap.size ≤ go := by have := HBI.out.size; omega
   clear hmk hcp hgo
   refine (sort84_any go N (List.range N) ⟨by simp, fun x hx => by have := List.mem_range.1 hx; omega⟩ hN32.1 (by omega) hN32.2.2 w5 HO5.out).mono ?_
   rw [HST.out]; rintro e w6 ⟨rfl, h3, h4⟩; have HO6 := Lib.hid h3; have HB6 : Hid (Below w2.heap.size w2 w6) := HB5.out.trans (h4.mono hgw); have HD6 := Lib.hid (HD2.out.grow HB6.out); have HK6 := Lib.hid (HK2.out.below HB6.out); have HX6 : Hid (Blk w6 B4 115 #[(.pointer (some ⟨d, 0, none⟩))]) := HX4.out.below HB6.out HX4.out.lt; have hkW : W.heap.size ≤ k := HD1.out.hk; clear h3 h4; go_wp2_with fail
   refine (idxC HGD.out EG88.out HFACT.out.1 (by omega) (fun x hx => by have := HFACT.out.2 x hx; omega) HD6.out HK6.out HX6.out HO6.out (by have := HB4E.out; omega)).mono ?_
   rcases HRES.out with ⟨j, v, k1, k2, k3, k4, k5⟩ | ⟨k1, k2⟩
   ·have hgd : ∀ i x, BS[i]? = some x → BS.getD i 0 = x := fun i x hx => by rw [List.getD_eq_getElem?_getD, hx]; rfl
    rw [firstI_at (j := j) k1 (by rw [hgd j v k2, k3]; rfl) (fun i hi => by
     obtain ⟨x, hx⟩ : ∃ x, BS[i]? = some x := ⟨_, List.getElem?_eq_getElem (by have := HFACT.out.1; omega)⟩
     rw [hgd i x hx, k4 i x hi hx]; rfl)]
    rintro e w7 ⟨rfl, ht7⟩; have HT7 := Lib.hid ht7; have HRR := Lib.hid k5; have HKV := Lib.hid k2; have hvN := HFACT.out.2 v (List.mem_of_getElem? k2); clear ht7 k2 k3 k4 k5 hgd; go_wp2_with fail; refine (must_any true 4 w7).mono ?_; rintro e w8 ⟨rfl, hw8⟩; obtain rfl : w7 = w8 := hw8.symm
    have HB7 : Hid (Below W.heap.size W w7) := (HB1.out.trans ((HB2.out.trans (HB6.out.mono HB2.out.size)).mono HB1.out.size)).trans (HT7.out.below (by have := HB1.out.size; have := HB2.out.size; have := HB6.out.size; omega) (fun b e => by have e' : b = k := e; omega))
    have HO7 : Hid (Blk w7 go 164 (uA BS)) := HO6.out.turn HT7.out (fun e => HK6.out.ne_blk HO6.out (show go = k from e).symm)
    have HY5 : Hid (Blk w7 B5 35 #[.int .i64 0]) := HX5.out.below HB7.out HX5.out.lt; have c0 : w7.cell? ⟨go, j, none⟩ = some (.int .u64 v) := by rw [HO7.out.cell j, uA_get, HKV.out]; rfl
    have l0 := HO7.out.lt; have c2 : w7.cell? ⟨B5, 0, none⟩ = some (.int .i64 0) := HY5.out.cell 0; have f2 := HY5.out.frozen 0; have l5 := HY5.out.lt; have hjN : (j : Int) < (N : Int) := by omega
    have hwv : IntKind.i64.wrap (v : Int) = (v : Int) := IntWalk.i64_in _ (by omega)
    clear hw8; go_wp2; obtain ⟨W9, hW9⟩ : ∃ W9, W9 = w7.setCell ⟨B5, 0, none⟩ (.int .i64 0) := ⟨_, rfl⟩; rw [← hW9]; have HT5 : Blk W9 B5 35 #[.int .i64 0] := by rw [hW9]; exact HY5.out.set_ 0 _
    obtain ⟨e1, e2, _⟩ := HE.out; have hB9 : Below w.heap.size w W9 := by rw [hW9]; exact setCell_below (HB0.out.trans (HB7.out.mono e2)) e1 _ _
    refine api_ret (ds := []) (B := W.heap.size) isAns113 EG83.out (Marks.nil _ _) (fun w4 hk hbel => ?_)
    have g2 := (hk _ _ _ HT5).cell 0; simp at g2; refine ⟨.tuple #[.int .i64 v, .int .i64 0], by simp [results, Tryz.results92, go_sem, g2], by rw [HRR.out], ?_⟩
    exact hB9.trans (hbel w.heap.size e2)
   ·rw [firstI_no (fun i hi => by rw [k1]; rfl)]
    rintro e w7 ⟨rfl, ht7⟩; have HT7 := Lib.hid ht7; have HRR := Lib.hid k2; clear ht7 k1 k2; go_wp2_with fail; refine (must_any false 4 w7).mono ?_; rintro e w8 ⟨rfl, hw8⟩; obtain rfl : w7 = w8 := hw8.symm
    have hb : Below W.heap.size W w7 := (HB1.out.trans ((HB2.out.trans (HB6.out.mono HB2.out.size)).mono HB1.out.size)).trans (HT7.out.below (by have := HB1.out.size; have := HB2.out.size; have := HB6.out.size; omega) (fun b e => by have e' : b = k := e; omega))
    obtain ⟨e1, e2, _⟩ := HE.out
    refine api_panic (ds := []) (B := W.heap.size) isAns113 EG83.out (Marks.nil _ _) (HX5.out.below hb HX5.out.lt) (fun w2 hk2 hfar hbel => ?_)
    have g0 := hk2.cell 0; simp at g0; refine ⟨.tuple #[.int .i64 0, .int .i64 4], by simp [results, Tryz.results92, go_sem, g0], by rw [HRR.out], ?_⟩
    exact HB0.out.trans ((hb.mono e2).trans ((hbel w.heap.size e2 e1).mono (Nat.le_refl _)))
theorem PClash_any (hP : RvIn w w.heap.size fa fl la ll r) : Calls Tryz.prog 92 #[(.agg #[.int .i64 r.depth.lo, .int .i64 r.depth.hi, .int .i64 r.fall.lo, .int .i64 r.fall.hi, .int .i64 r.days, .slice fa fl fc, .slice la ll lc])] w fun e w' => e = .returned (.tuple #[.int .i64 (clashV r), .int .i64 (clashE r)]) ∧ Below w.heap.size w w' := by
 cases hv : okR r
 ·exact PClash_err hP hv
 ·exact PClash_go hP hv
end
end Go.Proofs.YtgmfhngcehkibaaGreat
namespace Go.Proofs.YtgmfhngcehkibaaGreat
open Go.RowKit Go.Hav
theorem result_eq {α : Type} {r : Result α} {v v' : α} {w w' : World} (h : r = .ok v w) (h' : r = .ok v' w') : v = v' ∧ w = w' := by
 rw [h] at h'
 injection h' with h1 h2
 exact ⟨h1, h2⟩
theorem below_drew_alloc (w : World) (o : Obj) : Below w.heap.size w (w.drew.alloc o) := (Below.drew (Below.refl _ _)).alloc (Nat.le_refl _) _
theorem own_base {w : World} {B B' e size n : Nat} {v : Value} {xs : List Value} (h : w.ownsRow B e size v n xs) (hB : B' ≤ B) : w.ownsRow B' e size v n xs := by
 refine ⟨h.1, ?_⟩; rcases h.2 with h0 | ⟨g, cap, cur, rfl, hg, rest⟩
 ·exact .inl h0
 ·exact .inr ⟨g, cap, cur, rfl, Nat.le_trans hB hg, rest⟩
theorem append_oper {P : Program} {o : Oper} {a : Act} {s x : Operand} {t : TypeId} {v u v' : Value} {w w' : World} (ho : o.op = .call { callee := .builtin .append, args := #[s, x], argTypes := #[t, t] }) (hs : a.eval s = v) (hx : a.eval x = u)
  (hr : (Builtin.append_ #[t, t] o.type #[v, u]).run P w = .ok v' w') : (execOp a.eval o).run P w = .ok (.value v') w' := by
 unfold execOp; simp only [ho, resolve, invoke, builtin, Sem.run_bind, Sem.run_pure, Result.andThen_ok, List.map_toArray, List.map_cons, List.map_nil, hs, hx, hr]
theorem own_nil (w : World) (B e size : Nat) : w.ownsRow B e size (.slice none 0 0) 0 [] := ⟨by simp, .inl ⟨rfl, rfl⟩⟩
theorem own_blk {w : World} {B n c g : Nat} {e : TypeId} {sz : Nat} {xs : List Value} (h : w.ownsRow B e sz (.slice (some ⟨g, 0, none⟩) n c) n xs) : ∃ cur, Blk w g e cur ∧ B ≤ g ∧ n ≤ c ∧ c ≤ maxLen ∧ cur.size = c * sz ∧ cur.toList.take (n * sz) = xs := by
 rcases h.2 with ⟨h1, _⟩ | ⟨g', c', cur, h1, h2, h3, h4, h5, h6, h7⟩
 ·cases h1
 ·cases h1
  exact ⟨cur, h3, h2, h4, h5, h6, h7⟩
theorem flat_one {α : Type} (e : α → Value) (L : List α) : L.flatMap (fun x => [e x]) = L.map e := by
 induction L with
 | nil => rfl
 | cons x L ih => rw [List.flatMap_cons, ih]; rfl
def RowN {α : Type} (e : α → Value) (t : TypeId) (w : World) (A : Option Addr) (L : List α) : Prop :=
 ∀ k x, L[k]? = some x → ∃ b off cur, A = some ⟨b, off, none⟩ ∧ Blk w b t cur ∧ cur[off + k]? = some (e x)
def Rows {α : Type} (e : α → Value) (t : TypeId) (w : World) (xs : List Value) (Ls : List (List α)) : Prop :=
 xs.length = Ls.length ∧ ∀ (j : Nat) (L : List α), Ls[j]? = some L → ∃ A c, L.length ≤ c ∧ xs[j]? = some (Value.slice A L.length c) ∧ RowN e t w A L
def KT (B : Nat) (t : TypeId) (w w' : World) : Prop := Below B w w' ∧ ∀ g cs t', t' ≠ t → Blk w g t' cs → Blk w' g t' cs
section
variable {B : Nat} {t : TypeId} {w w' w2 : World}
theorem KT.refl : KT B t w w := ⟨Below.refl _ _, fun _ _ _ _ h => h⟩
theorem KT.trans (h : KT B t w w') (k : KT B t w' w2) : KT B t w w2 := ⟨h.1.trans k.1, fun g cs t' hn hb => k.2 g cs t' hn (h.2 g cs t' hn hb)⟩
theorem KT.below (hB : B ≤ w.heap.size) (h : Below w.heap.size w w') : KT B t w w' := ⟨h.mono hB, fun _ _ _ _ hb => hb.below h hb.lt⟩
theorem KT.own (hB : B ≤ w.heap.size) {v : Value} {n size : Nat} {ys : List Value} (ho : w.ownsRow B t size v n ys) (hg : w.grownBy w' v.ownBlock) : KT B t w w' :=
 ⟨(Below.refl B w).grown hg hB (fun k hk => (ho.lt k hk).1), fun g cs t' hn hb => hb.grown hg (fun e => by
  rcases ho.2 with ⟨rfl, _⟩ | ⟨g', cap, c2, rfl, _, hh, _⟩
  ·cases e
  ·injection e with e
   subst e; have := hb.symm.trans hh
   injection this with this
   injection this with _ h4 _
   exact hn h4)⟩
theorem KT.size (h : KT B t w w') : w.heap.size ≤ w'.heap.size := h.1.size
end
section
variable {α : Type} {e : α → Value} {t : TypeId} {w w' : World} {A : Option Addr} {L : List α} {xs : List Value} {Ls : List (List α)}
theorem RowN.nil : RowN e t w A [] := fun k x h => by simp at h
theorem RowN.rd (h : RowN e t w A L) : RdG (fun x => [e x]) 1 w w.heap.size A L := by
 intro k x hx; obtain ⟨b, off, cur, rfl, hb, hc⟩ := h k x hx
 refine ⟨b, off, rfl, hb.lt, fun j u hu => ?_⟩
 match j, hu with
 | 0, hu =>
  simp only [List.getElem?_cons_zero, Option.some.injEq] at hu; subst hu; rw [Nat.mul_one, Nat.add_zero, hb.cell]; exact hc
 | j + 1, hu => simp at hu
theorem RowN.below (h : RowN e t w A L) (hb : Below w.heap.size w w') : RowN e t w' A L := fun k x hx => by
 obtain ⟨b, off, cur, h1, h2, h3⟩ := h k x hx; exact ⟨b, off, cur, h1, h2.below hb h2.lt, h3⟩
theorem RowN.kt {B : Nat} {t2 : TypeId} (h : RowN e t w A L) (hk : KT B t2 w w') (hne : t ≠ t2) : RowN e t w' A L := fun k x hx => by
 obtain ⟨b, off, cur, h1, h2, h3⟩ := h k x hx; exact ⟨b, off, cur, h1, hk.2 _ _ _ hne h2, h3⟩
theorem RowN.of_own {B n : Nat} {v : Value} (h : w.ownsRow B t 1 v n (L.flatMap fun x => [e x])) (hn : L.length = n) : ∃ A c, n ≤ c ∧ v = .slice A n c ∧ RowN e t w A L ∧ (0 < n → ∃ g, A = some ⟨g, 0, none⟩ ∧ B ≤ g) := by
 rcases h.2 with ⟨rfl, rfl⟩ | ⟨g, cap, cur, rfl, hg, hh, hnc, _, _, ht⟩
 ·exact ⟨none, 0, Nat.le_refl _, rfl, by rw [List.eq_nil_of_length_eq_zero hn]; exact RowN.nil, fun h => by omega⟩
 ·refine ⟨_, _, hnc, rfl, fun k x hx => ⟨g, 0, cur, rfl, hh, ?_⟩, fun _ => ⟨g, rfl, hg⟩⟩
  have hk : k < L.length := (List.getElem?_eq_some_iff.1 hx).1
  have : (L.flatMap fun x => [e x])[k]? = some (e x) := by rw [flat_one, List.getElem?_map, hx]; rfl
  rw [← ht, Nat.mul_one, List.getElem?_take, if_pos (by omega), Array.getElem?_toList] at this
  rw [Nat.zero_add]; exact this
end
end Go.Proofs.YtgmfhngcehkibaaGreat
namespace Go.Proofs.YtgmfhngcehkibaaGreat
open Go.RowKit Go.Hav Go.Shelf Go.Sq
def TP {ι : Type} (S : Nat → Prop) (F : ι → World → Prop) (hF : ∀ i w w', Below w.heap.size w w' → F i w → F i w') : HavG.Rel where
 G w w' := Turn S w w' ∧ ∀ i, F i w → F i w'
 refl _ := ⟨Turn.refl _ _, fun _ h => h⟩
 trans h k := ⟨h.1.trans k.1, fun i x => k.2 i (h.2 i x)⟩
 drew w := ⟨Turn.of_below (Below.drew (Below.refl _ _)), fun i x => hF i w _ (Below.drew (Below.refl _ _)) x⟩
theorem own_turn {w w' : World} {B e size n : Nat} {v : Value} {xs : List Value} {S : Nat → Prop} (h : w.ownsRow B e size v n xs) (t : Turn S w w') (hs : ∀ g, v.ownBlock = some g → ¬ S g) : w'.ownsRow B e size v n xs := by
 refine ⟨h.1, ?_⟩; rcases h.2 with h0 | ⟨g, cap, cur, rfl, hg, hh, rest⟩
 ·exact .inl h0
 ·exact .inr ⟨g, cap, cur, rfl, hg, (t.block g (Array.getElem?_eq_some_iff.1 hh).1 (hs g rfl)).trans hh, rest⟩
end Go.Proofs.YtgmfhngcehkibaaGreat
namespace Go.Proofs.YtgmfhngcehkibaaGreat
open Go.RowKit Go.Hav Go.Shelf Go.Sq
theorem append_at {P : Program} {w : World} (base : Nat) (t ty e : TypeId) (i : TypeInfo) (z : Value) (size bytes : Nat) (ht : P.underlying t = some (.slice e)) (hi : P.info? e = some i) (hz : i.zero = some z)
  (hsize : i.size = size) (hby : i.bytes = bytes) (hzs : z.cells.size = size) (hsz : 0 < size) (v : Value) (n : Nat) (xs : List Value) (hown : w.ownsRow base e size v n xs)
  (a : Addr) (c : Nat) (ys : List Value) (hl : ys.length = size) (hnews : ∀ j x, ys[j]? = some x → w.cell? (a.add j) = some x) (h1 : ∀ x ∈ ys, x.oneCell' = true) (h63 : n + 1 ≤ 100000) (hb : bytes ≤ 100000) (hbase : base ≤ w.heap.size) :
  ∃ (g cp : Nat) (w' : World), (Builtin.append_ #[t, t] ty #[v, .slice (some a) 1 c]).run P w = .ok (.slice (some ⟨g, 0, none⟩) (n + 1) cp) w' ∧ w'.ownsRow base e size (.slice (some ⟨g, 0, none⟩) (n + 1) cp) (n + 1) (xs ++ ys) ∧
   Turn (fun b => v.ownBlock = some b) w w' ∧ (v.ownBlock = some g ∨ w.heap.size ≤ g) := by
 have hbb : (n + 1) * bytes ≤ 140737488355328 := Nat.le_trans (Nat.mul_le_mul h63 hb) (by decide)
 have hl1 : ys.length = 1 * i.size := by rw [hl, hsize, Nat.one_mul]
 obtain ⟨v', w', hrun, hown', hg, _⟩ := run_append_own (P := P) w base t ty e i z size bytes ht hi hz hsize hby hzs hsz v n xs hown a 1 c ys (by rw [hl, Nat.one_mul]) hnews h1 (by unfold maxLen; omega) hbb hbase
 have hT : Turn (fun b => v.ownBlock = some b) w w' := Turn.of_grown hg (fun r e _ => e)
 suffices hs : ∃ g cp, v' = .slice (some ⟨g, 0, none⟩) (n + 1) cp ∧ (v.ownBlock = some g ∨ w.heap.size ≤ g) by
  obtain ⟨g, cp, e, h⟩ := hs; subst e; exact ⟨g, cp, w', hrun, hown', hT, h⟩
 rcases hown.2 with ⟨rfl, rfl⟩ | ⟨g, cap, cur, rfl, hbg, hgg, hnc, hcm, hcs, htake⟩
 ·have hr := run_append_nil (P := P) w t ty e i z ht hi hz a 1 c ys hl1 hnews (by decide) (by decide) (by rw [hby]; omega)
  obtain ⟨rfl, _⟩ := result_eq hrun hr; exact ⟨w.heap.size, _, by rw [Nat.zero_add], .inr (Nat.le_refl _)⟩
 ·by_cases hroom : n + 1 ≤ cap
  ·have hns : n * size + size ≤ cap * size := by rw [← Nat.succ_mul]; exact Nat.mul_le_mul hroom (Nat.le_refl _)
   have hr := run_append_room (P := P) w t ty e i ht hi g n cap cur hgg a 1 c ys hl1 hnews h1 hroom (by rw [hsize, hcs, hl]; exact hns)
   obtain ⟨rfl, _⟩ := result_eq hrun hr; exact ⟨g, cap, rfl, .inl rfl⟩
  ·have holds : ∀ j x, xs[j]? = some x → w.cell? ((⟨g, 0, none⟩ : Addr).add j) = some x := hown.cells (g := g) rfl; have hr := run_append_grow (P := P) w t ty e i z ht hi hz ⟨g, 0, none⟩ n cap xs (by rw [hsize]; exact hown.1) holds a 1 c ys hl1 hnews (by omega) (by omega) (growslice_fits (by omega) (by rw [hby]; exact hbb))
   obtain ⟨rfl, _⟩ := result_eq hrun hr; exact ⟨w.heap.size, _, rfl, .inr (Nat.le_refl _)⟩
end Go.Proofs.YtgmfhngcehkibaaGreat
namespace Go.Proofs.YtgmfhngcehkibaaGreat
open Go.RowKit Go.Hav
theorem wpList_append_run {P : Program} {ops : Array Oper} {rest : List Oper} {o : Oper} {a : Act} {Q : Exit → Act → World → Prop} {w w' : World} {v u v' : Value} (hgd : o.guard = none) (s x : Operand) (t : TypeId)
  (ho : o.op = .call { callee := .builtin .append, args := #[s, x], argTypes := #[t, t] }) (hs : a.eval s = v) (hx : a.eval x = u) (hr : (Builtin.append_ #[t, t] o.type #[v, u]).run P w = .ok v' w')
  (h : wpList P ops Q rest (a.put o.dst v') w') : wpList P ops Q (o :: rest) a w :=
 wpList_plain hgd fun _ hK => by
  unfold Oper.wp; rw [append_oper ho hs hx hr]; exact hK _ _ h
theorem append_row {α : Type} {f : α → List Value} {P : Program} (t ty e : TypeId) (i : TypeInfo) (z : Value) (size bytes : Nat) (ht : P.underlying t = some (.slice e)) (hi : P.info? e = some i) (hz : i.zero = some z)
  (hsize : i.size = size) (hby : i.bytes = bytes) (hzs : z.cells.size = size) (hsz : 0 < size) (hf : ∀ x, (f x).length = size) (hone : ∀ x, ∀ u ∈ f x, u.oneCell' = true) {w : World} {B R g n c0 k c : Nat} {A : Option Addr} {xs : List Value} {l : List α} (hl : l.length = k)
  (hr : RdG f size w R A l) (hn : n + k ≤ 1000) (hby2 : bytes ≤ 1000) (hB : B ≤ w.heap.size) (hown : w.ownsRow B e size (.slice (some ⟨g, 0, none⟩) n c0) n xs) :
  ∃ v' w', (Builtin.append_ #[t, t] ty #[.slice (some ⟨g, 0, none⟩) n c0, .slice A k c]).run P w = .ok v' w' ∧ (∃ g c, v' = .slice (some ⟨g, 0, none⟩) (n + k) c) ∧ w'.ownsRow B e size v' (n + k) (xs ++ l.flatMap f) ∧ Below B w w' := by
 have hm : (n + k) * bytes ≤ 1000 * 1000 := Nat.mul_le_mul hn hby2
 have fin : ∀ a : Addr, (∀ j u, (l.flatMap f)[j]? = some u → w.cell? (a.add j) = some u) → ∃ v' w', (Builtin.append_ #[t, t] ty #[.slice (some ⟨g, 0, none⟩) n c0, .slice (some a) k c]).run P w = .ok v' w' ∧ (∃ g c, v' = .slice (some ⟨g, 0, none⟩) (n + k) c) ∧ w'.ownsRow B e size v' (n + k) (xs ++ l.flatMap f) ∧ Below B w w' := fun a ha => by
  obtain ⟨v', w', h1, h2, h3, h4⟩ := run_append_own (P := P) w B t ty e i z size bytes ht hi hz hsize hby hzs hsz _ n xs hown a k c (l.flatMap f) (by rw [flat_len f size hf, hl]) ha (fun u hu => by
   obtain ⟨x, _, hx⟩ := List.mem_flatMap.1 hu
   exact hone x u hx) (by unfold maxLen; omega) (by omega) hB
  refine ⟨v', w', h1, ?_, h2, (Below.refl B w).grown h3 hB (fun k' hk' => (hown.lt k' hk').1)⟩
  rcases h2.2 with ⟨h, _⟩ | ⟨g', c', _, h, _⟩
  ·have := (h4.1 h).1; cases this
  ·exact ⟨g', c', h⟩
 cases A with
 | some a =>
  cases l with
  | nil => exact fin a (fun j u h => by simp at h)
  | cons x l =>
   obtain ⟨b, off, he, _, _⟩ := hr 0 x rfl; obtain rfl : a = ⟨b, off, none⟩ := by injection he
   exact fin ⟨b, off, none⟩ (hr.news hf hsz)
 | none =>
  cases l with
  | nil =>
   obtain rfl : k = 0 := by simpa using hl.symm
   refine ⟨.slice (some ⟨g, 0, none⟩) n c0, w, ?_, ⟨g, c0, rfl⟩, by simpa using hown, Below.refl _ _⟩
   obtain ⟨_, _, _, hnc, _⟩ := own_blk hown; have hnc' : ¬ c0 < n := by omega
   simp [Builtin.append_, run_underlying ht, sizeOf, typeInfo, hi, Builtin.lenOf, Builtin.firstCells, storeCells, hnc']
  | cons x l =>
   obtain ⟨b, off, he, _, _⟩ := hr 0 x rfl; cases he
end Go.Proofs.YtgmfhngcehkibaaGreat
namespace Go.Proofs.YtgmfhngcehkibaaGreat
open Go.RowKit Go.Hav
def GL (B : Nat) (t : TypeId) (n : Nat) (u : Value) : HavG.Rel where
 G w w' := Below B w w' ∧ ∀ g cur, B ≤ g → Blk w g t cur → ∃ cur', Blk w' g t cur' ∧ cur'.size = cur.size ∧ ∀ i, cur'[i]? = cur[i]? ∨ (i = n ∧ cur'[i]? = some u)
 refl w := ⟨Below.refl _ _, fun g cur _ h => ⟨cur, h, rfl, fun _ => .inl rfl⟩⟩
 trans := fun h k => ⟨h.1.trans k.1, fun g cur hg hb => by
  obtain ⟨c1, h1, h2, h3⟩ := h.2 g cur hg hb; obtain ⟨c2, k1, k2, k3⟩ := k.2 g c1 hg h1
  refine ⟨c2, k1, k2.trans h2, fun i => ?_⟩
  rcases k3 i with e | e
  ·rw [e]; exact h3 i
  ·exact .inr e⟩
 drew w := ⟨Below.drew (Below.refl _ _), fun g cur _ h => ⟨cur, h, rfl, fun _ => .inl rfl⟩⟩
section
variable {α : Type} {f : α → List Value} {P : Program} {B g n c k : Nat} {t : TypeId} {u : Value} {w : World} {A : Option Addr} {R : Nat} {l : List α}
theorem append_empty (ts ty : TypeId) (i : TypeInfo) (z : Value) (bytes : Nat) (ht : P.underlying ts = some (.slice t)) (hi : P.info? t = some i) (hz : i.zero = some z) (hsize : i.size = 1) (hby : i.bytes = bytes) (hzs : z.cells.size = 1) (hf : ∀ x, (f x).length = 1)
  (hone : ∀ x, ∀ u ∈ f x, u.oneCell' = true) (hl : l.length = k) (hr : RdG f 1 w R A l) (hk : k ≤ 1000) (hby2 : bytes ≤ 1000) (hB : B ≤ w.heap.size) (hown : w.ownsRow B t 1 (.slice (some ⟨g, 0, none⟩) 0 0) 0 []) :
  ∃ v' w', (Builtin.append_ #[ts, ts] ty #[.slice (some ⟨g, 0, none⟩) 0 0, .slice A k c]).run P w = .ok v' w' ∧ (∃ g c, v' = .slice (some ⟨g, 0, none⟩) k c) ∧ w'.ownsRow B t 1 v' k (l.flatMap f) ∧ (GL B t n u).G w w' := by
 obtain ⟨v', w', h1, ⟨g', c', rfl⟩, h3, h4⟩ := append_row (P := P) ts ty t i z 1 bytes ht hi hz hsize hby hzs (by decide) hf hone (c := c) hl hr (by omega) hby2 hB hown
 rw [Nat.zero_add, List.nil_append] at h3; refine ⟨_, w', h1, ⟨g', c', by rw [Nat.zero_add]⟩, by rw [Nat.zero_add]; exact h3, ?_⟩
 obtain ⟨cur, hcur, hg, _, _, hcs, _⟩ := own_blk hown; refine ⟨h4, ?_⟩
 have key : ∀ (a : Addr), (∀ j u, (l.flatMap f)[j]? = some u → w.cell? (a.add j) = some u) → (Builtin.append_ #[ts, ts] ty #[.slice (some ⟨g, 0, none⟩) 0 0, .slice (some a) k c]).run P w = .ok (.slice (some ⟨g', 0, none⟩) (0 + k) c') w' → ∀ g cur, B ≤ g → Blk w g t cur → ∃ cur', Blk w' g t cur' ∧ cur'.size = cur.size ∧ ∀ i, cur'[i]? = cur[i]? ∨ (i = n ∧ cur'[i]? = some u) := by
  intro a hnews hrun; have hlen : (l.flatMap f).length = k * i.size := by rw [flat_len f 1 hf, hl, hsize]
  by_cases hk0 : k = 0
  ·have hfl : l.flatMap f = [] := List.eq_nil_of_length_eq_zero (by rw [hlen, hk0, Nat.zero_mul])
   have hr2 := run_append_room (P := P) w ts ty t i ht hi g 0 0 cur hcur a k c (l.flatMap f) hlen hnews (fun u hu => by rw [hfl] at hu; cases hu) (by omega) (by rw [hfl]; simp)
   obtain ⟨_, rfl⟩ := result_eq hrun hr2; intro g2 cur2 _ hb2
   by_cases e : g2 = g
   ·subst e
    have hc : cur2 = cur := by
     have h := hb2.symm.trans hcur
     injection h with h
     injection h
    subst hc
    refine ⟨_, setRow_heap w g2 cur2 _ t _ hb2, ?_, fun i => .inl ?_⟩
    ·rw [hfl]; simp
    ·rw [hfl]; simp
   ·exact ⟨cur2, (setRow_other w g g2 _ e).trans hb2, rfl, fun _ => .inl rfl⟩
  ·have hr2 := run_append_grow (P := P) w ts ty t i z ht hi hz ⟨g, 0, none⟩ 0 0 [] (by simp) (fun j x h => by simp at h) a k c (l.flatMap f) hlen hnews (by omega) (by omega) (growslice_fits (by omega) (by rw [hby, Nat.zero_add]; have := Nat.mul_le_mul hk hby2; omega))
   obtain ⟨_, rfl⟩ := result_eq hrun hr2; intro g2 cur2 _ hb2
   exact ⟨cur2, hb2.below (below_drew_alloc _ _) hb2.lt, rfl, fun _ => .inl rfl⟩
 cases A with
 | some a =>
  cases l with
  | nil => exact key a (fun j u h => by simp at h) h1
  | cons x l =>
   obtain ⟨b, off, he, _, _⟩ := hr 0 x rfl; obtain rfl : a = ⟨b, off, none⟩ := by injection he
   exact key _ (hr.news hf (by decide)) h1
 | none =>
  cases l with
  | nil =>
   obtain rfl : k = 0 := by simpa using hl.symm
   have h0 : (Builtin.append_ #[ts, ts] ty #[.slice (some ⟨g, 0, none⟩) 0 0, .slice none 0 c]).run P w = .ok (.slice (some ⟨g, 0, none⟩) 0 0) w := by
    simp [Builtin.append_, run_underlying ht, sizeOf, typeInfo, hi, Builtin.lenOf, Builtin.firstCells, storeCells]
   obtain ⟨_, rfl⟩ := result_eq h1 h0
   exact fun g2 cur2 _ hb2 => ⟨cur2, hb2, rfl, fun _ => .inl rfl⟩
  | cons x l =>
   obtain ⟨b, off, he, _, _⟩ := hr 0 x rfl; cases he
theorem append_next (ts ty : TypeId) (i : TypeInfo) (z : Value) (bytes : Nat) (ht : P.underlying ts = some (.slice t)) (hi : P.info? t = some i) (hz : i.zero = some z) (hsize : i.size = 1) (hby : i.bytes = bytes) (hzs : z.cells.size = 1)
  {v : Value} {xs : List Value} {b : Nat} (h1 : u.oneCell' = true) (hn : n ≤ 1000) (hby2 : bytes ≤ 1000) (hB : B ≤ w.heap.size) (hown : w.ownsRow B t 1 v n xs) (hnew : Blk w b t #[u]) :
  ∃ v' w', (Builtin.append_ #[ts, ts] ty #[v, .slice (some ⟨b, 0, none⟩) 1 1]).run P w = .ok v' w' ∧ w'.ownsRow B t 1 v' (n + 1) (xs ++ [u]) ∧ (GL B t n u).G w w' := by
 have hnews' : ∀ j x, ([u] : List Value)[j]? = some x → w.cell? ((⟨b, 0, none⟩ : Addr).add j) = some x := news_block hnew; have h1' : ∀ x ∈ [u], x.oneCell' = true := by simpa using h1
 have hbb : (n + 1) * bytes ≤ 140737488355328 := by have := Nat.mul_le_mul (show n + 1 ≤ 1001 by omega) hby2; omega
 obtain ⟨v', w', hrun, hown', hg, _⟩ := run_append_own (P := P) w B ts ty t i z 1 bytes ht hi hz hsize hby hzs (by decide) v n xs hown ⟨b, 0, none⟩ 1 1 [u] rfl hnews' h1' (by unfold maxLen; omega) hbb hB
 refine ⟨v', w', hrun, hown', (Below.refl B w).grown hg hB (fun k' hk' => (hown.lt k' hk').1), ?_⟩
 have key : Below w.heap.size w w' → ∀ g cur, B ≤ g → Blk w g t cur → ∃ cur', Blk w' g t cur' ∧ cur'.size = cur.size ∧ ∀ i, cur'[i]? = cur[i]? ∨ (i = n ∧ cur'[i]? = some u) :=
  fun hbl g cur _ hb => ⟨cur, hb.below hbl hb.lt, rfl, fun _ => .inl rfl⟩
 rcases hown.2 with ⟨rfl, rfl⟩ | ⟨g, cap, cur, rfl, hbg, hgg, hnc, hcm, hcs, htake⟩
 ·have hr := run_append_nil (P := P) w ts ty t i z ht hi hz ⟨b, 0, none⟩ 1 1 [u] (by rw [hsize]; rfl) hnews' (by decide) (by decide) (by rw [hby]; omega)
  obtain ⟨_, rfl⟩ := result_eq hrun hr; exact key (below_drew_alloc _ _)
 ·by_cases hroom : n + 1 ≤ cap
  ·have hfit : n * i.size + [u].length ≤ cur.size := by rw [hsize, hcs]; simp; omega
   have hr := run_append_room (P := P) w ts ty t i ht hi g n cap cur hgg ⟨b, 0, none⟩ 1 1 [u] (by rw [hsize]; rfl) hnews' h1' hroom hfit
   obtain ⟨_, rfl⟩ := result_eq hrun hr; rw [hsize, Nat.mul_one]; have hset := setRow_heap w g cur (cur.toList.take n ++ [u] ++ cur.toList.drop (n + [u].length)).toArray t _ hgg; intro g2 cur2 _ hb2
   by_cases e : g2 = g
   ·subst e
    have hc : cur2 = cur := by
     have h := hb2.symm.trans hgg
     injection h with h
     injection h
    subst hc; have hcl : cur2.toList.length = cap := by simp; omega
    refine ⟨_, hset, by simp; omega, fun i => ?_⟩
    rw [List.getElem?_toArray, List.append_assoc]; rcases Nat.lt_trichotomy i n with hi | hi | hi
    ·left
     rw [List.getElem?_append_left (by rw [List.length_take]; omega), List.getElem?_take, if_pos hi, Array.getElem?_toList]
    ·right
     subst hi; refine ⟨rfl, ?_⟩; rw [List.getElem?_append_right (by rw [List.length_take]; omega), List.length_take, Nat.min_eq_left (by omega), Nat.sub_self]
     rfl
    ·left
     rw [List.getElem?_append_right (by rw [List.length_take]; omega), List.length_take, Nat.min_eq_left (by omega), List.getElem?_append_right (by simp; omega), List.getElem?_drop]
     simp only [List.length_singleton]; rw [show n + 1 + (i - n - 1) = i by omega, Array.getElem?_toList]
   ·exact ⟨cur2, (setRow_other w g g2 _ e).trans hb2, rfl, fun _ => .inl rfl⟩
  ·have holds : ∀ j x, xs[j]? = some x → w.cell? ((⟨g, 0, none⟩ : Addr).add j) = some x := hown.cells (g := g) rfl; have hr := run_append_grow (P := P) w ts ty t i z ht hi hz ⟨g, 0, none⟩ n cap xs (by rw [hsize]; exact hown.1) holds ⟨b, 0, none⟩ 1 1 [u] (by rw [hsize]; rfl) hnews' (by omega) (by omega) (growslice_fits (by omega) (by rw [hby]; exact hbb))
   obtain ⟨_, rfl⟩ := result_eq hrun hr; exact key (below_drew_alloc _ _)
end
end Go.Proofs.YtgmfhngcehkibaaGreat
namespace Go.Proofs.YtgmfhngcehkibaaGreat
open Go.RowKit Go.Hav
section
variable {α : Type} {e : α → Value} {t : TypeId} {w w' : World} {A : Option Addr} {L : List α} {xs : List Value} {Ls : List (List α)}
theorem Rows.nil : Rows e t w [] [] := ⟨rfl, fun j L h => by simp at h⟩
theorem Rows.below (h : Rows e t w xs Ls) (hb : Below w.heap.size w w') : Rows e t w' xs Ls := ⟨h.1, fun j L hL => by
 obtain ⟨A, c, h0, h1, h2⟩ := h.2 j L hL
 exact ⟨A, c, h0, h1, h2.below hb⟩⟩
theorem Rows.kt {B : Nat} {t2 : TypeId} (h : Rows e t w xs Ls) (hk : KT B t2 w w') (hne : t ≠ t2) : Rows e t w' xs Ls := ⟨h.1, fun j L hL => by
 obtain ⟨A, c, h0, h1, h2⟩ := h.2 j L hL
 exact ⟨A, c, h0, h1, h2.kt hk hne⟩⟩
theorem Rows.snoc (h : Rows e t w xs Ls) {c : Nat} (hc : L.length ≤ c) (hr : RowN e t w A L) : Rows e t w (xs ++ [.slice A L.length c]) (Ls ++ [L]) := by
 refine ⟨by simp [h.1], fun j M hM => ?_⟩
 rcases Nat.lt_or_ge j Ls.length with hj | hj
 ·rw [List.getElem?_append_left hj] at hM; rw [List.getElem?_append_left (by rw [h.1]; exact hj)]
  exact h.2 j M hM
 ·rw [List.getElem?_append_right hj] at hM; rw [List.getElem?_append_right (by rw [h.1]; exact hj), h.1]
  have hj0 : j - Ls.length = 0 := by
   rcases Nat.eq_zero_or_pos (j - Ls.length) with h | h
   ·exact h
   ·rw [List.getElem?_eq_none (by simp; omega)] at hM
    cases hM
  rw [hj0] at hM ⊢; obtain rfl : L = M := by simpa using hM
  exact ⟨A, c, hc, rfl, hr⟩
end
end Go.Proofs.YtgmfhngcehkibaaGreat
namespace Go.Proofs.YtgmfhngcehkibaaGreat
open Go.RowKit Go.Hav
def nV (n : Nat) : Value := .int .i64 n
structure Tr.Small (t : Tr) (n : Nat) : Prop where
 d : t.d ≤ 60
 by_ : t.by_ ≤ 60
 n3 : n ≤ 3
 ds : t.ds.length = n
 rs : t.rs.length = n
 hd : ∀ x ∈ t.ds, x ≤ 60
 hr : ∀ x ∈ t.rs, x ≤ 60
structure TrIn (w : World) (t : Tr) (dA rA : Option Addr) : Prop where
 ds : RowN nV 3 w dA t.ds
 rs : RowN nV 3 w rA t.rs
theorem TrIn.below {w w' : World} {t : Tr} {dA rA : Option Addr} (h : TrIn w t dA rA) (hb : Below w.heap.size w w') : TrIn w' t dA rA := ⟨h.ds.below hb, h.rs.below hb⟩
theorem TrIn.kt {w w' : World} {t : Tr} {dA rA : Option Addr} {B : Nat} {ty : TypeId} (h : TrIn w t dA rA) (hk : KT B ty w w') (hne : 3 ≠ ty) : TrIn w' t dA rA := ⟨h.ds.kt hk hne, h.rs.kt hk hne⟩
theorem RowN.at_ {w : World} {A : Option Addr} {l : List Nat} (h : RowN nV 3 w A l) {k x : Nat} (hx : l[k]? = some x) : ∃ b off, A = some ⟨b, off, none⟩ ∧ b < w.heap.size ∧ w.cell? ⟨b, off + k, none⟩ = some (.int .i64 x) := by
 obtain ⟨b, off, cur, h1, h2, h3⟩ := h k x hx; exact ⟨b, off, h1, h2.lt, by rw [h2.cell]; exact h3⟩
theorem riseN_bd {t : Tr} {n : Nat} (h : t.Small n) (day : Nat) : ∀ i, riseN t.dsF t.rsF day i ≤ 60 * i
 | 0 => by simp [riseN]
 | i + 1 => by
  have h1 := riseN_bd h day i
  have hr : t.rsF i ≤ 60 := by
   unfold Tr.rsF; rw [List.getD_eq_getElem?_getD]
   cases hx : t.rs[i]? with
   | none => simp
   | some x => exact h.hr x (List.mem_of_getElem? hx)
  rw [riseN]
  split <;> omega
theorem atF_bd {t : Tr} {n : Nat} (h : t.Small n) : ∀ day, atF t.d t.by_ n t.dsF t.rsF day ≤ 60 + 180 * day
 | 0 => by have := h.d; rw [atF]; omega
 | k + 1 => by
  have h1 := atF_bd h k; have h2 := riseN_bd h (k + 1) n; have h3 := h.n3; rw [atF]
  omega
end Go.Proofs.YtgmfhngcehkibaaGreat
namespace Go.Proofs.YtgmfhngcehkibaaGreat
open Go.RowKit Go.Hav Go.Shelf Go.Sq
attribute [local go_sem] Oper.semAt_some
theorem rin_any (n lo hi : Int) (w : World) : Calls Tryz.prog 106 #[.int .i64 n, .int .i64 lo, .int .i64 hi] w fun e w' => e = .returned (.bool (inB n lo hi)) ∧ w' = w := by
 cases h : decide (lo ≤ n)
 ·have hr : inB n lo hi = false := by simp [inB, h]
  go_enter Tryz.func106, Tryz.ntmps106
  go_wp2; go_ret
  exact ⟨ret_bool hr.symm, rfl⟩
 ·have hr : inB n lo hi = decide (n ≤ hi) := by simp [inB, h]
  go_enter Tryz.func106, Tryz.ntmps106
  go_wp2; go_ret
  exact ⟨ret_bool hr.symm, rfl⟩
theorem rspan_any (s : ISp) (low high much : Int) (h0 : 0 ≤ low) (h1 : high ≤ 1000) (w : World) :
  Calls Tryz.prog 105 #[.agg #[.int .i64 s.lo, .int .i64 s.hi], .int .i64 low, .int .i64 high, .int .i64 much] w fun e w' => e = .returned (.bool (spB s low high much)) ∧ Below w.heap.size w w' := by
 obtain ⟨lo, hi⟩ := s
 by_cases q1 : low ≤ lo
 case neg =>
  have hb : spB ⟨lo, hi⟩ low high much = false := by unfold spB; simp [q1]
  rw [hb]; clear hb
  go_enter Tryz.func105, Tryz.ntmps105
  go_wp2; go_ret
  exact ⟨rfl, (by repeat (first | exact Below.refl _ _ | assumption | refine Below.drew ?_ | refine below_drewN ?_ _ | refine Below.alloc ?_ (by (try simp) <;> omega) _ | refine Below.setCell ?_ (by (try simp) <;> omega) _ | refine Below.trans ?_ (Below.mono (by assumption) (by (try simp) <;> omega))))⟩
 by_cases q2 : lo ≤ hi
 case neg =>
  have hb : spB ⟨lo, hi⟩ low high much = false := by unfold spB; simp [q2]
  rw [hb]; clear hb
  go_enter Tryz.func105, Tryz.ntmps105
  go_wp2; go_ret
  exact ⟨rfl, (by repeat (first | exact Below.refl _ _ | assumption | refine Below.drew ?_ | refine below_drewN ?_ _ | refine Below.alloc ?_ (by (try simp) <;> omega) _ | refine Below.setCell ?_ (by (try simp) <;> omega) _ | refine Below.trans ?_ (Below.mono (by assumption) (by (try simp) <;> omega))))⟩
 by_cases q3 : hi ≤ high
 case neg =>
  have hb : spB ⟨lo, hi⟩ low high much = false := by unfold spB; simp [q3]
  rw [hb]; clear hb
  go_enter Tryz.func105, Tryz.ntmps105
  go_wp2; go_ret
  exact ⟨rfl, (by repeat (first | exact Below.refl _ _ | assumption | refine Below.drew ?_ | refine below_drewN ?_ _ | refine Below.alloc ?_ (by (try simp) <;> omega) _ | refine Below.setCell ?_ (by (try simp) <;> omega) _ | refine Below.trans ?_ (Below.mono (by assumption) (by (try simp) <;> omega))))⟩
 have p1 : 0 ≤ hi - lo := by omega
 have p2 : hi - lo ≤ 1000 := by omega
 by_cases q4 : hi - lo ≤ much
 ·have hb : spB ⟨lo, hi⟩ low high much = true := spB_iff.2 ⟨q1, q2, q3, q4⟩; rw [hb]; clear hb
  go_enter Tryz.func105, Tryz.ntmps105
  go_wp2; go_ret
  exact ⟨rfl, (by repeat (first | exact Below.refl _ _ | assumption | refine Below.drew ?_ | refine below_drewN ?_ _ | refine Below.alloc ?_ (by (try simp) <;> omega) _ | refine Below.setCell ?_ (by (try simp) <;> omega) _ | refine Below.trans ?_ (Below.mono (by assumption) (by (try simp) <;> omega))))⟩
 ·have hb : spB ⟨lo, hi⟩ low high much = false := by unfold spB; simp [q4]
  rw [hb]; clear hb
  go_enter Tryz.func105, Tryz.ntmps105
  go_wp2; go_ret
  exact ⟨rfl, (by repeat (first | exact Below.refl _ _ | assumption | refine Below.drew ?_ | refine below_drewN ?_ _ | refine Below.alloc ?_ (by (try simp) <;> omega) _ | refine Below.setCell ?_ (by (try simp) <;> omega) _ | refine Below.trans ?_ (Below.mono (by assumption) (by (try simp) <;> omega))))⟩
theorem pow_le60 (k : Nat) (h : k ≤ 40) : (1 : Int) ≤ 2 ^ k ∧ (2 : Int) ^ k ≤ 1099511627776 := by
 have h1 := Nat.pow_le_pow_right (n := 2) (by omega) h
 have h2 := pow_cast k; have h3 := Nat.two_pow_pos k
 omega
theorem rpower_any (n : Nat) (hn : n ≤ 40) (w : World) : Calls Tryz.prog 128 #[.int .i64 n] w fun e w' => e = .returned (.int .i64 (2 ^ n)) ∧ w' = w := by
 go_enter Tryz.func128, Tryz.ntmps128
 go_wp2
 go_loopw [3, 4] (fun x i wr => ∃ (k : Nat) (t : Int), k ≤ n ∧ i = .int .i64 k ∧ x = .int .i64 t ∧ Hid (t = 2 ^ k) ∧ wr = w) (fun _ i _ => n - (intOf i).toNat)
 case atStart => exact ⟨0, 1, Nat.zero_le _, rfl, rfl, rfl, rfl⟩
 case round =>
  obtain ⟨k, t, hk, rfl, rfl, HT, rfl⟩ := hrel; have hb := pow_le60 k (by omega)
  rw [← HT.out] at hb; obtain ⟨hb0, hb1⟩ := hb
  by_cases hlt : k < n
  ·go_wp2; go_roundw
   case rel => exact ⟨k + 1, 2 * t, by omega, by go_num, rfl, by show _ = _; rw [HT.out]; exact (Int.pow_succ' 2 k).symm, trivial⟩
   case measure => simp [intOf]; omega
  ·obtain rfl : n = k := by omega
   go_wp2; go_ret
   exact ⟨ret_int HT.out, rfl⟩
theorem tb_quo (s k : Nat) : (((s : Int) / 2 ^ k) % 2 == 1) = s.testBit k := by
 have h1 : (s : Int) / 2 ^ k = ((s / 2 ^ k : Nat) : Int) := by rw [← pow_cast k]; rfl
 rw [h1]; have h2 : ((s / 2 ^ k : Nat) : Int) % 2 = ((s / 2 ^ k % 2 : Nat) : Int) := rfl; rw [h2]; have h3 : s.testBit k = decide (s / 2 ^ k % 2 = 1) := by rw [Nat.testBit_eq_decide_div_mod_eq]
 rw [h3]
 by_cases h : s / 2 ^ k % 2 = 1
 ·simp [h]
 ·have : s / 2 ^ k % 2 = 0 := by omega
  simp [this]
theorem rhas_any (s k : Nat) (hs : s < 4611686018427387904) (hk : k ≤ 40) (w : World) : Calls Tryz.prog 97 #[.int .i64 s, .int .i64 k] w fun e w' => e = .returned (.bool (s.testBit k)) ∧ w' = w := by
 have htb := tb_quo s k; obtain ⟨hp0, hp1⟩ := pow_le60 k hk; have hq0 : (0 : Int) ≤ s / 2 ^ k := Int.ediv_nonneg (by omega) (by omega)
 have hq1 : (s : Int) / 2 ^ k ≤ s := Int.ediv_le_self _ (by omega)
 have HT : Hid (((wrap64 ((s : Int) / 2 ^ k)).tmod 2 == 1) = s.testBit k) := by
  show _ = _; have h : wrap64 ((s : Int) / 2 ^ k) = s / 2 ^ k := by unfold wrap64; omega
  rw [h, Int.tmod_eq_emod_of_nonneg hq0, htb]
 clear htb hq0 hq1
 go_enter Tryz.func97, Tryz.ntmps97
 go_wp2_with fail; refine (rpower_any k hk w).mono ?_
 rintro e w' ⟨rfl, rfl⟩; go_wp2; go_ret
 exact ⟨ret_bool HT.out, rfl⟩
section
variable {fa la : Option Addr} {fl fc ll lc : Nat} {r : IRiv} {w : World}
theorem rday_any (n : Int) (w : World) : Calls Tryz.prog 107 #[(.agg #[.int .i64 r.depth.lo, .int .i64 r.depth.hi, .int .i64 r.fall.lo, .int .i64 r.fall.hi, .int .i64 r.days, .slice fa fl fc, .slice la ll lc]), .int .i64 n] w fun e w' => e = .returned (.bool (isDayB r n)) ∧ Below w.heap.size w w' := by
 go_enter Tryz.func107, Tryz.ntmps107
 go_wp2_with fail; refine (rin_any _ _ _ _).mono ?_
 rintro e w' ⟨rfl, rfl⟩; go_wp2; go_ret
 exact ⟨rfl, (by repeat (first | exact Below.refl _ _ | assumption | refine Below.drew ?_ | refine below_drewN ?_ _ | refine Below.alloc ?_ (by (try simp) <;> omega) _ | refine Below.setCell ?_ (by (try simp) <;> omega) _ | refine Below.trans ?_ (Below.mono (by assumption) (by (try simp) <;> omega))))⟩
end
end Go.Proofs.YtgmfhngcehkibaaGreat
