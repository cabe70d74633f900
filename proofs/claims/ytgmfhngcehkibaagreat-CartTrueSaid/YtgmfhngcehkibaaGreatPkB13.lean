/- The walk of Clash, for every river. Rows of one's own, and rows of numbers. Rows of numbers in memory, rows of rows: what an append keeps and makes. A truth of small numbers, whose lists lie in memory. The walks of the reference's small functions, of River (is a river valid?), of the law's long. The walk of the reference's River: is a river valid? No condition. The walk of the reference's lists: all lists with a number of each span; conditions: there are few spans, and they are narrow. The walks of the reference's In (how deep is a river on a day) and right (are the looks of a set right)? Conditions: the truth's numbers are small; the river is valid. One more step for regions that draw their order: an operation that makes a block; where the block lies is bound. The walks of the reference's small functions: Every, Truths, check, told, IsFresh, Draws, hull. The carts, in plain Lean: what i. Condition: what the statements say. -/
import Derived.Test.YtgmfhngcehkibaaGreatPkB12
import Derived.Laws.MakeOwn
import Derived.Laws.CopyOwn
import Derived.Deep.AppendLies
import Derived.Laws.CopyRow
set_option maxRecDepth 100000
set_option maxHeartbeats 6400000
namespace Go.Proofs.YtgmfhngcehkibaaGreat
open Go.RowKit Go.Hav Go.Shelf Go.Sq
attribute [local go_sem] Oper.semAt_some
def fillN (n k : Nat) : List Nat := (List.range n).map fun i => if i < k then i else 0
theorem fillN_zero (n : Nat) : fillN n 0 = List.replicate n 0 := by
 apply List.ext_getElem <;> simp [fillN]
theorem fillN_all (n : Nat) : fillN n n = List.range n := by
 apply List.ext_getElem
 ·simp [fillN]
 ·intro i h1 h2
  simp [fillN] at h1 ⊢
  omega
theorem fillN_set (n k : Nat) : (fillN n k).set k k = fillN n (k + 1) := by
 apply List.ext_getElem
 ·simp [fillN]
 ·intro i h1 h2; simp only [fillN, List.getElem_set, List.getElem_map, List.getElem_range]
  by_cases e : k = i
  ·subst e; simp
  ·rw [if_neg e]
   by_cases h : i < k
   ·rw [if_pos h, if_pos (by omega)]
   ·rw [if_neg h, if_neg (by omega)]
theorem fillN_len (n k : Nat) : (fillN n k).length = n := by simp [fillN]
theorem uA_size (M : List Nat) : (uA M).size = M.length := by simp [uA]
theorem uA_zero (n : Nat) : madeCells #[.int .u64 0] n = uA (List.replicate n 0) := by
 apply Array.ext'
 rw [toList_madeCells_one]
 simp [uA]
theorem Tryz.infoE82 : (Tryz.prog.info? 164).map (fun i => (i.zero, i.size, i.bytes)) = some (some (.int .u64 0), 1, 8) := by kernel_rfl
theorem make_sets (k : IntKind) (n : Nat) (hn : n ≤ 1000) (w : World) : (Instr.makeSlice 163 (.int k (n : Int)) (.int k (n : Int))).run Tryz.prog w = .ok (.slice (some ⟨w.heap.size, 0, none⟩) n n) (w.alloc (.cells (uA (List.replicate n 0)) 164)) := by
 obtain ⟨i, hi, hz0, hz1, hz2⟩ := info_parts Tryz.infoE82; have hr := run_make (P := Tryz.prog) w 163 164 i (.int .u64 0) Tryz.underlying163 hi hz0 k k n n (by omega) (by omega) (by rw [hz2]; omega) (by omega)
 simp only [Int.toNat_natCast, hz1, Nat.mul_one] at hr; rw [hr, show Value.cells (.int .u64 0) = #[.int .u64 0] from rfl, uA_zero]
theorem copy_sets {W : World} {g n b : Nat} {M old : List Nat} (hl : M.length = n) (ho : old.length = n) (hb : Blk W g 164 (uA old)) (hr : Blk W b 164 (uA M)) :
  ∃ w1, (Builtin.copy_ #[163, 163] 3 #[.slice (some ⟨g, 0, none⟩) n n, .slice (some ⟨b, 0, none⟩) n n]).run Tryz.prog W = .ok (.int .i64 n) w1 ∧ Blk w1 g 164 (uA M) ∧ Below g W w1 := by
 have h := run_copy_row (P := Tryz.prog) W 163 163 3 164 g 0 n n ⟨b, 0, none⟩ n n (uA old) 164 (M.map fun m : Nat => Value.int .u64 m) Tryz.underlying163 (by kernel_rfl) hb (by simp [hl])
  (fun j v hv => by
   have e : (uA M)[j]? = some v := by rw [uA_get]; rwa [List.getElem?_map] at hv
   have := (hr.cell j).trans e; unfold Addr.add
   split
   ·rename_i hz; subst hz; exact this
   ·simpa using this) (by simp [uA_size, hl, ho]) (by
   intro v hv; obtain ⟨x, _, rfl⟩ := List.mem_map.1 hv
   rfl)
 have e : ((uA old).toList.take 0 ++ (M.map fun m : Nat => Value.int .u64 m) ++ (uA old).toList.drop (0 + (M.map fun m : Nat => Value.int .u64 m).length)).toArray = uA M := by
  simp [uA, hl, ho]
 rw [e] at h; exact ⟨_, by rw [h, List.length_map, hl]; rfl, setRow_heap W g (uA old) (uA M) 164 (0, 0) hb, below_setRow (Below.refl _ _) (Nat.le_refl _) _⟩
theorem truths_sub {r : Riv} {s : Nat} (h : truthsA r ≠ []) : clashB r s = false := by
 obtain ⟨t, ht⟩ := List.exists_mem_of_ne_nil _ h
 have hm : t ∈ truthsP r s := by
  unfold truthsA truthsP at ht; unfold truthsP; rw [List.mem_filter] at ht ⊢; refine ⟨ht.1, ?_⟩; have h2 := ht.2; unfold rightP at h2 ⊢; rw [rightN_iff] at h2 ⊢; intro k hk; have h3 := h2 k hk; unfold okP at h3 ⊢; rw [List.getElem?_eq_getElem hk] at h3 ⊢; simp only [tb_full, hk, decide_true, Bool.true_and, Bool.not_not] at h3 ⊢; rw [h3]; simp
 unfold clashB
 cases e : truthsP r s with
 | nil => rw [e] at hm; simp at hm
 | cons a l => rfl
section
variable {B d k : Nat} {fa la : Option Addr} {fl fc ll lc : Nat} {r : Riv}
theorem idxC (hv : r.Good) (ef : ∀ args w, (callFunc 120 args).run Tryz.prog w = .ok (.enter 120 args) w) {N go b4 : Nat} {BS : List Nat} (hl : BS.length = N) (hN : N ≤ 1000) (hx : ∀ x ∈ BS, x < 1000) {w : World} (hD : GauIn w B d k fa fl fc la ll lc r) (hK : KeptOK w k r) (hb : Blk w b4 115 #[(.pointer (some ⟨d, 0, none⟩))]) (hO : Blk w go 164 (uA BS)) (hbk : b4 ≠ k) :
  Calls Tryz.prog 119 #[.slice (some ⟨go, 0, none⟩) N N, .func (.func 120) #[] #[.pointer (some ⟨b4, 0, none⟩)]] w fun e w' => e = .returned (.int .i64 (firstI (fun j => !canB r (BS.getD j 0)) N)) ∧ Turn (fun x => x = k) w w' := by
 refine (index_any (f := 120) (n := N) (c := N) (cap := #[.pointer (some ⟨b4, 0, none⟩)]) (A := some ⟨go, 0, none⟩) (xs := BS) (w := w) (S := fun x => x = k) ef hl hN (fun _ a => KeptOK a k r ∧ Turn (fun x => x = k) w a) (fun j => !canB r (BS.getD j 0)) ?_ ?_ ⟨hK, Turn.refl _ _⟩).mono ?_
 ·rintro j a ⟨hka, hta⟩ i x hx; have hne : go ≠ k := (hK.ne_blk hO).symm
  have hb := hO.turn hta (fun e => hne e)
  refine ⟨go, 0, rfl, hb.lt, fun q u hu => ?_⟩
  obtain ⟨rfl, rfl⟩ : q = 0 ∧ Value.int .u64 (x : Nat) = u := by
   cases q with
   | zero => exact ⟨rfl, by simpa [uF] using hu⟩
   | succ q => simp [uF] at hu
  rw [show 0 + (i * 1 + 0) = i by omega, hb.cell i, uA_get, hx]
  rfl
 ·rintro j x a hjx ⟨hka, hta⟩; have hg : BS.getD j 0 = x := by rw [List.getD_eq_getElem?_getD, hjx]; rfl
  have hxN := hx x (List.mem_of_getElem? hjx); show Calls Tryz.prog 120 #[.int .u64 x, .pointer (some ⟨b4, 0, none⟩)] a _
  refine (is88 hv x b4 hxN a (hD.turn hta (fun b e => by have e' : b = k := e; have := hD.hk; omega) (fun e => hD.kd (show d = k from e).symm)) hka (hb.turn hta (fun e => hbk e))).mono ?_
  rintro e w' ⟨rfl, h1, h2⟩; exact ⟨by rw [hg], ⟨h1, hta.trans (Turn.of_grownK h2)⟩, Turn.of_grownK h2⟩
 ·rintro e w' ⟨h1, h2, _⟩; exact ⟨h1, h2⟩
end
section
variable {fa la : Option Addr} {fl fc ll lc : Nat} {r : IRiv} {w : World}
theorem PClash_err (hP : RvIn w w.heap.size fa fl la ll r) (h : okR r = false) :
  Calls Tryz.prog 92 #[(.agg #[.int .i64 r.depth.lo, .int .i64 r.depth.hi, .int .i64 r.fall.lo, .int .i64 r.fall.hi, .int .i64 r.days, .slice fa fl fc, .slice la ll lc])] w fun e w' => e = .returned (.tuple #[.int .i64 (clashV r), .int .i64 (clashE r)]) ∧ Below w.heap.size w w' := by
 have hE2 : clashE r = 1 := by unfold clashE; rw [if_pos h]
 have HR : Hid (Value.tuple #[.int .i64 (clashV r), .int .i64 (clashE r)] = .tuple #[.int .i64 0, .int .i64 1]) := by
  show _ = _; unfold clashV; rw [if_neg (by rw [hE2]; omega), hE2]
  rfl
 have HP := Lib.hid hP; have HH := Lib.hid h; have EG := Lib.hid (enters_of Tryz.func114 (by kernel_rfl) rfl)
 have EG83 := Lib.hid (enters_of Tryz.func113 (by kernel_rfl) rfl)
 clear hP h hE2; refine (callsIn_wide (n := 6)).1 (callsIn_of_wp_marks Tryz.func92 rfl trivial ?_ rfl); simp only [Tryz.ntmps92, List.size_toArray, List.length_cons, List.length_nil, Nat.reduceAdd, Nat.reduceSub, Array.replicate_succ, Array.replicate_zero, List.push_toArray, List.append_toArray, List.nil_append, List.cons_append]; refine wpIn_wide.2 ?_; have hmf := hmf0; go_upto_region 2 with (fail); obtain ⟨W, hW⟩ : ∃ W, W = (w.alloc (.cells #[.int .i64 r.depth.lo, .int .i64 r.depth.hi, .int .i64 r.fall.lo, .int .i64 r.fall.hi, .int .i64 r.days, .slice fa fl fc, .slice la ll lc] 27)).alloc (.cells #[.int .i64 0] 35) := ⟨_, rfl⟩; obtain ⟨B2, hB2⟩ : ∃ B2, B2 = w.heap.size := ⟨_, rfl⟩; obtain ⟨B5, hB5⟩ : ∃ B5, B5 = w.heap.size + 1 := ⟨_, rfl⟩; have HB0 : Hid (Below w.heap.size w W) := by rw [hW]; exact ((Below.refl _ _).alloc (Nat.le_refl _) _).alloc (by simp) _
 have HXB : Hid (Blk W B2 27 #[.int .i64 r.depth.lo, .int .i64 r.depth.hi, .int .i64 r.fall.lo, .int .i64 r.fall.hi, .int .i64 r.days, .slice fa fl fc, .slice la ll lc]) := by rw [hW, hB2]; exact (Blk.new w 27 _).alloc _
 have HX5 : Hid (Blk W B5 35 #[.int .i64 0]) := by rw [hW, hB5]; exact Blk.new_ (by simp) 35 _
 have HE : Hid (w.heap.size ≤ B5 ∧ w.heap.size ≤ W.heap.size ∧ B5 < W.heap.size) := ⟨by omega, HB0.out.size, HX5.out.lt⟩
 rw [← hW, ← hB5, ← hB2]; clear hW hB2 hB5; have q0 := HXB.out.cell 0; have q1 := HXB.out.cell 1; have q2 := HXB.out.cell 2; have q3 := HXB.out.cell 3; have q4 := HXB.out.cell 4; have q5 := HXB.out.cell 5; have q6 := HXB.out.cell 6; have ql := HXB.out.lt; simp at q0 q1 q2 q3 q4 q5 q6; go_wp2_with fail
 refine (open_err 114 #[] EG.out (HP.out.grow HB0.out) (fun _ => isG_always) (.inl HH.out)).mono ?_
 rintro e w' ⟨h1, hb⟩; rw [if_pos HH.out] at h1; subst h1; clear q0 q1 q2 q3 q4 q5 q6 ql; obtain ⟨e1, e2, _⟩ := HE.out
 refine api_panic (ds := []) (B := W.heap.size) isAns113 EG83.out (Marks.nil _ _) (HX5.out.below hb HX5.out.lt) (fun w2 hk2 hfar hbel => ?_)
 have g0 := hk2.cell 0; simp at g0; refine ⟨.tuple #[.int .i64 0, .int .i64 1], by simp [results, Tryz.results92, go_sem, g0], by rw [HR.out], ?_⟩
 exact HB0.out.trans ((hb.mono e2).trans ((hbel w.heap.size e2 e1).mono (Nat.le_refl _)))
theorem PClash_go (hP : RvIn w w.heap.size fa fl la ll r) (hv : okR r = true) :
  Calls Tryz.prog 92 #[(.agg #[.int .i64 r.depth.lo, .int .i64 r.depth.hi, .int .i64 r.fall.lo, .int .i64 r.fall.hi, .int .i64 r.days, .slice fa fl fc, .slice la ll lc])] w fun e w' => e = .returned (.tuple #[.int .i64 (clashV r), .int .i64 (clashE r)]) ∧ Below w.heap.size w w' := by
 obtain ⟨nl, hnl⟩ : ∃ nl, r.nat.lk.length = nl := ⟨_, rfl⟩; have hnl5 : nl ≤ 5 := by rw [← hnl]; exact (good_of hv).ll
 obtain ⟨N, hN⟩ : ∃ N, N = 2 ^ nl := ⟨_, rfl⟩
 have hN32 : 1 ≤ N ∧ N ≤ 32 ∧ N ≠ 20 := by
  have : nl = 0 ∨ nl = 1 ∨ nl = 2 ∨ nl = 3 ∨ nl = 4 ∨ nl = 5 := by omega
  rcases this with h | h | h | h | h | h <;> subst h <;> subst hN <;> decide
 obtain ⟨F, hF⟩ : ∃ F, full r.nat.lk.length = F := ⟨_, rfl⟩; have hFN : F + 1 = N := by rw [← hF, hnl, hN]; unfold full; have := Nat.two_pow_pos nl; omega
 have hST : stableF N (List.range N) = bySize nl := by rw [hN]; exact stable_sets nl (by omega)
 have HFACT : Hid ((bySize nl).length = N ∧ ∀ x ∈ bySize nl, x < N) := by
  obtain ⟨b1, _, b3, _⟩ := bySize_facts nl (by omega)
  rw [← hN] at b1 b3; exact ⟨b1, b3⟩
 have HRES : Hid ((∃ j v : Nat, j < N ∧ (bySize nl)[j]? = some v ∧ canB r.nat v = false ∧ (∀ i x, i < j → (bySize nl)[i]? = some x → canB r.nat x = true) ∧ Value.tuple #[.int .i64 (clashV r), .int .i64 (clashE r)] = .tuple #[.int .i64 v, .int .i64 0])
   ∨ ((∀ x, canB r.nat x = true) ∧ Value.tuple #[.int .i64 (clashV r), .int .i64 (clashE r)] = .tuple #[.int .i64 0, .int .i64 4])) := by
  have hcb : ∀ x, canB r.nat x = !clashB r.nat x := fun x => can_truths (good_of hv) x
  by_cases ht : truthsA r.nat = []
  ·have hcf : clashB r.nat (full nl) = true := by unfold clashB; rw [← hnl]; unfold truthsA at ht; rw [ht]; rfl
   obtain ⟨j, k1, k2, k3, k4⟩ := first_clash hnl hnl5 rfl hcf; have hE : clashE r = 0 := by unfold clashE; rw [if_neg (by rw [hv]; simp), if_pos ht]
   refine .inl ⟨j, clashP r.nat, by rw [hN]; exact k1, k2, by rw [hcb, k3]; rfl, fun i x hi hx => by rw [hcb, k4 i x hi hx]; rfl, ?_⟩
   unfold clashV; rw [if_pos hE, hE]
   rfl
  ·have hE : clashE r = 4 := by unfold clashE; rw [if_neg (by rw [hv]; simp), if_neg ht]
   refine .inr ⟨fun x => by rw [hcb, truths_sub ht]; rfl, ?_⟩
   unfold clashV; rw [if_neg (by rw [hE]; omega), hE]
   rfl
 obtain ⟨BS, hBS⟩ : ∃ BS, BS = bySize nl := ⟨_, rfl⟩; rw [← hBS] at hST HFACT HRES; have HST := Lib.hid hST; have HFF := Lib.hid hF; have HP := Lib.hid hP; have HV := Lib.hid hv; have HGD : Hid (r.nat.Good) := good_of hv; have EG := Lib.hid (enters_of Tryz.func114 (by kernel_rfl) rfl)
 have EG83 := Lib.hid (enters_of Tryz.func113 (by kernel_rfl) rfl)
 have EG88 := Lib.hid (enters_of Tryz.func120 (by kernel_rfl) rfl)
 have HWR : Hid (IntKind.u64.wrap ((F : Int) + 1) = (N : Int)) := by show _ = _; rw [IntKind.wrap_u64]; omega
 clear hP hv hST hnl hN hF hBS; refine (callsIn_wide (n := 6)).1 (callsIn_of_wp_marks Tryz.func92 rfl trivial ?_ rfl); simp only [Tryz.ntmps92, List.size_toArray, List.length_cons, List.length_nil, Nat.reduceAdd, Nat.reduceSub, Array.replicate_succ, Array.replicate_zero, List.push_toArray, List.append_toArray, List.nil_append, List.cons_append]; refine wpIn_wide.2 ?_; have hmf := hmf0; go_upto_region 2 with (fail); obtain ⟨W, hW⟩ : ∃ W, W = (w.alloc (.cells #[.int .i64 r.depth.lo, .int .i64 r.depth.hi, .int .i64 r.fall.lo, .int .i64 r.fall.hi, .int .i64 r.days, .slice fa fl fc, .slice la ll lc] 27)).alloc (.cells #[.int .i64 0] 35) := ⟨_, rfl⟩; obtain ⟨B2, hB2⟩ : ∃ B2, B2 = w.heap.size := ⟨_, rfl⟩; obtain ⟨B5, hB5⟩ : ∃ B5, B5 = w.heap.size + 1 := ⟨_, rfl⟩; have HB0 : Hid (Below w.heap.size w W) := by rw [hW]; exact ((Below.refl _ _).alloc (Nat.le_refl _) _).alloc (by simp) _
 have HXB : Hid (Blk W B2 27 #[.int .i64 r.depth.lo, .int .i64 r.depth.hi, .int .i64 r.fall.lo, .int .i64 r.fall.hi, .int .i64 r.days, .slice fa fl fc, .slice la ll lc]) := by rw [hW, hB2]; exact (Blk.new w 27 _).alloc _
 have HX5 : Hid (Blk W B5 35 #[.int .i64 0]) := by rw [hW, hB5]; exact Blk.new_ (by simp) 35 _
 have HE : Hid (w.heap.size ≤ B5 ∧ w.heap.size ≤ W.heap.size ∧ B5 < W.heap.size) := ⟨by omega, HB0.out.size, HX5.out.lt⟩
 rw [← hW, ← hB5, ← hB2]; clear hW hB2 hB5; have q0 := HXB.out.cell 0; have q1 := HXB.out.cell 1; have q2 := HXB.out.cell 2; have q3 := HXB.out.cell 3; have q4 := HXB.out.cell 4; have q5 := HXB.out.cell 5; have q6 := HXB.out.cell 6; have ql := HXB.out.lt; simp at q0 q1 q2 q3 q4 q5 q6; go_wp2_with fail
 refine (open_ok 114 #[] EG.out (HP.out.grow HB0.out) (fun _ => isG_always) HV.out).mono ?_
 rintro e w1 ⟨d, k, rfl, hD, hK, hb0⟩; have HB1 : Hid (Below W.heap.size W w1) := hb0; have HD1 := Lib.hid hD; have HK1 := Lib.hid hK; have hkw1 : k < w1.heap.size := by obtain ⟨o, ho, _⟩ := hK.lt; exact (Array.getElem?_eq_some_iff.1 ho).1
 have hdw1 : d < w1.heap.size := hD.blk.lt; clear hD hK hb0 q0 q1 q2 q3 q4 q5 q6 ql; obtain ⟨B4, hB4⟩ : ∃ B4, B4 = w1.heap.size := ⟨_, rfl⟩; obtain ⟨w2, hw2⟩ : ∃ w2, w2 = w1.alloc (.cells #[(.pointer (some ⟨d, 0, none⟩))] 115) := ⟨_, rfl⟩; have HB2 : Hid (Below w1.heap.size w1 w2) := by rw [hw2]; exact (Below.refl _ _).alloc (Nat.le_refl _) _
 have HX4 : Hid (Blk w2 B4 115 #[(.pointer (some ⟨d, 0, none⟩))]) := by rw [hw2, hB4]; exact Blk.new w1 115 _
 have hs2 : w2.heap.size = B4 + 1 := by rw [hw2, hB4]; simp
 go_wp2_with fail; rw [← hw2, ← hB4]
 have HS2 := Lib.hid hs2; have HD2 := Lib.hid (HD1.out.grow HB2.out); have HK2 := Lib.hid (HK1.out.below HB2.out); have HB4E := Lib.hid hB4; clear hw2 hs2 hB4; refine (every_any HGD.out w2 HD2.out).mono ?_; rw [HFF.out]; rintro e wy ⟨rfl, hwy⟩; obtain rfl : w2 = wy := hwy.symm; have hwr := HWR.out; have hmk := make_sets .u64 N (by omega)
 obtain ⟨ga, hga⟩ : ∃ ga, ga = w2.heap.size := ⟨_, rfl⟩; obtain ⟨w3, hw3⟩ : ∃ w3, w3 = w2.alloc (.cells (uA (List.replicate N 0)) 164) := ⟨_, rfl⟩; have HB3 : Hid (Below w2.heap.size w2 w3) := by rw [hw3]; exact (Below.refl _ _).alloc (Nat.le_refl _) _
 have HA3 : Hid (Blk w3 ga 164 (uA (fillN N 0))) := by rw [hw3, hga, fillN_zero]; exact Blk.new w2 164 _
 clear hwy; go_wp2; rw [← hw3, ← hga]; have HGA := Lib.hid hga; clear hwr hmk hw3 hga
 go_loopw [18] (fun v wr => ∃ i : Nat, i ≤ N ∧ v = .int .i64 i ∧ Hid (Blk wr ga 164 (uA (fillN N i))) ∧ Hid (Below w2.heap.size w2 wr)) (fun v _ => N - (intOf v).toNat)
 case atStart => exact ⟨0, Nat.zero_le _, rfl, HA3, HB3⟩
 case round =>
  obtain ⟨i, hi, rfl, HAI, HBI⟩ := hrel
  by_cases hlt : i < N
  ·have l1 := HAI.out.lt; have f1 := HAI.out.frozen i
   obtain ⟨x, hx⟩ : ∃ x, wr.cell? ⟨ga, i, none⟩ = some x := by
    rw [HAI.out.cell, uA_at (by rw [fillN_len]; exact hlt)]; exact ⟨_, rfl⟩
   have hwi : IntKind.u64.wrap (i : Int) = (i : Int) := by rw [IntKind.wrap_u64]; omega
   go_wp2; clear hwi
   go_roundw
   case rel =>
    refine ⟨i + 1, by omega, by go_num, ?_, HBI.out.setCell (p := ⟨ga, i, none⟩) (by have := HGA.out; simp; omega) _⟩
    have h := HAI.out.set_ i (.int .u64 i); rw [uA_set, fillN_set] at h; exact h
   case measure => simp [intOf]; omega
  ·obtain rfl : N = i := by omega
   have HA4 : Hid (Blk wr ga 164 (uA (List.range N))) := by rw [← fillN_all]; exact HAI
   clear HAI; have hmk := make_sets .i64 N (by omega)
   obtain ⟨go, hgo⟩ : ∃ go, go = wr.heap.size := ⟨_, rfl⟩; obtain ⟨w4, hw4⟩ : ∃ w4, w4 = wr.alloc (.cells (uA (List.replicate N 0)) 164) := ⟨_, rfl⟩; have HB4 : Hid (Below wr.heap.size wr w4) := by rw [hw4]; exact (Below.refl _ _).alloc (Nat.le_refl _) _
   have HO4 : Hid (Blk w4 go 164 (uA (List.replicate N 0))) := by rw [hw4, hgo]; exact Blk.new wr 164 _
   have HA5 : Hid (Blk w4 ga 164 (uA (List.range N))) := HA4.out.below HB4.out HA4.out.lt; obtain ⟨w5, hcp, hb5, hw5⟩ := copy_sets (n := N) (M := List.range N) (old := List.replicate N 0) (by simp) (by simp) HO4.out HA5.out
   have HO5 := Lib.hid hb5; have HB5 : Hid (Below w2.heap.size w2 w5) := HBI.out.trans ((HB4.out.trans (hw5.mono (by omega))).mono HBI.out.size)
   rw [hw4, hgo] at hcp; clear hb5 hw5 hw4; go_wp2_with fail; rw [← hgo]; have hgw : w2.heap.size ≤ go := by have := HBI.out.size; omega
   clear hmk hcp hgo
   refine (sort84_any go N (List.range N) ⟨by simp, fun x hx => by have := List.mem_range.1 hx; omega⟩ hN32.1 (by omega) hN32.2.2 w5 HO5.out).mono ?_
   rw [HST.out]; rintro e w6 ⟨rfl, h3, h4⟩; have HO6 := Lib.hid h3; have HB6 : Hid (Below w2.heap.size w2 w6) := HB5.out.trans (h4.mono hgw); have HD6 := Lib.hid (HD2.out.grow HB6.out); have HK6 := Lib.hid (HK2.out.below HB6.out); have HX6 : Hid (Blk w6 B4 115 #[(.pointer (some ⟨d, 0, none⟩))]) := HX4.out.below HB6.out HX4.out.lt; have hkW : W.heap.size ≤ k := HD1.out.hk; clear h3 h4; go_wp2_with fail
   refine (idxC HGD.out EG88.out HFACT.out.1 (by omega) (fun x hx => by have := HFACT.out.2 x hx; omega) HD6.out HK6.out HX6.out HO6.out (by have := HB4E.out; omega)).mono ?_
   rcases HRES.out with ⟨j, v, k1, k2, k3, k4, k5⟩ | ⟨k1, k2⟩
   ·have hgd : ∀ i x, BS[i]? = some x → BS.getD i 0 = x := fun i x hx => by rw [List.getD_eq_getElem?_getD, hx]; rfl
    rw [firstI_at (j := j) k1 (by rw [hgd j v k2, k3]; rfl) (fun i hi => by
     obtain ⟨x, hx⟩ : ∃ x, BS[i]? = some x := ⟨_, List.getElem?_eq_getElem (by have := HFACT.out.1; omega)⟩
     rw [hgd i x hx, k4 i x hi hx]; rfl)]
    rintro e w7 ⟨rfl, ht7⟩; have HT7 := Lib.hid ht7; have HRR := Lib.hid k5; have HKV := Lib.hid k2; have hvN := HFACT.out.2 v (List.mem_of_getElem? k2); clear ht7 k2 k3 k4 k5 hgd; go_wp2_with fail; refine (must_any true 4 w7).mono ?_; rintro e w8 ⟨rfl, hw8⟩; obtain rfl : w7 = w8 := hw8.symm
    have HB7 : Hid (Below W.heap.size W w7) := (HB1.out.trans ((HB2.out.trans (HB6.out.mono HB2.out.size)).mono HB1.out.size)).trans (HT7.out.below (by have := HB1.out.size; have := HB2.out.size; have := HB6.out.size; omega) (fun b e => by have e' : b = k := e; omega))
    have HO7 : Hid (Blk w7 go 164 (uA BS)) := HO6.out.turn HT7.out (fun e => HK6.out.ne_blk HO6.out (show go = k from e).symm)
    have HY5 : Hid (Blk w7 B5 35 #[.int .i64 0]) := HX5.out.below HB7.out HX5.out.lt; have c0 : w7.cell? ⟨go, j, none⟩ = some (.int .u64 v) := by rw [HO7.out.cell j, uA_get, HKV.out]; rfl
    have l0 := HO7.out.lt; have c2 : w7.cell? ⟨B5, 0, none⟩ = some (.int .i64 0) := HY5.out.cell 0; have f2 := HY5.out.frozen 0; have l5 := HY5.out.lt; have hjN : (j : Int) < (N : Int) := by omega
    have hwv : IntKind.i64.wrap (v : Int) = (v : Int) := IntWalk.i64_in _ (by omega)
    clear hw8; go_wp2; obtain ⟨W9, hW9⟩ : ∃ W9, W9 = w7.setCell ⟨B5, 0, none⟩ (.int .i64 0) := ⟨_, rfl⟩; rw [← hW9]; have HT5 : Blk W9 B5 35 #[.int .i64 0] := by rw [hW9]; exact HY5.out.set_ 0 _
    obtain ⟨e1, e2, _⟩ := HE.out; have hB9 : Below w.heap.size w W9 := by rw [hW9]; exact setCell_below (HB0.out.trans (HB7.out.mono e2)) e1 _ _
    refine api_ret (ds := []) (B := W.heap.size) isAns113 EG83.out (Marks.nil _ _) (fun w4 hk hbel => ?_)
    have g2 := (hk _ _ _ HT5).cell 0; simp at g2; refine ⟨.tuple #[.int .i64 v, .int .i64 0], by simp [results, Tryz.results92, go_sem, g2], by rw [HRR.out], ?_⟩
    exact hB9.trans (hbel w.heap.size e2)
   ·rw [firstI_no (fun i hi => by rw [k1]; rfl)]
    rintro e w7 ⟨rfl, ht7⟩; have HT7 := Lib.hid ht7; have HRR := Lib.hid k2; clear ht7 k1 k2; go_wp2_with fail; refine (must_any false 4 w7).mono ?_; rintro e w8 ⟨rfl, hw8⟩; obtain rfl : w7 = w8 := hw8.symm
    have hb : Below W.heap.size W w7 := (HB1.out.trans ((HB2.out.trans (HB6.out.mono HB2.out.size)).mono HB1.out.size)).trans (HT7.out.below (by have := HB1.out.size; have := HB2.out.size; have := HB6.out.size; omega) (fun b e => by have e' : b = k := e; omega))
    obtain ⟨e1, e2, _⟩ := HE.out
    refine api_panic (ds := []) (B := W.heap.size) isAns113 EG83.out (Marks.nil _ _) (HX5.out.below hb HX5.out.lt) (fun w2 hk2 hfar hbel => ?_)
    have g0 := hk2.cell 0; simp at g0; refine ⟨.tuple #[.int .i64 0, .int .i64 4], by simp [results, Tryz.results92, go_sem, g0], by rw [HRR.out], ?_⟩
    exact HB0.out.trans ((hb.mono e2).trans ((hbel w.heap.size e2 e1).mono (Nat.le_refl _)))
theorem PClash_any (hP : RvIn w w.heap.size fa fl la ll r) : Calls Tryz.prog 92 #[(.agg #[.int .i64 r.depth.lo, .int .i64 r.depth.hi, .int .i64 r.fall.lo, .int .i64 r.fall.hi, .int .i64 r.days, .slice fa fl fc, .slice la ll lc])] w fun e w' => e = .returned (.tuple #[.int .i64 (clashV r), .int .i64 (clashE r)]) ∧ Below w.heap.size w w' := by
 cases hv : okR r
 ·exact PClash_err hP hv
 ·exact PClash_go hP hv
end
end Go.Proofs.YtgmfhngcehkibaaGreat
namespace Go.Proofs.YtgmfhngcehkibaaGreat
open Go.RowKit Go.Hav
theorem result_eq {α : Type} {r : Result α} {v v' : α} {w w' : World} (h : r = .ok v w) (h' : r = .ok v' w') : v = v' ∧ w = w' := by
 rw [h] at h'
 injection h' with h1 h2
 exact ⟨h1, h2⟩
theorem append_oper {P : Program} {o : Oper} {a : Act} {s x : Operand} {t : TypeId} {v u v' : Value} {w w' : World} (ho : o.op = .call { callee := .builtin .append, args := #[s, x], argTypes := #[t, t] }) (hs : a.eval s = v) (hx : a.eval x = u)
  (hr : (Builtin.append_ #[t, t] o.type #[v, u]).run P w = .ok v' w') : (execOp a.eval o).run P w = .ok (.value v') w' := by
 unfold execOp; simp only [ho, resolve, invoke, builtin, Sem.run_bind, Sem.run_pure, Result.andThen_ok, List.map_toArray, List.map_cons, List.map_nil, hs, hx, hr]
theorem own_nil (w : World) (B e size : Nat) : w.ownsRow B e size (.slice none 0 0) 0 [] := ⟨by simp, .inl ⟨rfl, rfl⟩⟩
theorem own_blk {w : World} {B n c g : Nat} {e : TypeId} {sz : Nat} {xs : List Value} (h : w.ownsRow B e sz (.slice (some ⟨g, 0, none⟩) n c) n xs) : ∃ cur, Blk w g e cur ∧ B ≤ g ∧ n ≤ c ∧ c ≤ maxLen ∧ cur.size = c * sz ∧ cur.toList.take (n * sz) = xs := by
 rcases h.2 with ⟨h1, _⟩ | ⟨g', c', cur, h1, h2, h3, h4, h5, h6, h7⟩
 ·cases h1
 ·cases h1
  exact ⟨cur, h3, h2, h4, h5, h6, h7⟩
def RowN {α : Type} (e : α → Value) (t : TypeId) (w : World) (A : Option Addr) (L : List α) : Prop :=
 ∀ k x, L[k]? = some x → ∃ b off cur, A = some ⟨b, off, none⟩ ∧ Blk w b t cur ∧ cur[off + k]? = some (e x)
section
variable {α : Type} {e : α → Value} {t : TypeId} {w w' : World} {A : Option Addr} {L : List α} {xs : List Value} {Ls : List (List α)}
theorem RowN.below (h : RowN e t w A L) (hb : Below w.heap.size w w') : RowN e t w' A L := fun k x hx => by
 obtain ⟨b, off, cur, h1, h2, h3⟩ := h k x hx; exact ⟨b, off, cur, h1, h2.below hb h2.lt, h3⟩
end
end Go.Proofs.YtgmfhngcehkibaaGreat
namespace Go.Proofs.YtgmfhngcehkibaaGreat
open Go.RowKit Go.Hav Go.Shelf Go.Sq
def TP {ι : Type} (S : Nat → Prop) (F : ι → World → Prop) (hF : ∀ i w w', Below w.heap.size w w' → F i w → F i w') : HavG.Rel where
 G w w' := Turn S w w' ∧ ∀ i, F i w → F i w'
 refl _ := ⟨Turn.refl _ _, fun _ h => h⟩
 trans h k := ⟨h.1.trans k.1, fun i x => k.2 i (h.2 i x)⟩
 drew w := ⟨Turn.of_below (Below.drew (Below.refl _ _)), fun i x => hF i w _ (Below.drew (Below.refl _ _)) x⟩
theorem own_turn {w w' : World} {B e size n : Nat} {v : Value} {xs : List Value} {S : Nat → Prop} (h : w.ownsRow B e size v n xs) (t : Turn S w w') (hs : ∀ g, v.ownBlock = some g → ¬ S g) : w'.ownsRow B e size v n xs := by
 refine ⟨h.1, ?_⟩; rcases h.2 with h0 | ⟨g, cap, cur, rfl, hg, hh, rest⟩
 ·exact .inl h0
 ·exact .inr ⟨g, cap, cur, rfl, hg, (t.block g (Array.getElem?_eq_some_iff.1 hh).1 (hs g rfl)).trans hh, rest⟩
end Go.Proofs.YtgmfhngcehkibaaGreat
namespace Go.Proofs.YtgmfhngcehkibaaGreat
open Go.RowKit Go.Hav Go.Shelf Go.Sq
theorem append_at {P : Program} {w : World} (base : Nat) (t ty e : TypeId) (i : TypeInfo) (z : Value) (size bytes : Nat) (ht : P.underlying t = some (.slice e)) (hi : P.info? e = some i) (hz : i.zero = some z)
  (hsize : i.size = size) (hby : i.bytes = bytes) (hzs : z.cells.size = size) (hsz : 0 < size) (v : Value) (n : Nat) (xs : List Value) (hown : w.ownsRow base e size v n xs)
  (a : Addr) (c : Nat) (ys : List Value) (hl : ys.length = size) (hnews : ∀ j x, ys[j]? = some x → w.cell? (a.add j) = some x) (h1 : ∀ x ∈ ys, x.oneCell' = true) (h63 : n + 1 ≤ 100000) (hb : bytes ≤ 100000) (hbase : base ≤ w.heap.size) :
  ∃ (g cp : Nat) (w' : World), (Builtin.append_ #[t, t] ty #[v, .slice (some a) 1 c]).run P w = .ok (.slice (some ⟨g, 0, none⟩) (n + 1) cp) w' ∧ w'.ownsRow base e size (.slice (some ⟨g, 0, none⟩) (n + 1) cp) (n + 1) (xs ++ ys) ∧
   Turn (fun b => v.ownBlock = some b) w w' ∧ (v.ownBlock = some g ∨ w.heap.size ≤ g) := by
 have hbb : (n + 1) * bytes ≤ 140737488355328 := Nat.le_trans (Nat.mul_le_mul h63 hb) (by decide)
 have hl1 : ys.length = 1 * i.size := by rw [hl, hsize, Nat.one_mul]
 obtain ⟨v', w', hrun, hown', hg, _⟩ := run_append_own (P := P) w base t ty e i z size bytes ht hi hz hsize hby hzs hsz v n xs hown a 1 c ys (by rw [hl, Nat.one_mul]) hnews h1 (by unfold maxLen; omega) hbb hbase
 have hT : Turn (fun b => v.ownBlock = some b) w w' := Turn.of_grown hg (fun r e _ => e)
 suffices hs : ∃ g cp, v' = .slice (some ⟨g, 0, none⟩) (n + 1) cp ∧ (v.ownBlock = some g ∨ w.heap.size ≤ g) by
  obtain ⟨g, cp, e, h⟩ := hs; subst e; exact ⟨g, cp, w', hrun, hown', hT, h⟩
 rcases hown.2 with ⟨rfl, rfl⟩ | ⟨g, cap, cur, rfl, hbg, hgg, hnc, hcm, hcs, htake⟩
 ·have hr := run_append_nil (P := P) w t ty e i z ht hi hz a 1 c ys hl1 hnews (by decide) (by decide) (by rw [hby]; omega)
  obtain ⟨rfl, _⟩ := result_eq hrun hr; exact ⟨w.heap.size, _, by rw [Nat.zero_add], .inr (Nat.le_refl _)⟩
 ·by_cases hroom : n + 1 ≤ cap
  ·have hns : n * size + size ≤ cap * size := by rw [← Nat.succ_mul]; exact Nat.mul_le_mul hroom (Nat.le_refl _)
   have hr := run_append_room (P := P) w t ty e i ht hi g n cap cur hgg a 1 c ys hl1 hnews h1 hroom (by rw [hsize, hcs, hl]; exact hns)
   obtain ⟨rfl, _⟩ := result_eq hrun hr; exact ⟨g, cap, rfl, .inl rfl⟩
  ·have holds : ∀ j x, xs[j]? = some x → w.cell? ((⟨g, 0, none⟩ : Addr).add j) = some x := hown.cells (g := g) rfl; have hr := run_append_grow (P := P) w t ty e i z ht hi hz ⟨g, 0, none⟩ n cap xs (by rw [hsize]; exact hown.1) holds a 1 c ys hl1 hnews (by omega) (by omega) (growslice_fits (by omega) (by rw [hby]; exact hbb))
   obtain ⟨rfl, _⟩ := result_eq hrun hr; exact ⟨w.heap.size, _, rfl, .inr (Nat.le_refl _)⟩
end Go.Proofs.YtgmfhngcehkibaaGreat
namespace Go.Proofs.YtgmfhngcehkibaaGreat
open Go.RowKit Go.Hav
theorem wpList_append_run {P : Program} {ops : Array Oper} {rest : List Oper} {o : Oper} {a : Act} {Q : Exit → Act → World → Prop} {w w' : World} {v u v' : Value} (hgd : o.guard = none) (s x : Operand) (t : TypeId)
  (ho : o.op = .call { callee := .builtin .append, args := #[s, x], argTypes := #[t, t] }) (hs : a.eval s = v) (hx : a.eval x = u) (hr : (Builtin.append_ #[t, t] o.type #[v, u]).run P w = .ok v' w')
  (h : wpList P ops Q rest (a.put o.dst v') w') : wpList P ops Q (o :: rest) a w :=
 wpList_plain hgd fun _ hK => by
  unfold Oper.wp; rw [append_oper ho hs hx hr]; exact hK _ _ h
def nV (n : Nat) : Value := .int .i64 n
structure Tr.Small (t : Tr) (n : Nat) : Prop where
 d : t.d ≤ 60
 by_ : t.by_ ≤ 60
 n3 : n ≤ 3
 ds : t.ds.length = n
 rs : t.rs.length = n
 hd : ∀ x ∈ t.ds, x ≤ 60
 hr : ∀ x ∈ t.rs, x ≤ 60
structure TrIn (w : World) (t : Tr) (dA rA : Option Addr) : Prop where
 ds : RowN nV 3 w dA t.ds
 rs : RowN nV 3 w rA t.rs
theorem TrIn.below {w w' : World} {t : Tr} {dA rA : Option Addr} (h : TrIn w t dA rA) (hb : Below w.heap.size w w') : TrIn w' t dA rA := ⟨h.ds.below hb, h.rs.below hb⟩
theorem RowN.at_ {w : World} {A : Option Addr} {l : List Nat} (h : RowN nV 3 w A l) {k x : Nat} (hx : l[k]? = some x) : ∃ b off, A = some ⟨b, off, none⟩ ∧ b < w.heap.size ∧ w.cell? ⟨b, off + k, none⟩ = some (.int .i64 x) := by
 obtain ⟨b, off, cur, h1, h2, h3⟩ := h k x hx; exact ⟨b, off, h1, h2.lt, by rw [h2.cell]; exact h3⟩
theorem riseN_bd {t : Tr} {n : Nat} (h : t.Small n) (day : Nat) : ∀ i, riseN t.dsF t.rsF day i ≤ 60 * i
 | 0 => by simp [riseN]
 | i + 1 => by
  have h1 := riseN_bd h day i
  have hr : t.rsF i ≤ 60 := by
   unfold Tr.rsF; rw [List.getD_eq_getElem?_getD]
   cases hx : t.rs[i]? with
   | none => simp
   | some x => exact h.hr x (List.mem_of_getElem? hx)
  rw [riseN]
  split <;> omega
theorem atF_bd {t : Tr} {n : Nat} (h : t.Small n) : ∀ day, atF t.d t.by_ n t.dsF t.rsF day ≤ 60 + 180 * day
 | 0 => by have := h.d; rw [atF]; omega
 | k + 1 => by
  have h1 := atF_bd h k; have h2 := riseN_bd h (k + 1) n; have h3 := h.n3; rw [atF]
  omega
end Go.Proofs.YtgmfhngcehkibaaGreat
namespace Go.Proofs.YtgmfhngcehkibaaGreat
open Go.RowKit Go.Hav Go.Shelf Go.Sq
attribute [local go_sem] Oper.semAt_some
theorem rin_any (n lo hi : Int) (w : World) : Calls Tryz.prog 106 #[.int .i64 n, .int .i64 lo, .int .i64 hi] w fun e w' => e = .returned (.bool (inB n lo hi)) ∧ w' = w := by
 cases h : decide (lo ≤ n)
 ·have hr : inB n lo hi = false := by simp [inB, h]
  go_enter Tryz.func106, Tryz.ntmps106
  go_wp2; go_ret
  exact ⟨ret_bool hr.symm, rfl⟩
 ·have hr : inB n lo hi = decide (n ≤ hi) := by simp [inB, h]
  go_enter Tryz.func106, Tryz.ntmps106
  go_wp2; go_ret
  exact ⟨ret_bool hr.symm, rfl⟩
theorem rspan_any (s : ISp) (low high much : Int) (h0 : 0 ≤ low) (h1 : high ≤ 1000) (w : World) :
  Calls Tryz.prog 105 #[.agg #[.int .i64 s.lo, .int .i64 s.hi], .int .i64 low, .int .i64 high, .int .i64 much] w fun e w' => e = .returned (.bool (spB s low high much)) ∧ Below w.heap.size w w' := by
 obtain ⟨lo, hi⟩ := s
 by_cases q1 : low ≤ lo
 case neg =>
  have hb : spB ⟨lo, hi⟩ low high much = false := by unfold spB; simp [q1]
  rw [hb]; clear hb
  go_enter Tryz.func105, Tryz.ntmps105
  go_wp2; go_ret
  exact ⟨rfl, (by repeat (first | exact Below.refl _ _ | assumption | refine Below.drew ?_ | refine below_drewN ?_ _ | refine Below.alloc ?_ (by (try simp) <;> omega) _ | refine Below.setCell ?_ (by (try simp) <;> omega) _ | refine Below.trans ?_ (Below.mono (by assumption) (by (try simp) <;> omega))))⟩
 by_cases q2 : lo ≤ hi
 case neg =>
  have hb : spB ⟨lo, hi⟩ low high much = false := by unfold spB; simp [q2]
  rw [hb]; clear hb
  go_enter Tryz.func105, Tryz.ntmps105
  go_wp2; go_ret
  exact ⟨rfl, (by repeat (first | exact Below.refl _ _ | assumption | refine Below.drew ?_ | refine below_drewN ?_ _ | refine Below.alloc ?_ (by (try simp) <;> omega) _ | refine Below.setCell ?_ (by (try simp) <;> omega) _ | refine Below.trans ?_ (Below.mono (by assumption) (by (try simp) <;> omega))))⟩
 by_cases q3 : hi ≤ high
 case neg =>
  have hb : spB ⟨lo, hi⟩ low high much = false := by unfold spB; simp [q3]
  rw [hb]; clear hb
  go_enter Tryz.func105, Tryz.ntmps105
  go_wp2; go_ret
  exact ⟨rfl, (by repeat (first | exact Below.refl _ _ | assumption | refine Below.drew ?_ | refine below_drewN ?_ _ | refine Below.alloc ?_ (by (try simp) <;> omega) _ | refine Below.setCell ?_ (by (try simp) <;> omega) _ | refine Below.trans ?_ (Below.mono (by assumption) (by (try simp) <;> omega))))⟩
 have p1 : 0 ≤ hi - lo := by omega
 have p2 : hi - lo ≤ 1000 := by omega
 by_cases q4 : hi - lo ≤ much
 ·have hb : spB ⟨lo, hi⟩ low high much = true := spB_iff.2 ⟨q1, q2, q3, q4⟩; rw [hb]; clear hb
  go_enter Tryz.func105, Tryz.ntmps105
  go_wp2; go_ret
  exact ⟨rfl, (by repeat (first | exact Below.refl _ _ | assumption | refine Below.drew ?_ | refine below_drewN ?_ _ | refine Below.alloc ?_ (by (try simp) <;> omega) _ | refine Below.setCell ?_ (by (try simp) <;> omega) _ | refine Below.trans ?_ (Below.mono (by assumption) (by (try simp) <;> omega))))⟩
 ·have hb : spB ⟨lo, hi⟩ low high much = false := by unfold spB; simp [q4]
  rw [hb]; clear hb
  go_enter Tryz.func105, Tryz.ntmps105
  go_wp2; go_ret
  exact ⟨rfl, (by repeat (first | exact Below.refl _ _ | assumption | refine Below.drew ?_ | refine below_drewN ?_ _ | refine Below.alloc ?_ (by (try simp) <;> omega) _ | refine Below.setCell ?_ (by (try simp) <;> omega) _ | refine Below.trans ?_ (Below.mono (by assumption) (by (try simp) <;> omega))))⟩
section
variable {fa la : Option Addr} {fl fc ll lc : Nat} {r : IRiv} {w : World}
theorem rday_any (n : Int) (w : World) : Calls Tryz.prog 107 #[(.agg #[.int .i64 r.depth.lo, .int .i64 r.depth.hi, .int .i64 r.fall.lo, .int .i64 r.fall.hi, .int .i64 r.days, .slice fa fl fc, .slice la ll lc]), .int .i64 n] w fun e w' => e = .returned (.bool (isDayB r n)) ∧ Below w.heap.size w w' := by
 go_enter Tryz.func107, Tryz.ntmps107
 go_wp2_with fail; refine (rin_any _ _ _ _).mono ?_
 rintro e w' ⟨rfl, rfl⟩; go_wp2; go_ret
 exact ⟨rfl, (by repeat (first | exact Below.refl _ _ | assumption | refine Below.drew ?_ | refine below_drewN ?_ _ | refine Below.alloc ?_ (by (try simp) <;> omega) _ | refine Below.setCell ?_ (by (try simp) <;> omega) _ | refine Below.trans ?_ (Below.mono (by assumption) (by (try simp) <;> omega))))⟩
end
theorem all_no {α : Type} {P : α → Bool} {l : List α} {x : α} (hm : x ∈ l) (h : P x = false) : l.all P = false := by rw [List.all_eq_false]; exact ⟨x, hm, by simp [h]⟩
theorem take_all {α : Type} {P : α → Bool} {l : List α} {k : Nat} {c : α} (hc : l[k]? = some c) (h : (l.take k).all P = true) (hP : P c = true) : (l.take (k + 1)).all P = true := by
 rw [List.take_add_one, hc]; simp [h, hP]
section
variable {fa la : Option Addr} {fl fc ll lc : Nat} {r : IRiv} {w : World}
theorem rriver_any (w : World) (hP : RvIn w w.heap.size fa fl la ll r) : Calls Tryz.prog 84 #[(.agg #[.int .i64 r.depth.lo, .int .i64 r.depth.hi, .int .i64 r.fall.lo, .int .i64 r.fall.hi, .int .i64 r.days, .slice fa fl fc, .slice la ll lc])] w fun e w' => e = .returned (.bool (okR r)) ∧ Below w.heap.size w w' := by
 have HP := Lib.hid hP; have HEF := Lib.hid hP.efl; have HEL := Lib.hid hP.ell; have m1 := hP.mfl; have m2 := hP.mll; clear hP; obtain ⟨W, hW⟩ : ∃ W, W = w.alloc (.cells #[.int .i64 r.depth.lo, .int .i64 r.depth.hi, .int .i64 r.fall.lo, .int .i64 r.fall.hi, .int .i64 r.days, .slice fa fl fc, .slice la ll lc] 27) := ⟨_, rfl⟩; have HK : Hid (Blk W w.heap.size 27 #[.int .i64 r.depth.lo, .int .i64 r.depth.hi, .int .i64 r.fall.lo, .int .i64 r.fall.hi, .int .i64 r.days, .slice fa fl fc, .slice la ll lc]) := by rw [hW]; exact Blk.new w 27 _
 have HB0 : Hid (Below w.heap.size w W) := by rw [hW]; exact (Below.refl _ _).alloc (Nat.le_refl _) _
 have hsW : W.heap.size = w.heap.size + 1 := by rw [hW]; simp
 have HBX : Hid (Below W.heap.size W W) := Below.refl _ _; have HKR := HK; have q0 := HK.out.cell 0; have q1 := HK.out.cell 1; have q2 := HK.out.cell 2; have q3 := HK.out.cell 3; have q4 := HK.out.cell 4; have q5 := HK.out.cell 5; have q6 := HK.out.cell 6; have ql := HK.out.lt; simp at q0 q1 q2 q3 q4 q5 q6; have HOK : Hid (okR r = (headB r && r.fr.all (frB r.days) && r.lk.all (lkB r.days))) := rfl; have HHD : Hid (headB r = (spB r.depth 0 60 4 && spB r.fall 0 5 2 && inB r.days 1 10 && decide (r.fr.length ≤ 3) && decide (r.lk.length ≤ 5))) := rfl
 go_enter Tryz.func84, Tryz.ntmps84
 go_wp2_with fail; rw [← hW]
 refine (rspan_any r.depth 0 60 4 (by omega) (by omega) W).mono ?_
 cases h1 : spB r.depth 0 60 4
 ·have HN : Hid (okR r = false) := by show _ = _; rw [HOK.out, HHD.out, h1]; rfl
  clear h1; rintro e w1 ⟨rfl, hb⟩; have HBZ : Hid (Below w.heap.size w w1) := HB0.out.trans (hb.mono (by omega))
  clear hb; go_wp2; go_ret
  exact ⟨ret_bool HN.out.symm, HBZ.out⟩
 rintro e w1 ⟨rfl, hb⟩; have HBX1 : Hid (Below W.heap.size W w1) := hb; have HK1 : Hid (Blk w1 w.heap.size 27 #[.int .i64 r.depth.lo, .int .i64 r.depth.hi, .int .i64 r.fall.lo, .int .i64 r.fall.hi, .int .i64 r.days, .slice fa fl fc, .slice la ll lc]) := HK.out.below hb HK.out.lt; clear hb q0 q1 q2 q3 q4 q5 q6 ql hW; have q0 := HK1.out.cell 0; have q1 := HK1.out.cell 1; have q2 := HK1.out.cell 2; have q3 := HK1.out.cell 3; have q4 := HK1.out.cell 4; have q5 := HK1.out.cell 5; have q6 := HK1.out.cell 6; have ql := HK1.out.lt; simp at q0 q1 q2 q3 q4 q5 q6; go_wp2_with fail; refine (rspan_any r.fall 0 5 2 (by omega) (by omega) w1).mono ?_
 cases h2 : spB r.fall 0 5 2
 ·have HN : Hid (okR r = false) := by show _ = _; rw [HOK.out, HHD.out, h1, h2]; rfl
  clear h2; rintro e w2 ⟨rfl, hb⟩; have HBZ : Hid (Below w.heap.size w w2) := HB0.out.trans ((HBX1.out.trans (hb.mono HBX1.out.size)).mono (by omega))
  clear hb; go_wp2; go_ret
  exact ⟨ret_bool HN.out.symm, HBZ.out⟩
 rintro e w2 ⟨rfl, hb⟩; have HBX2 : Hid (Below W.heap.size W w2) := HBX1.out.trans (hb.mono HBX1.out.size); have HK2 : Hid (Blk w2 w.heap.size 27 #[.int .i64 r.depth.lo, .int .i64 r.depth.hi, .int .i64 r.fall.lo, .int .i64 r.fall.hi, .int .i64 r.days, .slice fa fl fc, .slice la ll lc]) := HK1.out.below hb HK1.out.lt; clear hb q0 q1 q2 q3 q4 q5 q6 ql HK1 HBX1; have q0 := HK2.out.cell 0; have q1 := HK2.out.cell 1; have q2 := HK2.out.cell 2; have q3 := HK2.out.cell 3; have q4 := HK2.out.cell 4; have q5 := HK2.out.cell 5; have q6 := HK2.out.cell 6; have ql := HK2.out.lt; simp at q0 q1 q2 q3 q4 q5 q6; have HBW2 : Hid (Below w.heap.size w w2) := HB0.out.trans (HBX2.out.mono (by omega))
 go_wp2_with fail; refine (rin_any r.days 1 10 w2).mono ?_
 cases h3 : inB r.days 1 10
 ·have HN : Hid (okR r = false) := by show _ = _; rw [HOK.out, HHD.out, h1, h2, h3]; rfl
  clear h3; rintro e w' ⟨rfl, rfl⟩; go_wp2; go_ret
  exact ⟨ret_bool HN.out.symm, HBW2.out⟩
 rintro e w3 ⟨rfl, hw3⟩; obtain rfl : w2 = w3 := hw3.symm; clear hw3
 by_cases hfl : fl ≤ 3
 case neg =>
  have HN : Hid (okR r = false) := by show _ = _; rw [HOK.out, HHD.out]; simp; intros; have := HEF.out; omega
  have hd : decide ((3 : Int) < fl) = true := by simp; omega
  go_wp2; go_ret
  exact ⟨ret_bool HN.out.symm, HBW2.out⟩
 have hd : decide ((3 : Int) < fl) = false := by simp; omega
 by_cases hll : ll ≤ 5
 case neg =>
  have HN : Hid (okR r = false) := by show _ = _; rw [HOK.out, HHD.out]; simp; intros; have := HEL.out; omega
  have hd5 : decide ((5 : Int) < ll) = true := by simp; omega
  go_wp2; go_ret
  exact ⟨ret_bool HN.out.symm, HBW2.out⟩
 have hd5 : decide ((5 : Int) < ll) = false := by simp; omega
 have HHT : Hid (headB r = true) := by show _ = _; rw [HHD.out, h1, h2, h3]; simp; have := HEF.out; have := HEL.out; omega
 obtain ⟨d1, d2⟩ := inB_iff.1 h3; clear h1 h2 h3; go_wp2; clear q0 q1 q2 q3 q4 q5 q6 hd hd5
 go_loopw [3] (fun i wr => ∃ k : Nat, k ≤ fl ∧ i = .int .i64 k ∧ Hid ((r.fr.take k).all (frB r.days) = true) ∧ Hid (Below W.heap.size W wr)) (fun i _ => fl - (intOf i).toNat)
 case atStart => exact ⟨0, Nat.zero_le _, rfl, by show _ = _; simp, HBX2⟩
 case round =>
  obtain ⟨k, hk, rfl, HT, HBX⟩ := hrel; have HKR : Hid (Blk wr w.heap.size 27 #[.int .i64 r.depth.lo, .int .i64 r.depth.hi, .int .i64 r.fall.lo, .int .i64 r.fall.hi, .int .i64 r.days, .slice fa fl fc, .slice la ll lc]) := HK.out.below HBX.out (by omega)
  have hsz : w.heap.size < wr.heap.size := HKR.out.lt; have xb0 : wr.cell? ⟨w.heap.size, 0, none⟩ = some (.int .i64 r.depth.lo) := HKR.out.cell 0; have xb1 : wr.cell? ⟨w.heap.size, 1, none⟩ = some (.int .i64 r.depth.hi) := HKR.out.cell 1; have xb2 : wr.cell? ⟨w.heap.size, 2, none⟩ = some (.int .i64 r.fall.lo) := HKR.out.cell 2; have xb3 : wr.cell? ⟨w.heap.size, 3, none⟩ = some (.int .i64 r.fall.hi) := HKR.out.cell 3; have xb4 : wr.cell? ⟨w.heap.size, 4, none⟩ = some (.int .i64 r.days) := HKR.out.cell 4; have xb5 : wr.cell? ⟨w.heap.size, 5, none⟩ = some (.slice fa fl fc) := HKR.out.cell 5; have xb6 : wr.cell? ⟨w.heap.size, 6, none⟩ = some (.slice la ll lc) := HKR.out.cell 6; have HBR : Hid (Below w.heap.size w wr) := HB0.out.trans (HBX.out.mono (by omega))
  by_cases hlt : k < fl
  ·obtain ⟨c, hc⟩ : ∃ c, r.fr[k]? = some c := ⟨r.fr[k]'(by have := HEF.out; omega), by simp⟩
   obtain ⟨b, off, hA, hbl, H0, H1, H2, H3⟩ := rd_frI ((HP.out.grow HBR.out).hfr) k c hc; subst hA; have HC := Lib.hid hc; have HM := Lib.hid (List.mem_of_getElem? hc); obtain ⟨⟨c0, c1⟩, ⟨c2, c3⟩⟩ := c; simp only at H0 H1 H2 H3; clear hc; have HF : Hid (frB r.days ⟨⟨c0, c1⟩, ⟨c2, c3⟩⟩ = (spB ⟨c0, c1⟩ 1 r.days 3 && spB ⟨c2, c3⟩ 1 20 3)) := rfl; go_upto_region 7 with (fail); obtain ⟨W7, hW7⟩ : ∃ W7, W7 = wr.alloc (.cells #[.int .i64 c0, .int .i64 c1, .int .i64 c2, .int .i64 c3] 59) := ⟨_, rfl⟩; have HX7 : Hid (Blk W7 wr.heap.size 59 #[.int .i64 c0, .int .i64 c1, .int .i64 c2, .int .i64 c3]) := by rw [hW7]; exact Blk.new wr 59 _
   have HB7 : Hid (Below wr.heap.size wr W7) := by rw [hW7]; exact (Below.refl _ _).alloc (Nat.le_refl _) _
   rw [← hW7]; have y0 := HX7.out.cell 0; have y1 := HX7.out.cell 1; have y2 := HX7.out.cell 2; have y3 := HX7.out.cell 3; have yl := HX7.out.lt; simp at y0 y1 y2 y3; have xb4' : W7.cell? ⟨w.heap.size, 4, none⟩ = some (.int .i64 r.days) := (HKR.out.below HB7.out hsz).cell 4; have hs7 : w.heap.size < W7.heap.size := by have := HB7.out.size; omega
   clear hW7 H0 H1 H2 H3; go_wp2_with fail; refine (rspan_any ⟨c0, c1⟩ 1 r.days 3 (by omega) (by omega) W7).mono ?_
   cases g1 : spB ⟨c0, c1⟩ 1 r.days 3
   ·have HN : Hid (okR r = false) := by
     show _ = _; rw [HOK.out, all_no HM.out (by rw [HF.out, g1]; rfl)]; simp
    clear g1; rintro e w5 ⟨rfl, hb⟩; have HBZ : Hid (Below w.heap.size w w5) := HBR.out.trans ((HB7.out.trans (hb.mono HB7.out.size)).mono (by omega))
    clear hb; go_wp2; go_ret
    exact ⟨ret_bool HN.out.symm, HBZ.out⟩
   rintro e w5 ⟨rfl, hb⟩; have HB8 : Hid (Below wr.heap.size wr w5) := HB7.out.trans (hb.mono HB7.out.size); have HX8 : Hid (Blk w5 wr.heap.size 59 #[.int .i64 c0, .int .i64 c1, .int .i64 c2, .int .i64 c3]) := HX7.out.below hb HX7.out.lt; clear hb y0 y1 y2 y3 yl; have y2 := HX8.out.cell 2; have y3 := HX8.out.cell 3; have yl := HX8.out.lt; simp at y2 y3; go_wp2_with fail; refine (rspan_any ⟨c2, c3⟩ 1 20 3 (by omega) (by omega) w5).mono ?_
   cases g2 : spB ⟨c2, c3⟩ 1 20 3
   ·have HN : Hid (okR r = false) := by
     show _ = _; rw [HOK.out, all_no HM.out (by rw [HF.out, g1, g2]; rfl)]; simp
    clear g2; rintro e w6 ⟨rfl, hb⟩; have HBZ : Hid (Below w.heap.size w w6) := HBR.out.trans ((HB8.out.trans (hb.mono HB8.out.size)).mono (by omega))
    clear hb; go_wp2; go_ret
    exact ⟨ret_bool HN.out.symm, HBZ.out⟩
   rintro e w6 ⟨rfl, hb⟩; have HN := Lib.hid (take_all HC.out HT.out (by rw [HF.out, g1, g2]; rfl))
   have HB9 : Hid (Below W.heap.size W w6) := HBX.out.trans ((HB8.out.trans (hb.mono HB8.out.size)).mono HBX.out.size); clear hb g1 g2; go_wp2; go_roundw
   case rel => exact ⟨k + 1, by omega, by go_num, HN, HB9⟩
   case measure => simp [intOf]; omega
  ·obtain rfl : fl = k := by omega
   have HFR : Hid (r.fr.all (frB r.days) = true) := by have h := HT.out; rwa [← HEF.out, List.take_length] at h
   have HBXa := HBX; go_wp2; clear xb0 xb1 xb2 xb3 xb4 xb5 xb6 HKR HBR HBX hsz HT
   go_loopw [5] (fun i wq => ∃ k : Nat, k ≤ ll ∧ i = .int .i64 k ∧ Hid ((r.lk.take k).all (lkB r.days) = true) ∧ Hid (Below W.heap.size W wq)) (fun i _ => ll - (intOf i).toNat)
   case atStart => exact ⟨0, Nat.zero_le _, rfl, by show _ = _; simp, HBXa⟩
   case round =>
    obtain ⟨k, hk, rfl, HT, HBX⟩ := hrel; have HKR : Hid (Blk wr w.heap.size 27 #[.int .i64 r.depth.lo, .int .i64 r.depth.hi, .int .i64 r.fall.lo, .int .i64 r.fall.hi, .int .i64 r.days, .slice fa fl fc, .slice la ll lc]) := HK.out.below HBX.out (by omega)
    have hsz : w.heap.size < wr.heap.size := HKR.out.lt; have xb0 : wr.cell? ⟨w.heap.size, 0, none⟩ = some (.int .i64 r.depth.lo) := HKR.out.cell 0; have xb1 : wr.cell? ⟨w.heap.size, 1, none⟩ = some (.int .i64 r.depth.hi) := HKR.out.cell 1; have xb2 : wr.cell? ⟨w.heap.size, 2, none⟩ = some (.int .i64 r.fall.lo) := HKR.out.cell 2; have xb3 : wr.cell? ⟨w.heap.size, 3, none⟩ = some (.int .i64 r.fall.hi) := HKR.out.cell 3; have xb4 : wr.cell? ⟨w.heap.size, 4, none⟩ = some (.int .i64 r.days) := HKR.out.cell 4; have xb5 : wr.cell? ⟨w.heap.size, 5, none⟩ = some (.slice fa fl fc) := HKR.out.cell 5; have xb6 : wr.cell? ⟨w.heap.size, 6, none⟩ = some (.slice la ll lc) := HKR.out.cell 6; have HBR : Hid (Below w.heap.size w wr) := HB0.out.trans (HBX.out.mono (by omega))
    by_cases hlt : k < ll
    ·obtain ⟨c, hc⟩ : ∃ c, r.lk[k]? = some c := ⟨r.lk[k]'(by have := HEL.out; omega), by simp⟩
     obtain ⟨b, off, hA, hbl, H0, H1, H2⟩ := rd_lkI ((HP.out.grow HBR.out).hlk) k c hc; subst hA; have HC := Lib.hid hc; have HM := Lib.hid (List.mem_of_getElem? hc); obtain ⟨cd, ⟨c0, c1⟩⟩ := c; simp only at H0 H1 H2; clear hc; have HF : Hid (lkB r.days ⟨cd, ⟨c0, c1⟩⟩ = (inB cd 0 r.days && spB ⟨c0, c1⟩ 0 200 200)) := rfl; go_wp2
     cases g1 : inB cd 0 r.days
     ·have HN : Hid (okR r = false) := by
       show _ = _; rw [HOK.out, all_no HM.out (by rw [HF.out, g1]; rfl)]; simp
      have HD : Hid (∀ wv, Calls Tryz.prog 107 #[.agg #[.int .i64 r.depth.lo, .int .i64 r.depth.hi, .int .i64 r.fall.lo, .int .i64 r.fall.hi, .int .i64 r.days, .slice fa fl fc, .slice (some ⟨b, off, none⟩) ll lc], .int .i64 cd] wv fun e w' => e = .returned (.bool false) ∧ Below wv.heap.size wv w') := fun wv => by
       have h := rday_any (fa := fa) (la := some ⟨b, off, none⟩) (fl := fl) (fc := fc) (ll := ll) (lc := lc) (r := r) cd wv; rw [show isDayB r cd = inB cd 0 r.days from rfl, g1] at h
       exact h
      clear g1
      refine wp_region_havoc [(0,false),(1,false),(2,false),(3,false),(4,false),(5,false),(6,false),(7,false),(8,false),(9,false),(10,false),(11,false),(12,false),(13,false),(14,false),(15,false),(16,false),(17,false),(18,false)] [] (fun _ _ => False) (by kernel_rfl) (by kernel_rfl) (fun _ _ _ _ h => h.elim) ?_
      (apply hav_same (by exact ho rfl) (by kernel_rfl); (focus (intro wv hgv _; have hcv := cvB hgv; (try go_simp); try rfl; done)); simp only [Act.put, List.setIfInBounds_toArray, List.set_cons_succ, List.set_cons_zero])
      iterate 6 (apply hav_same (by exact ho rfl) (by kernel_rfl); (focus (intro wv hgv _; have hcv := cvB hgv; (try go_simp); try rfl; done)); simp only [Act.put, List.setIfInBounds_toArray, List.set_cons_succ, List.set_cons_zero])
      (apply hav_call (by exact ho rfl) (by kernel_rfl); (focus (intro wv; go_simp; try exact ⟨rfl, rfl⟩; done)); (focus (intro wv hgv _; exact HD.out wv; done)); simp only [Act.put, List.setIfInBounds_toArray, List.set_cons_succ, List.set_cons_zero])
      iterate 2 (apply hav_same (by exact ho rfl) (by kernel_rfl); (focus (intro wv hgv _; have hcv := cvB hgv; (try go_simp); try rfl; done)); simp only [Act.put, List.setIfInBounds_toArray, List.set_cons_succ, List.set_cons_zero])
      iterate 8 (refine hav_skip (by exact ho rfl) (by kernel_rfl) ?_; simp only [Act.put, List.setIfInBounds_toArray, List.set_cons_succ, List.set_cons_zero])
      (apply hav_same (by exact ho rfl) (by kernel_rfl); (focus (intro wv hgv _; have hcv := cvB hgv; (try go_simp); try rfl; done)); simp only [Act.put, List.setIfInBounds_toArray, List.set_cons_succ, List.set_cons_zero])
      refine hav_end (fun w5 hgw5 _ => ?_); simp only [List.filterMap]; have hcw5 : ∀ b o, b < _ → w5.cell? ⟨b, o, none⟩ = _ := fun b o hb => Below.cell hgw5 (p := ⟨b, o, none⟩) hb; have hfw5 : ∀ b o, b < _ → w5.frozen? ⟨b, o, none⟩ = _ := fun b o hb => Below.frozen hgw5 (p := ⟨b, o, none⟩) hb; have hzw5 := Below.size hgw5; (try simp at hzw5)
      have HBZ : Hid (Below w.heap.size w w5) := HBR.out.trans (hgw5.mono (by omega))
      clear hgw5 hcw5 hfw5; go_wp2; go_ret
      exact ⟨ret_bool HN.out.symm, HBZ.out⟩
     ·have HD : Hid (∀ wv, Calls Tryz.prog 107 #[.agg #[.int .i64 r.depth.lo, .int .i64 r.depth.hi, .int .i64 r.fall.lo, .int .i64 r.fall.hi, .int .i64 r.days, .slice fa fl fc, .slice (some ⟨b, off, none⟩) ll lc], .int .i64 cd] wv fun e w' => e = .returned (.bool true) ∧ Below wv.heap.size wv w') := fun wv => by
       have h := rday_any (fa := fa) (la := some ⟨b, off, none⟩) (fl := fl) (fc := fc) (ll := ll) (lc := lc) (r := r) cd wv; rw [show isDayB r cd = inB cd 0 r.days from rfl, g1] at h
       exact h
      rw [g1] at HF; clear g1; obtain ⟨y, hy⟩ : ∃ y, spB ⟨c0, c1⟩ 0 200 200 = y := ⟨_, rfl⟩
      have HS2 : Hid (∀ wv, Calls Tryz.prog 105 #[.agg #[.int .i64 c0, .int .i64 c1], .int .i64 0, .int .i64 200, .int .i64 200] wv fun e w' => e = .returned (.bool y) ∧ Below wv.heap.size wv w') := fun wv => by
       have h := rspan_any ⟨c0, c1⟩ 0 200 200 (by omega) (by omega) wv
       rw [hy] at h; exact h
      rw [hy] at HF; clear hy
      refine wp_region_havoc [(0,false),(1,false),(2,false),(3,false),(4,false),(5,false),(6,false),(7,false),(8,false),(9,false),(10,false),(11,false),(12,false),(13,false),(14,false),(15,false),(16,false),(17,false),(18,false)] [] (fun _ _ => False) (by kernel_rfl) (by kernel_rfl) (fun _ _ _ _ h => h.elim) ?_
      (apply hav_same (by exact ho rfl) (by kernel_rfl); (focus (intro wv hgv _; have hcv := cvB hgv; (try go_simp); try rfl; done)); simp only [Act.put, List.setIfInBounds_toArray, List.set_cons_succ, List.set_cons_zero])
      iterate 6 (apply hav_same (by exact ho rfl) (by kernel_rfl); (focus (intro wv hgv _; have hcv := cvB hgv; (try go_simp); try rfl; done)); simp only [Act.put, List.setIfInBounds_toArray, List.set_cons_succ, List.set_cons_zero])
      (apply hav_call (by exact ho rfl) (by kernel_rfl); (focus (intro wv; go_simp; try exact ⟨rfl, rfl⟩; done)); (focus (intro wv hgv _; exact HD.out wv; done)); simp only [Act.put, List.setIfInBounds_toArray, List.set_cons_succ, List.set_cons_zero])
      iterate 8 (apply hav_same (by exact ho rfl) (by kernel_rfl); (focus (intro wv hgv _; have hcv := cvB hgv; (try go_simp); try rfl; done)); simp only [Act.put, List.setIfInBounds_toArray, List.set_cons_succ, List.set_cons_zero])
      (apply hav_call (by exact ho rfl) (by kernel_rfl); (focus (intro wv; go_simp; try exact ⟨rfl, rfl⟩; done)); (focus (intro wv hgv _; exact HS2.out wv; done)); simp only [Act.put, List.setIfInBounds_toArray, List.set_cons_succ, List.set_cons_zero])
      iterate 2 (apply hav_same (by exact ho rfl) (by kernel_rfl); (focus (intro wv hgv _; have hcv := cvB hgv; (try go_simp); try rfl; done)); simp only [Act.put, List.setIfInBounds_toArray, List.set_cons_succ, List.set_cons_zero])
      refine hav_end (fun w5 hgw5 _ => ?_); simp only [List.filterMap]; have hcw5 : ∀ b o, b < _ → w5.cell? ⟨b, o, none⟩ = _ := fun b o hb => Below.cell hgw5 (p := ⟨b, o, none⟩) hb; have hfw5 : ∀ b o, b < _ → w5.frozen? ⟨b, o, none⟩ = _ := fun b o hb => Below.frozen hgw5 (p := ⟨b, o, none⟩) hb; have hzw5 := Below.size hgw5; (try simp at hzw5)
      have HBZ : Hid (Below W.heap.size W w5) := HBX.out.trans (hgw5.mono HBX.out.size); clear hgw5 hcw5 hfw5; cases y
      ·have HN : Hid (okR r = false) := by
        show _ = _; rw [HOK.out, all_no HM.out (by rw [HF.out]; rfl)]; simp
       go_wp2; go_ret
       exact ⟨ret_bool HN.out.symm, HB0.out.trans (HBZ.out.mono (by omega))⟩
      ·have HN := Lib.hid (take_all HC.out HT.out (by rw [HF.out]; rfl))
       go_wp2; go_roundw
       case rel => exact ⟨k + 1, by omega, by go_num, HN, HBZ⟩
       case measure => simp [intOf]; omega
    ·obtain rfl : ll = k := by omega
     have HN : Hid (okR r = true) := by
      have h := HT.out; rw [← HEL.out, List.take_length] at h; show _ = _; rw [HOK.out, HHT.out, HFR.out, h]; rfl
     go_wp2; go_ret
     exact ⟨ret_bool HN.out.symm, HBR.out⟩
end
theorem Tryz.infoE3 : (Tryz.prog.info? 3).map (fun i => (i.zero, i.size, i.bytes)) = some (some (.int .i64 0), 1, 8) := by kernel_rfl
section
variable {dA rA : Option Addr} {n dc rc : Nat} {t : Tr}
theorem in_any (ht : t.Small n) (day : Nat) (hday : day ≤ 10) (w : World) (hT : TrIn w t dA rA) :
  Calls Tryz.prog 35 #[.agg #[.int .i64 t.d, .int .i64 t.by_, .slice dA n dc, .slice rA n rc], .int .i64 day] w fun e w' => e = .returned (.int .i64 (t.at_ day)) ∧ Below w.heap.size w w' := by
 have HT := Lib.hid hT; have HS := Lib.hid ht; have hn := ht.n3; have hd60 := ht.d; have hb60 := ht.by_; have HAT : Hid (t.at_ day = atF t.d t.by_ n t.dsF t.rsF day) := by show _ = _; rw [Tr.at_, ht.ds]
 clear hT ht; obtain ⟨W, hW⟩ : ∃ W, W = w.alloc (.cells #[.int .i64 t.d, .int .i64 t.by_, .slice dA n dc, .slice rA n rc] 57) := ⟨_, rfl⟩; have HX : Hid (Blk W w.heap.size 57 #[.int .i64 t.d, .int .i64 t.by_, .slice dA n dc, .slice rA n rc]) := by rw [hW]; exact Blk.new w 57 _
 have HBW : Hid (Below w.heap.size w W) := by rw [hW]; exact (Below.refl _ _).alloc (Nat.le_refl _) _
 have HTW : Hid (TrIn W t dA rA) := HT.out.below HBW.out
 go_enter Tryz.func35, Tryz.ntmps35
 go_wp2_with fail; rw [← hW]
 clear hW; have x0 := HX.out.cell 0; have x1 := HX.out.cell 1; have x2 := HX.out.cell 2; have x3 := HX.out.cell 3; have xl := HX.out.lt; simp at x0 x1 x2 x3; go_wp2
 go_loopw [5, 6] (fun x i wr => ∃ (k v : Nat), k ≤ day ∧ i = .int .i64 ((k + 1 : Nat) : Int) ∧ x = .int .i64 v ∧ Hid (atF t.d t.by_ n t.dsF t.rsF k = v) ∧ v ≤ 2000 ∧ wr = W) (fun _ i _ => day + 1 - (intOf i).toNat)
 case atStart => exact ⟨0, t.d, Nat.zero_le _, rfl, rfl, rfl, by omega, rfl⟩
 case round =>
  obtain ⟨k, v, hk, rfl, rfl, HV, hv, rfl⟩ := hrel
  by_cases hlt : k + 1 ≤ day
  ·obtain ⟨q, hq⟩ : ∃ q : Nat, v - t.by_ = q := ⟨_, rfl⟩
   have hmx : ∀ w, (Builtin.max_ #[3, 3] 3 #[.int .i64 0, .int .i64 ((v : Int) - t.by_)]).run Tryz.prog w = .ok (.int .i64 q) w := fun w => by rw [max_run]; congr 2; omega
   have HQ := Lib.hid hq; have hq2 : q ≤ 2000 := by omega
   clear hq; go_wp2; obtain ⟨wo, rfl⟩ : ∃ wo : World, wo = wr := ⟨_, rfl⟩
   go_loopw [5, 7] (fun x i wr => ∃ (j s : Nat), j ≤ n ∧ i = .int .i64 j ∧ x = .int .i64 s ∧ Hid (q + riseN t.dsF t.rsF (k + 1) j = s) ∧ s ≤ 2000 + 60 * j ∧ wr = wo) (fun _ i _ => n - (intOf i).toNat)
   case atStart => exact ⟨0, q, Nat.zero_le _, rfl, rfl, rfl, by omega, rfl⟩
   case round =>
    obtain ⟨j, s, hj, rfl, rfl, HSU, hs, rfl⟩ := hrel
    by_cases hlt2 : j < n
    ·obtain ⟨x, hx⟩ : ∃ x, t.ds[j]? = some x := ⟨_, List.getElem?_eq_getElem (by rw [HS.out.ds]; exact hlt2)⟩
     obtain ⟨y, hy⟩ : ∃ y, t.rs[j]? = some y := ⟨_, List.getElem?_eq_getElem (by rw [HS.out.rs]; exact hlt2)⟩
     have hx60 := HS.out.hd x (List.mem_of_getElem? hx); have hy60 := HS.out.hr y (List.mem_of_getElem? hy); have HDX : Hid (t.dsF j = x ∧ t.rsF j = y) := ⟨by unfold Tr.dsF; rw [List.getD_eq_getElem?_getD, hx]; rfl, by unfold Tr.rsF; rw [List.getD_eq_getElem?_getD, hy]; rfl⟩
     obtain ⟨b1, o1, rfl, hb1, H1⟩ := HTW.out.ds.at_ hx; obtain ⟨b2, o2, rfl, hb2, H2⟩ := HTW.out.rs.at_ hy; clear hx hy
     by_cases he : x = k + 1
     ·have HN : Hid (q + riseN t.dsF t.rsF (k + 1) (j + 1) = s + y) := by
       show _ = _; rw [riseN, HDX.out.1, HDX.out.2, if_pos he, ← HSU.out]; omega
      have hd : ((x : Int) == ((k + 1 : Nat) : Int)) = true := by simp; omega
      have hd2 : ((x : Int) == (k : Int) + 1) = true := by simp; omega
      clear he; go_wp2; go_roundw
      case rel => exact ⟨j + 1, s + y, by omega, by go_num, by go_num, HN, by omega, trivial⟩
      case measure => simp [intOf]; omega
     ·have HN : Hid (q + riseN t.dsF t.rsF (k + 1) (j + 1) = s) := by
       show _ = _; rw [riseN, HDX.out.1, if_neg he, ← HSU.out]; rfl
      have hd : ((x : Int) == ((k + 1 : Nat) : Int)) = false := by simp; omega
      have hd2 : ((x : Int) == (k : Int) + 1) = false := by simp; omega
      clear he; go_wp2; go_roundw
      case rel => exact ⟨j + 1, s, by omega, by go_num, rfl, HN, by omega, trivial⟩
      case measure => simp [intOf]; omega
    ·obtain rfl : n = j := by omega
     have HN : Hid (atF t.d t.by_ n t.dsF t.rsF (k + 1) = s) := by
      show _ = _; rw [atF, HV.out, HQ.out, HSU.out]
     have hs2 : s ≤ 2000 := by have h := atF_bd HS.out (k + 1); rw [HN.out] at h; omega
     go_wp2; go_roundw
     case rel => exact ⟨k + 1, s, by omega, by go_num, rfl, HN, hs2, trivial⟩
     case measure => simp [intOf]; omega
  ·obtain rfl : day = k := by omega
   have HE : Hid (t.at_ day = v) := by show _ = _; rw [HAT.out, HV.out]
   go_wp2; go_ret
   exact ⟨ret_int (by rw [HE.out]), HBW.out⟩
end
end Go.Proofs.YtgmfhngcehkibaaGreat
namespace Go.Hav
open Go.RowKit
section
variable {P : Program} {ops : Array Oper}
def NewAt (V : Nat → Value) (ob : Obj) (B : Nat) (v : Value) (w : World) : Prop := ∃ g, v = V g ∧ B ≤ g ∧ w.heap[g]? = some ob
theorem hav_new {Qp : List PanicEntry → World → Prop} {w0 : World} {Cont : Act → (World → Prop) → Prop} {i : Nat} {rest : List (Nat × Bool)} {a : Act} {F : World → Prop} {o : Oper} (V : Nat → Value) (ob : Obj) (ho : ops[i]? = some o)
  (hw : Region.wanted o (yielded ops a.tmps) = true) (h1 : ∀ w, Grow w0 w → F w → (execOp a.eval o).run P w = .ok (.value (V w.heap.size)) (w.alloc ob))
  (h2 : ∀ v, wpHav P ops Qp w0 Cont rest (a.put o.dst v) (fun w => F w ∧ NewAt V ob w0.heap.size v w)) : wpHav P ops Qp w0 Cont ((i, true) :: rest) a F :=
 hav_ghost (NewAt V ob w0.heap.size) ho
  (fun v w w' ⟨g, h1, h2, h3⟩ hg => ⟨g, h1, h2, (hg.block g (Array.getElem?_eq_some_iff.1 h3).1).trans h3⟩)
  (fun w hg hF K hK => by
   unfold stepOf HavG.stepOf Oper.wp; rw [if_pos hw, h1 w hg hF]
   exact hK _ _ ((Below.refl _ _).alloc (Nat.le_refl _) _) ⟨w.heap.size, rfl, hg.size, heap_alloc_new w _⟩) h2
end
end Go.Hav
namespace Go.Proofs.YtgmfhngcehkibaaGreat
open Go.RowKit Go.Hav Go.Shelf Go.Sq
attribute [local go_sem] Oper.semAt_some
section
variable {fa la : Option Addr} {fl fc ll lc : Nat} {r : IRiv}
theorem rdraws_any (n : Int) (w : World) : Calls Tryz.prog 85 #[.int .i64 n] w fun e w' => e = .returned (.bool (isDrB n)) ∧ Below w.heap.size w w' := by
 go_enter Tryz.func85, Tryz.ntmps85
 go_wp2_with fail; refine (rin_any n 0 200 w).mono ?_
 rintro e w' ⟨rfl, rfl⟩; go_wp2; go_ret
 exact ⟨rfl, Below.refl _ _⟩
end
end Go.Proofs.YtgmfhngcehkibaaGreat
namespace Go.Proofs.YtgmfhngcehkibaaGreat
structure IWag where
 leaves : Int
 takes : ISp
 room : Int
structure ILot where
 from_ : Int
 bales : Int
 price : Int
 until_ : Int
 less : Int
structure ICart where
 riv : IRiv
 draws : Int
 wg : List IWag
 lt : List ILot
def wagB (w : IWag) : Bool := inB w.leaves 0 10 && (decide (1 ≤ w.takes.lo) && (decide (w.takes.lo ≤ w.takes.hi) && (decide (w.takes.hi ≤ 6) && inB w.room 0 30)))
def lotB (l : ILot) : Bool := inB l.from_ 0 10 && (inB l.bales 1 20 && (inB l.price 0 50 && (inB l.until_ 0 20 && inB l.less 0 l.price)))
def headC (c : ICart) : Bool := okR c.riv && (isDrB c.draws && (decide (c.wg.length ≤ 3) && decide (c.lt.length ≤ 5)))
def okC (c : ICart) : Bool := headC c && c.wg.all wagB && c.lt.all lotB
theorem okC_parts {c : ICart} (h : okC c = true) : okR c.riv = true ∧ isDrB c.draws = true ∧ c.wg.length ≤ 3 ∧ c.lt.length ≤ 5 ∧ (∀ w ∈ c.wg, wagB w = true) ∧ ∀ l ∈ c.lt, lotB l = true := by
 unfold okC headC at h; simp only [Bool.and_eq_true, decide_eq_true_eq, List.all_eq_true] at h; exact ⟨h.1.1.1, h.1.1.2.1, h.1.1.2.2.1, h.1.1.2.2.2, h.1.2, h.2⟩
theorem wagB_iff {w : IWag} : wagB w = true ↔ 0 ≤ w.leaves ∧ w.leaves ≤ 10 ∧ 1 ≤ w.takes.lo ∧ w.takes.lo ≤ w.takes.hi ∧ w.takes.hi ≤ 6 ∧ 0 ≤ w.room ∧ w.room ≤ 30 := by
 unfold wagB; simp only [Bool.and_eq_true, decide_eq_true_eq, inB_iff]
 omega
theorem lotB_iff {l : ILot} : lotB l = true ↔ 0 ≤ l.from_ ∧ l.from_ ≤ 10 ∧ 1 ≤ l.bales ∧ l.bales ≤ 20 ∧ 0 ≤ l.price ∧ l.price ≤ 50 ∧ 0 ≤ l.until_ ∧ l.until_ ≤ 20 ∧ 0 ≤ l.less ∧ l.less ≤ l.price := by
 unfold lotB; simp only [Bool.and_eq_true, inB_iff]
 omega
def comesP (w : IWag) : Int × Int := (w.leaves + w.takes.lo, w.leaves + w.takes.hi)
def allT (days : Nat) (S : Nat) (first : Nat) : Nat → Bool
 | 0 => true
 | n + 1 => allT days S first n && (decide (first + n ≤ days) && S.testBit (first + n))
def someT (days : Nat) (S : Nat) (first : Nat) : Nat → Bool
 | 0 => false
 | n + 1 => someT days S first n || (decide (first + n ≤ days) && S.testBit (first + n))
def timelyW (r : Riv) (draws : Nat) (w : IWag) : Nat :=
 let first := (w.leaves + w.takes.lo).toNat
 let n := (w.takes.hi - w.takes.lo + 1).toNat
 if allT r.days (surelyP r draws) first n = true then 2 else if someT r.days (perhapsP r draws) first n = true then 1 else 0
def ICart.tm (c : ICart) (w : IWag) : Nat := timelyW c.riv.nat c.draws.toNat w
def brokenW (t : Nat) (l : ILot) (w : IWag) (room : Int) : Nat :=
 if l.from_ > w.leaves then 1 else if l.bales > room then 2 else if t ≠ 2 then 3 else 0
def bringsP (l : ILot) (day : Int) : Int := if day ≤ l.until_ then l.bales * l.price else l.bales * l.less
abbrev Rm := Nat → Int
def takeR (R : Rm) (w : Nat) (b : Int) : Rm := fun i => if i = w then R i - b else R i
def roomP (ws : List IWag) : Rm := fun i => match ws[i]? with | some w => w.room | none => 0
section
variable (tm : IWag → Nat) (ws : List IWag)
def fitsW (l : ILot) (i : Nat) (R : Rm) : Bool := match ws[i]? with
 | some w => brokenW (tm w) l w (R i) == 0
 | none => false
def checkL : Nat → List ILot → List Int → Rm → Option (Nat × Nat)
 | k, l :: ls, p :: ps, R =>
  if p < 0 then checkL (k + 1) ls ps R else
   match ws[p.toNat]? with
   | some w => if brokenW (tm w) l w (R p.toNat) = 0 then checkL (k + 1) ls ps (takeR R p.toNat l.bales) else some (k, brokenW (tm w) l w (R p.toNat))
   | none => none
 | _, _, _, _ => none
def bestL : Int × Int → List (Int × Int) → Int × Int
 | x, [] => x
 | x, y :: l => if x.1 < y.1 then bestL y l else bestL x l
section
variable (of_ : ILot → IWag → Int)
def waysL (l : ILot) (on : Rm → Int × Int) (R : Rm) : Nat → List (Int × Int)
 | 0 => []
 | n + 1 => waysL l on R n ++ (match ws[n]? with
  | some w => if brokenW (tm w) l w (R n) = 0 then [(of_ l w + (on (takeR R n l.bales)).1, (n : Int))] else []
  | none => [])
def onP : List ILot → Rm → Int × Int
 | [], _ => (0, 0)
 | l :: ls, R => bestL ((onP ls R).1, -1) (waysL tm ws of_ l (onP ls) R ws.length)
def planL : List ILot → Rm → List Int
 | [], _ => []
 | l :: ls, R =>
  let w := (onP tm ws of_ (l :: ls) R).2
  w :: planL ls (if 0 ≤ w then takeR R w.toNat l.bales else R)
end
end
theorem bestL_append : ∀ (l : List (Int × Int)) (x : Int × Int) (m : List (Int × Int)), bestL x (l ++ m) = bestL (bestL x l) m
 | [], _, _ => rfl
 | y :: l, x, m => by
  rw [List.cons_append, bestL, bestL]
  split
  ·exact bestL_append l y m
  ·exact bestL_append l x m
section
variable (tm : IWag → Nat) (ws : List IWag) (of_ : ILot → IWag → Int)
theorem fitsW_some {l : ILot} {n : Nat} {w : IWag} {R : Rm} (hw : ws[n]? = some w) : fitsW tm ws l n R = (brokenW (tm w) l w (R n) == 0) := by unfold fitsW; rw [hw]
def bestN (l : ILot) (ls : List ILot) (R : Rm) (n : Nat) : Int × Int := bestL ((onP tm ws of_ ls R).1, -1) (waysL tm ws of_ l (onP tm ws of_ ls) R n)
theorem bestN_succ (l : ILot) (ls : List ILot) (R : Rm) {n : Nat} {w : IWag} (hw : ws[n]? = some w) : bestN tm ws of_ l ls R (n + 1) =
  if brokenW (tm w) l w (R n) = 0 ∧ (bestN tm ws of_ l ls R n).1 < of_ l w + (onP tm ws of_ ls (takeR R n l.bales)).1 then (of_ l w + (onP tm ws of_ ls (takeR R n l.bales)).1, (n : Int)) else bestN tm ws of_ l ls R n := by
 unfold bestN; rw [waysL, bestL_append, hw]; simp only
 by_cases a : brokenW (tm w) l w (R n) = 0
 ·rw [if_pos a, bestL]; simp only [bestL, a, true_and]
 ·rw [if_neg a, bestL, if_neg (fun h => a h.1)]
theorem onP_best (l : ILot) (ls : List ILot) (R : Rm) : onP tm ws of_ (l :: ls) R = bestN tm ws of_ l ls R ws.length := rfl
structure BestI (l : ILot) (ls : List ILot) (R : Rm) (n : Nat) : Prop where
 no : (onP tm ws of_ ls R).1 ≤ (bestN tm ws of_ l ls R n).1
 no_eq : (onP tm ws of_ ls R).1 = (bestN tm ws of_ l ls R n).1 → (bestN tm ws of_ l ls R n).2 = -1
 on : ∀ (i : Nat) (w : IWag), i < n → ws[i]? = some w → brokenW (tm w) l w (R i) = 0 → of_ l w + (onP tm ws of_ ls (takeR R i l.bales)).1 ≤ (bestN tm ws of_ l ls R n).1
 on_eq : ∀ (i : Nat) (w : IWag), i < n → ws[i]? = some w → brokenW (tm w) l w (R i) = 0 → of_ l w + (onP tm ws of_ ls (takeR R i l.bales)).1 = (bestN tm ws of_ l ls R n).1 → (bestN tm ws of_ l ls R n).2 ≤ i
 is : ((bestN tm ws of_ l ls R n).2 = -1 ∧ (bestN tm ws of_ l ls R n).1 = (onP tm ws of_ ls R).1) ∨ ∃ (i : Nat) (w : IWag), i < n ∧ ws[i]? = some w ∧ brokenW (tm w) l w (R i) = 0 ∧ (bestN tm ws of_ l ls R n).2 = i ∧ (bestN tm ws of_ l ls R n).1 = of_ l w + (onP tm ws of_ ls (takeR R i l.bales)).1
theorem bestI (l : ILot) (ls : List ILot) (R : Rm) : ∀ n, n ≤ ws.length → BestI tm ws of_ l ls R n
 | 0, _ => ⟨Int.le_refl _, fun _ => rfl, fun i _ h => by omega, fun i _ h => by omega, .inl ⟨rfl, rfl⟩⟩
 | n + 1, hn => by
  have ih := bestI l ls R n (by omega)
  obtain ⟨w, hw⟩ : ∃ w, ws[n]? = some w := ⟨_, List.getElem?_eq_getElem (by omega)⟩
  have hs := bestN_succ tm ws of_ l ls R hw
  have hb2 : (bestN tm ws of_ l ls R n).2 < n := by
   rcases ih.is with ⟨h, -⟩ | ⟨i, _, h1, _, _, h2, _⟩
   ·omega
   ·omega
  by_cases a : brokenW (tm w) l w (R n) = 0 ∧ (bestN tm ws of_ l ls R n).1 < of_ l w + (onP tm ws of_ ls (takeR R n l.bales)).1
  ·rw [if_pos a] at hs; have b := a.2; have i1 := ih.no
   refine ⟨by rw [hs]; simp only; omega, fun h => ?_, fun i w' hi hw' hf => ?_, fun i w' hi hw' hf h => ?_, .inr ⟨n, w, by omega, hw, a.1, by rw [hs], by rw [hs]⟩⟩
   ·rw [hs] at h; simp only at h; omega
   ·rw [hs]; simp only
    by_cases e : i = n
    ·subst e; rw [hw] at hw'; cases hw'; exact Int.le_refl _
    ·have := ih.on i w' (by omega) hw' hf; omega
   ·rw [hs] at h ⊢; simp only at h ⊢
    by_cases e : i = n
    ·subst e; exact Int.le_refl _
    ·have := ih.on i w' (by omega) hw' hf; omega
  ·rw [if_neg a] at hs
   refine ⟨by rw [hs]; exact ih.no, by rw [hs]; exact ih.no_eq, fun i w' hi hw' hf => ?_, fun i w' hi hw' hf h => ?_, by rw [hs]; exact ih.is.imp_right fun ⟨i, w', h1, h2⟩ => ⟨i, w', by omega, h2⟩⟩
   ·rw [hs]
    by_cases e : i = n
    ·subst e; rw [hw] at hw'; cases hw'
     by_cases c : (bestN tm ws of_ l ls R i).1 < of_ l w + (onP tm ws of_ ls (takeR R i l.bales)).1
     ·exact absurd ⟨hf, c⟩ a
     ·omega
    ·exact ih.on i w' (by omega) hw' hf
   ·rw [hs] at h ⊢
    by_cases e : i = n
    ·subst e; omega
    ·exact ih.on_eq i w' (by omega) hw' hf h
theorem onP_is (l : ILot) (ls : List ILot) (R : Rm) : BestI tm ws of_ l ls R ws.length := bestI tm ws of_ l ls R _ (Nat.le_refl _)
def nextR (R : Rm) (l : ILot) (w : Int) : Rm := if 0 ≤ w then takeR R w.toNat l.bales else R
theorem planL_cons (l : ILot) (ls : List ILot) (R : Rm) : planL tm ws of_ (l :: ls) R = (onP tm ws of_ (l :: ls) R).2 :: planL tm ws of_ ls (nextR R l (onP tm ws of_ (l :: ls) R).2) := rfl
end
end Go.Proofs.YtgmfhngcehkibaaGreat
