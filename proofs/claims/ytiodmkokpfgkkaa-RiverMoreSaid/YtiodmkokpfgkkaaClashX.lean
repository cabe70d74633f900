/- The walk of Clash, for every river. No condition. The law's own functions: spans, looks, the document's river; condition: none. The walk of alive: what the document's examples answer. No condition. -/
import Derived.Test.YtiodmkokpfgkkaaPlainA
import Derived.Test.YtiodmkokpfgkkaaSortA
import Derived.Test.YtiodmkokpfgkkaaFreshX
import Derived.Laws.MakeOwn
import Derived.Laws.CopyOwn
namespace Go.Proofs.Ytiodmkokpfgkkaa
open Go.RowKit Go.Hav Go.Shelf Go.Sq
attribute [local go_sem] Oper.semAt_some
/-- The first k numbers, then zeros. -/
def fillN (n k : Nat) : List Nat := (List.range n).map fun i => if i < k then i else 0
theorem fillN_zero (n : Nat) : fillN n 0 = List.replicate n 0 := by
 apply List.ext_getElem <;> simp [fillN]
theorem fillN_all (n : Nat) : fillN n n = List.range n := by
 apply List.ext_getElem
 ·simp [fillN]
 ·intro i h1 h2
  simp [fillN] at h1 ⊢
  omega
theorem fillN_set (n k : Nat) : (fillN n k).set k k = fillN n (k + 1) := by
 apply List.ext_getElem
 ·simp [fillN]
 ·intro i h1 h2
  simp only [fillN, List.getElem_set, List.getElem_map, List.getElem_range]
  by_cases e : k = i
  ·subst e; simp
  ·rw [if_neg e]
   by_cases h : i < k
   ·rw [if_pos h, if_pos (by omega)]
   ·rw [if_neg h, if_neg (by omega)]
theorem fillN_len (n k : Nat) : (fillN n k).length = n := by simp [fillN]
theorem uA_size (M : List Nat) : (uA M).size = M.length := by simp [uA]
theorem uA_zero (n : Nat) : madeCells #[.int .u64 0] n = uA (List.replicate n 0) := by
 apply Array.ext'
 rw [toList_madeCells_one]
 simp [uA]
theorem Try.infoE82 : (Try.prog.info? 82).map (fun i => (i.zero, i.size, i.bytes)) = some (some (.int .u64 0), 1, 8) := by kernel_rfl
theorem make_sets (k : IntKind) (n : Nat) (hn : n ≤ 1000) (w : World) : (Instr.makeSlice 111 (.int k (n : Int)) (.int k (n : Int))).run Try.prog w = .ok (.slice (some ⟨w.heap.size, 0, none⟩) n n) (w.alloc (.cells (uA (List.replicate n 0)) 82)) := by
 obtain ⟨i, hi, hz0, hz1, hz2⟩ := info_parts Try.infoE82
 have hr := run_make (P := Try.prog) w 111 82 i (.int .u64 0) Try.underlying111 hi hz0 k k n n (by omega) (by omega) (by rw [hz2]; omega) (by omega)
 simp only [Int.toNat_natCast, hz1, Nat.mul_one] at hr
 rw [hr, show Value.cells (.int .u64 0) = #[.int .u64 0] from rfl, uA_zero]
theorem copy_sets {W : World} {g n b : Nat} {M old : List Nat} (hl : M.length = n) (ho : old.length = n) (hb : Blk W g 82 (uA old)) (hr : Blk W b 82 (uA M)) :
  ∃ w1, (Builtin.copy_ #[111, 111] 3 #[.slice (some ⟨g, 0, none⟩) n n, .slice (some ⟨b, 0, none⟩) n n]).run Try.prog W = .ok (.int .i64 n) w1 ∧ Blk w1 g 82 (uA M) ∧ Below g W w1 := by
 have h := run_copy_row (P := Try.prog) W 111 111 3 82 g 0 n n ⟨b, 0, none⟩ n n (uA old) 82 (M.map fun m : Nat => Value.int .u64 m) Try.underlying111 (by kernel_rfl) hb (by simp [hl])
  (fun j v hv => by
   have e : (uA M)[j]? = some v := by rw [uA_get]; rwa [List.getElem?_map] at hv
   have := (hr.cell j).trans e
   unfold Addr.add
   split
   ·rename_i hz; subst hz; exact this
   ·simpa using this) (by simp [uA_size, hl, ho]) (by
   intro v hv
   obtain ⟨x, _, rfl⟩ := List.mem_map.1 hv
   rfl)
 have e : ((uA old).toList.take 0 ++ (M.map fun m : Nat => Value.int .u64 m) ++ (uA old).toList.drop (0 + (M.map fun m : Nat => Value.int .u64 m).length)).toArray = uA M := by
  simp [uA, hl, ho]
 rw [e] at h
 exact ⟨_, by rw [h, List.length_map, hl]; rfl, setRow_heap W g (uA old) (uA M) 82 (0, 0) hb, below_setRow (Below.refl _ _) (Nat.le_refl _) _⟩
/-- If no look is wrong, no set of looks is. -/
theorem truths_sub {r : Riv} {s : Nat} (h : truthsA r ≠ []) : clashB r s = false := by
 obtain ⟨t, ht⟩ := List.exists_mem_of_ne_nil _ h
 have hm : t ∈ truthsP r s := by
  unfold truthsA truthsP at ht
  unfold truthsP
  rw [List.mem_filter] at ht ⊢
  refine ⟨ht.1, ?_⟩
  have h2 := ht.2
  unfold rightP at h2 ⊢
  rw [rightN_iff] at h2 ⊢
  intro k hk
  have h3 := h2 k hk
  unfold okP at h3 ⊢
  rw [List.getElem?_eq_getElem hk] at h3 ⊢
  simp only [tb_full, hk, decide_true, Bool.true_and, Bool.not_not] at h3 ⊢
  rw [h3]; simp
 unfold clashB
 cases e : truthsP r s with
 | nil => rw [e] at hm; simp at hm
 | cons a l => rfl
section
variable {B d k : Nat} {fa la : Option Addr} {fl fc ll lc : Nat} {r : Riv}
/-- The first set of a list that clashes is found. -/
theorem idxC (hv : r.Good) (ef : ∀ args w, (callFunc 88 args).run Try.prog w = .ok (.enter 88 args) w) {N go b4 : Nat} {BS : List Nat} (hl : BS.length = N) (hN : N ≤ 1000) (hx : ∀ x ∈ BS, x < 1000) {w : World} (hD : GauIn w B d k fa fl fc la ll lc r) (hK : KeptOK w k r) (hb : Blk w b4 70 #[(.pointer (some ⟨d, 0, none⟩))]) (hO : Blk w go 82 (uA BS)) (hbk : b4 ≠ k) :
  Calls Try.prog 87 #[.slice (some ⟨go, 0, none⟩) N N, .func (.func 88) #[] #[.pointer (some ⟨b4, 0, none⟩)]] w fun e w' => e = .returned (.int .i64 (firstI (fun j => !canB r (BS.getD j 0)) N)) ∧ Turn (fun x => x = k) w w' := by
 refine (index_any (f := 88) (n := N) (c := N) (cap := #[.pointer (some ⟨b4, 0, none⟩)]) (A := some ⟨go, 0, none⟩) (xs := BS) (w := w) (S := fun x => x = k) ef hl hN (fun _ a => KeptOK a k r ∧ Turn (fun x => x = k) w a) (fun j => !canB r (BS.getD j 0)) ?_ ?_ ⟨hK, Turn.refl _ _⟩).mono ?_
 ·rintro j a ⟨hka, hta⟩ i x hx
  have hne : go ≠ k := (hK.ne_blk hO).symm
  have hb := hO.turn hta (fun e => hne e)
  refine ⟨go, 0, rfl, hb.lt, fun q u hu => ?_⟩
  obtain ⟨rfl, rfl⟩ : q = 0 ∧ Value.int .u64 (x : Nat) = u := by
   cases q with
   | zero => exact ⟨rfl, by simpa [uF] using hu⟩
   | succ q => simp [uF] at hu
  rw [show 0 + (i * 1 + 0) = i by omega, hb.cell i, uA_get, hx]
  rfl
 ·rintro j x a hjx ⟨hka, hta⟩
  have hg : BS.getD j 0 = x := by rw [List.getD_eq_getElem?_getD, hjx]; rfl
  have hxN := hx x (List.mem_of_getElem? hjx)
  show Calls Try.prog 88 #[.int .u64 x, .pointer (some ⟨b4, 0, none⟩)] a _
  refine (is88 hv x b4 hxN a (hD.turn hta (fun b e => by have e' : b = k := e; have := hD.hk; omega) (fun e => hD.kd (show d = k from e).symm)) hka (hb.turn hta (fun e => hbk e))).mono ?_
  rintro e w' ⟨rfl, h1, h2⟩
  exact ⟨by rw [hg], ⟨h1, hta.trans (Turn.of_grownK h2)⟩, Turn.of_grownK h2⟩
 ·rintro e w' ⟨h1, h2, _⟩
  exact ⟨h1, h2⟩
end
section
variable {fa la : Option Addr} {fl fc ll lc : Nat} {r : IRiv} {w : World}
set_option maxRecDepth 100000 in
set_option maxHeartbeats 1600000 in
theorem PClash_err (hP : RvIn w w.heap.size fa fl la ll r) (h : okR r = false) :
  Calls Try.prog 28 #[(.agg #[.int .i64 r.depth.lo, .int .i64 r.depth.hi, .int .i64 r.fall.lo, .int .i64 r.fall.hi, .int .i64 r.days, .slice fa fl fc, .slice la ll lc])] w fun e w' => e = .returned (.tuple #[.int .i64 (clashV r), .int .i64 (clashE r)]) ∧ Below w.heap.size w w' := by
 have hE2 : clashE r = 1 := by unfold clashE; rw [if_pos h]
 have HR : Hid (Value.tuple #[.int .i64 (clashV r), .int .i64 (clashE r)] = .tuple #[.int .i64 0, .int .i64 1]) := by
  show _ = _
  unfold clashV
  rw [if_neg (by rw [hE2]; omega), hE2]
  rfl
 have HP := Lib.hid hP
 have HH := Lib.hid h
 have EG := Lib.hid (enters_of Try.func55 (by kernel_rfl) rfl)
 have EG83 := Lib.hid (enters_of Try.func83 (by kernel_rfl) rfl)
 clear hP h hE2
 refine (callsIn_wide (n := 6)).1 (callsIn_of_wp_marks Try.func28 rfl trivial ?_ rfl)
 simp only [Try.ntmps28, List.size_toArray, List.length_cons, List.length_nil, Nat.reduceAdd, Nat.reduceSub, Array.replicate_succ, Array.replicate_zero, List.push_toArray, List.append_toArray, List.nil_append, List.cons_append]
 refine wpIn_wide.2 ?_
 have hmf : ∀ (fn : Fn) (first cap : Array Value) (w : World), (Instr.makeFunc fn first cap).run Try.prog w = .ok (.func fn first cap) w := fun _ _ _ _ => rfl
 go_upto_region 2 with (fail)
 obtain ⟨W, hW⟩ : ∃ W, W = (w.alloc (.cells #[.int .i64 r.depth.lo, .int .i64 r.depth.hi, .int .i64 r.fall.lo, .int .i64 r.fall.hi, .int .i64 r.days, .slice fa fl fc, .slice la ll lc] 27)).alloc (.cells #[.int .i64 0] 30) := ⟨_, rfl⟩
 obtain ⟨B2, hB2⟩ : ∃ B2, B2 = w.heap.size := ⟨_, rfl⟩
 obtain ⟨B5, hB5⟩ : ∃ B5, B5 = w.heap.size + 1 := ⟨_, rfl⟩
 have HB0 : Hid (Below w.heap.size w W) := by rw [hW]; exact ((Below.refl _ _).alloc (Nat.le_refl _) _).alloc (by simp) _
 have HXB : Hid (Blk W B2 27 #[.int .i64 r.depth.lo, .int .i64 r.depth.hi, .int .i64 r.fall.lo, .int .i64 r.fall.hi, .int .i64 r.days, .slice fa fl fc, .slice la ll lc]) := by rw [hW, hB2]; exact (Blk.new w 27 _).alloc _
 have HX5 : Hid (Blk W B5 30 #[.int .i64 0]) := by rw [hW, hB5]; exact Blk.new_ (by simp) 30 _
 have HE : Hid (w.heap.size ≤ B5 ∧ w.heap.size ≤ W.heap.size ∧ B5 < W.heap.size) := ⟨by omega, HB0.out.size, HX5.out.lt⟩
 rw [← hW, ← hB5, ← hB2]
 clear hW hB2 hB5
 have q0 := HXB.out.cell 0
 have q1 := HXB.out.cell 1
 have q2 := HXB.out.cell 2
 have q3 := HXB.out.cell 3
 have q4 := HXB.out.cell 4
 have q5 := HXB.out.cell 5
 have q6 := HXB.out.cell 6
 have ql := HXB.out.lt
 simp at q0 q1 q2 q3 q4 q5 q6
 go_wp2_with fail
 refine (open_err 55 #[] EG.out (HP.out.grow HB0.out) (fun _ => isG_always) (.inl HH.out)).mono ?_
 rintro e w' ⟨h1, hb⟩
 rw [if_pos HH.out] at h1
 subst h1
 clear q0 q1 q2 q3 q4 q5 q6 ql
 obtain ⟨e1, e2, _⟩ := HE.out
 refine api_panic (ds := []) (B := W.heap.size) isAns83 EG83.out (Marks.nil _ _) (HX5.out.below hb HX5.out.lt) (fun w2 hk2 hfar hbel => ?_)
 have g0 := hk2.cell 0
 simp at g0
 refine ⟨.tuple #[.int .i64 0, .int .i64 1], by simp [results, Try.results28, go_sem, g0], by rw [HR.out], ?_⟩
 exact HB0.out.trans ((hb.mono e2).trans ((hbel w.heap.size e2 e1).mono (Nat.le_refl _)))
set_option maxRecDepth 100000 in
set_option maxHeartbeats 1600000 in
theorem PClash_go (hP : RvIn w w.heap.size fa fl la ll r) (hv : okR r = true) :
  Calls Try.prog 28 #[(.agg #[.int .i64 r.depth.lo, .int .i64 r.depth.hi, .int .i64 r.fall.lo, .int .i64 r.fall.hi, .int .i64 r.days, .slice fa fl fc, .slice la ll lc])] w fun e w' => e = .returned (.tuple #[.int .i64 (clashV r), .int .i64 (clashE r)]) ∧ Below w.heap.size w w' := by
 obtain ⟨nl, hnl⟩ : ∃ nl, r.nat.lk.length = nl := ⟨_, rfl⟩
 have hnl5 : nl ≤ 5 := by rw [← hnl]; exact (good_of hv).ll
 obtain ⟨N, hN⟩ : ∃ N, N = 2 ^ nl := ⟨_, rfl⟩
 have hN32 : 1 ≤ N ∧ N ≤ 32 ∧ N ≠ 20 := by
  have : nl = 0 ∨ nl = 1 ∨ nl = 2 ∨ nl = 3 ∨ nl = 4 ∨ nl = 5 := by omega
  rcases this with h | h | h | h | h | h <;> subst h <;> subst hN <;> decide
 obtain ⟨F, hF⟩ : ∃ F, full r.nat.lk.length = F := ⟨_, rfl⟩
 have hFN : F + 1 = N := by rw [← hF, hnl, hN]; unfold full; have := Nat.two_pow_pos nl; omega
 have hST : stableF N (List.range N) = bySize nl := by rw [hN]; exact stable_sets nl (by omega)
 have HFACT : Hid ((bySize nl).length = N ∧ ∀ x ∈ bySize nl, x < N) := by
  obtain ⟨b1, _, b3, _⟩ := bySize_facts nl (by omega)
  rw [← hN] at b1 b3
  exact ⟨b1, b3⟩
 have HRES : Hid ((∃ j v : Nat, j < N ∧ (bySize nl)[j]? = some v ∧ canB r.nat v = false ∧ (∀ i x, i < j → (bySize nl)[i]? = some x → canB r.nat x = true) ∧ Value.tuple #[.int .i64 (clashV r), .int .i64 (clashE r)] = .tuple #[.int .i64 v, .int .i64 0])
   ∨ ((∀ x, canB r.nat x = true) ∧ Value.tuple #[.int .i64 (clashV r), .int .i64 (clashE r)] = .tuple #[.int .i64 0, .int .i64 4])) := by
  have hcb : ∀ x, canB r.nat x = !clashB r.nat x := fun x => can_truths (good_of hv) x
  by_cases ht : truthsA r.nat = []
  ·have hcf : clashB r.nat (full nl) = true := by unfold clashB; rw [← hnl]; unfold truthsA at ht; rw [ht]; rfl
   obtain ⟨j, k1, k2, k3, k4⟩ := first_clash hnl hnl5 rfl hcf
   have hE : clashE r = 0 := by unfold clashE; rw [if_neg (by rw [hv]; simp), if_pos ht]
   refine .inl ⟨j, clashP r.nat, by rw [hN]; exact k1, k2, by rw [hcb, k3]; rfl, fun i x hi hx => by rw [hcb, k4 i x hi hx]; rfl, ?_⟩
   unfold clashV
   rw [if_pos hE, hE]
   rfl
  ·have hE : clashE r = 4 := by unfold clashE; rw [if_neg (by rw [hv]; simp), if_neg ht]
   refine .inr ⟨fun x => by rw [hcb, truths_sub ht]; rfl, ?_⟩
   unfold clashV
   rw [if_neg (by rw [hE]; omega), hE]
   rfl
 obtain ⟨BS, hBS⟩ : ∃ BS, BS = bySize nl := ⟨_, rfl⟩
 rw [← hBS] at hST HFACT HRES
 have HST := Lib.hid hST
 have HFF := Lib.hid hF
 have HP := Lib.hid hP
 have HV := Lib.hid hv
 have HGD : Hid (r.nat.Good) := good_of hv
 have EG := Lib.hid (enters_of Try.func55 (by kernel_rfl) rfl)
 have EG83 := Lib.hid (enters_of Try.func83 (by kernel_rfl) rfl)
 have EG88 := Lib.hid (enters_of Try.func88 (by kernel_rfl) rfl)
 have HWR : Hid (IntKind.u64.wrap ((F : Int) + 1) = (N : Int)) := by show _ = _; rw [IntKind.wrap_u64]; omega
 clear hP hv hST hnl hN hF hBS
 refine (callsIn_wide (n := 6)).1 (callsIn_of_wp_marks Try.func28 rfl trivial ?_ rfl)
 simp only [Try.ntmps28, List.size_toArray, List.length_cons, List.length_nil, Nat.reduceAdd, Nat.reduceSub, Array.replicate_succ, Array.replicate_zero, List.push_toArray, List.append_toArray, List.nil_append, List.cons_append]
 refine wpIn_wide.2 ?_
 have hmf : ∀ (fn : Fn) (first cap : Array Value) (w : World), (Instr.makeFunc fn first cap).run Try.prog w = .ok (.func fn first cap) w := fun _ _ _ _ => rfl
 go_upto_region 2 with (fail)
 obtain ⟨W, hW⟩ : ∃ W, W = (w.alloc (.cells #[.int .i64 r.depth.lo, .int .i64 r.depth.hi, .int .i64 r.fall.lo, .int .i64 r.fall.hi, .int .i64 r.days, .slice fa fl fc, .slice la ll lc] 27)).alloc (.cells #[.int .i64 0] 30) := ⟨_, rfl⟩
 obtain ⟨B2, hB2⟩ : ∃ B2, B2 = w.heap.size := ⟨_, rfl⟩
 obtain ⟨B5, hB5⟩ : ∃ B5, B5 = w.heap.size + 1 := ⟨_, rfl⟩
 have HB0 : Hid (Below w.heap.size w W) := by rw [hW]; exact ((Below.refl _ _).alloc (Nat.le_refl _) _).alloc (by simp) _
 have HXB : Hid (Blk W B2 27 #[.int .i64 r.depth.lo, .int .i64 r.depth.hi, .int .i64 r.fall.lo, .int .i64 r.fall.hi, .int .i64 r.days, .slice fa fl fc, .slice la ll lc]) := by rw [hW, hB2]; exact (Blk.new w 27 _).alloc _
 have HX5 : Hid (Blk W B5 30 #[.int .i64 0]) := by rw [hW, hB5]; exact Blk.new_ (by simp) 30 _
 have HE : Hid (w.heap.size ≤ B5 ∧ w.heap.size ≤ W.heap.size ∧ B5 < W.heap.size) := ⟨by omega, HB0.out.size, HX5.out.lt⟩
 rw [← hW, ← hB5, ← hB2]
 clear hW hB2 hB5
 have q0 := HXB.out.cell 0
 have q1 := HXB.out.cell 1
 have q2 := HXB.out.cell 2
 have q3 := HXB.out.cell 3
 have q4 := HXB.out.cell 4
 have q5 := HXB.out.cell 5
 have q6 := HXB.out.cell 6
 have ql := HXB.out.lt
 simp at q0 q1 q2 q3 q4 q5 q6
 go_wp2_with fail
 refine (open_ok 55 #[] EG.out (HP.out.grow HB0.out) (fun _ => isG_always) HV.out).mono ?_
 rintro e w1 ⟨d, k, rfl, hD, hK, hb0⟩
 have HB1 : Hid (Below W.heap.size W w1) := hb0
 have HD1 := Lib.hid hD
 have HK1 := Lib.hid hK
 have hkw1 : k < w1.heap.size := by obtain ⟨o, ho, _⟩ := hK.lt; exact (Array.getElem?_eq_some_iff.1 ho).1
 have hdw1 : d < w1.heap.size := hD.blk.lt
 clear hD hK hb0 q0 q1 q2 q3 q4 q5 q6 ql
 obtain ⟨B4, hB4⟩ : ∃ B4, B4 = w1.heap.size := ⟨_, rfl⟩
 obtain ⟨w2, hw2⟩ : ∃ w2, w2 = w1.alloc (.cells #[(.pointer (some ⟨d, 0, none⟩))] 70) := ⟨_, rfl⟩
 have HB2 : Hid (Below w1.heap.size w1 w2) := by rw [hw2]; exact (Below.refl _ _).alloc (Nat.le_refl _) _
 have HX4 : Hid (Blk w2 B4 70 #[(.pointer (some ⟨d, 0, none⟩))]) := by rw [hw2, hB4]; exact Blk.new w1 70 _
 have hs2 : w2.heap.size = B4 + 1 := by rw [hw2, hB4]; simp
 go_wp2_with fail
 rw [← hw2, ← hB4]
 have HS2 := Lib.hid hs2
 have HD2 := Lib.hid (HD1.out.grow HB2.out)
 have HK2 := Lib.hid (HK1.out.below HB2.out)
 have HB4E := Lib.hid hB4
 clear hw2 hs2 hB4
 refine (every_any HGD.out w2 HD2.out).mono ?_
 rw [HFF.out]
 rintro e wy ⟨rfl, hwy⟩
 obtain rfl : w2 = wy := hwy.symm
 have hwr := HWR.out
 have hmk := make_sets .u64 N (by omega)
 obtain ⟨ga, hga⟩ : ∃ ga, ga = w2.heap.size := ⟨_, rfl⟩
 obtain ⟨w3, hw3⟩ : ∃ w3, w3 = w2.alloc (.cells (uA (List.replicate N 0)) 82) := ⟨_, rfl⟩
 have HB3 : Hid (Below w2.heap.size w2 w3) := by rw [hw3]; exact (Below.refl _ _).alloc (Nat.le_refl _) _
 have HA3 : Hid (Blk w3 ga 82 (uA (fillN N 0))) := by rw [hw3, hga, fillN_zero]; exact Blk.new w2 82 _
 clear hwy
 go_wp2
 rw [← hw3, ← hga]
 have HGA := Lib.hid hga
 clear hwr hmk hw3 hga
 go_loopw [18] (fun v wr => ∃ i : Nat, i ≤ N ∧ v = .int .i64 i ∧ Hid (Blk wr ga 82 (uA (fillN N i))) ∧ Hid (Below w2.heap.size w2 wr)) (fun v _ => N - (intOf v).toNat)
 case atStart => exact ⟨0, Nat.zero_le _, rfl, HA3, HB3⟩
 case round =>
  obtain ⟨i, hi, rfl, HAI, HBI⟩ := hrel
  by_cases hlt : i < N
  ·have l1 := HAI.out.lt
   have f1 := HAI.out.frozen i
   obtain ⟨x, hx⟩ : ∃ x, wr.cell? ⟨ga, i, none⟩ = some x := by
    rw [HAI.out.cell, uA_at (by rw [fillN_len]; exact hlt)]; exact ⟨_, rfl⟩
   have hwi : IntKind.u64.wrap (i : Int) = (i : Int) := by rw [IntKind.wrap_u64]; omega
   go_wp2
   clear hwi
   go_roundw
   case rel =>
    refine ⟨i + 1, by omega, by go_num, ?_, HBI.out.setCell (p := ⟨ga, i, none⟩) (by have := HGA.out; simp; omega) _⟩
    have h := HAI.out.set_ i (.int .u64 i)
    rw [uA_set, fillN_set] at h
    exact h
   case measure => simp [intOf]; omega
  ·obtain rfl : N = i := by omega
   have HA4 : Hid (Blk wr ga 82 (uA (List.range N))) := by rw [← fillN_all]; exact HAI
   clear HAI
   have hmk := make_sets .i64 N (by omega)
   obtain ⟨go, hgo⟩ : ∃ go, go = wr.heap.size := ⟨_, rfl⟩
   obtain ⟨w4, hw4⟩ : ∃ w4, w4 = wr.alloc (.cells (uA (List.replicate N 0)) 82) := ⟨_, rfl⟩
   have HB4 : Hid (Below wr.heap.size wr w4) := by rw [hw4]; exact (Below.refl _ _).alloc (Nat.le_refl _) _
   have HO4 : Hid (Blk w4 go 82 (uA (List.replicate N 0))) := by rw [hw4, hgo]; exact Blk.new wr 82 _
   have HA5 : Hid (Blk w4 ga 82 (uA (List.range N))) := HA4.out.below HB4.out HA4.out.lt
   obtain ⟨w5, hcp, hb5, hw5⟩ := copy_sets (n := N) (M := List.range N) (old := List.replicate N 0) (by simp) (by simp) HO4.out HA5.out
   have HO5 := Lib.hid hb5
   have HB5 : Hid (Below w2.heap.size w2 w5) := HBI.out.trans ((HB4.out.trans (hw5.mono (by omega))).mono HBI.out.size)
   rw [hw4, hgo] at hcp
   clear hb5 hw5 hw4
   go_wp2_with fail
   rw [← hgo]
   have hgw : w2.heap.size ≤ go := by have := HBI.out.size; omega
   clear hmk hcp hgo
   refine (sort84_any go N (List.range N) ⟨by simp, fun x hx => by have := List.mem_range.1 hx; omega⟩ hN32.1 (by omega) hN32.2.2 w5 HO5.out).mono ?_
   rw [HST.out]
   rintro e w6 ⟨rfl, h3, h4⟩
   have HO6 := Lib.hid h3
   have HB6 : Hid (Below w2.heap.size w2 w6) := HB5.out.trans (h4.mono hgw)
   have HD6 := Lib.hid (HD2.out.grow HB6.out)
   have HK6 := Lib.hid (HK2.out.below HB6.out)
   have HX6 : Hid (Blk w6 B4 70 #[(.pointer (some ⟨d, 0, none⟩))]) := HX4.out.below HB6.out HX4.out.lt
   have hkW : W.heap.size ≤ k := HD1.out.hk
   clear h3 h4
   go_wp2_with fail
   refine (idxC HGD.out EG88.out HFACT.out.1 (by omega) (fun x hx => by have := HFACT.out.2 x hx; omega) HD6.out HK6.out HX6.out HO6.out (by have := HB4E.out; omega)).mono ?_
   rcases HRES.out with ⟨j, v, k1, k2, k3, k4, k5⟩ | ⟨k1, k2⟩
   ·have hgd : ∀ i x, BS[i]? = some x → BS.getD i 0 = x := fun i x hx => by rw [List.getD_eq_getElem?_getD, hx]; rfl
    rw [firstI_at (j := j) k1 (by rw [hgd j v k2, k3]; rfl) (fun i hi => by
     obtain ⟨x, hx⟩ : ∃ x, BS[i]? = some x := ⟨_, List.getElem?_eq_getElem (by have := HFACT.out.1; omega)⟩
     rw [hgd i x hx, k4 i x hi hx]; rfl)]
    rintro e w7 ⟨rfl, ht7⟩
    have HT7 := Lib.hid ht7
    have HRR := Lib.hid k5
    have HKV := Lib.hid k2
    have hvN := HFACT.out.2 v (List.mem_of_getElem? k2)
    clear ht7 k2 k3 k4 k5 hgd
    go_wp2_with fail
    refine (must_any true 4 w7).mono ?_
    rintro e w8 ⟨rfl, hw8⟩
    obtain rfl : w7 = w8 := hw8.symm
    have HB7 : Hid (Below W.heap.size W w7) := (HB1.out.trans ((HB2.out.trans (HB6.out.mono HB2.out.size)).mono HB1.out.size)).trans (HT7.out.below (by have := HB1.out.size; have := HB2.out.size; have := HB6.out.size; omega) (fun b e => by have e' : b = k := e; omega))
    have HO7 : Hid (Blk w7 go 82 (uA BS)) := HO6.out.turn HT7.out (fun e => HK6.out.ne_blk HO6.out (show go = k from e).symm)
    have HY5 : Hid (Blk w7 B5 30 #[.int .i64 0]) := HX5.out.below HB7.out HX5.out.lt
    have c0 : w7.cell? ⟨go, j, none⟩ = some (.int .u64 v) := by rw [HO7.out.cell j, uA_get, HKV.out]; rfl
    have l0 := HO7.out.lt
    have c2 : w7.cell? ⟨B5, 0, none⟩ = some (.int .i64 0) := HY5.out.cell 0
    have f2 := HY5.out.frozen 0
    have l5 := HY5.out.lt
    have hjN : (j : Int) < (N : Int) := by omega
    have hwv : IntKind.i64.wrap (v : Int) = (v : Int) := IntWalk.i64_in _ (by omega)
    clear hw8
    go_wp2
    obtain ⟨W9, hW9⟩ : ∃ W9, W9 = w7.setCell ⟨B5, 0, none⟩ (.int .i64 0) := ⟨_, rfl⟩
    rw [← hW9]
    have HT5 : Blk W9 B5 30 #[.int .i64 0] := by rw [hW9]; exact HY5.out.set_ 0 _
    obtain ⟨e1, e2, _⟩ := HE.out
    have hB9 : Below w.heap.size w W9 := by rw [hW9]; exact setCell_below (HB0.out.trans (HB7.out.mono e2)) e1 _ _
    refine api_ret (ds := []) (B := W.heap.size) isAns83 EG83.out (Marks.nil _ _) (fun w4 hk hbel => ?_)
    have g2 := (hk _ _ _ HT5).cell 0
    simp at g2
    refine ⟨.tuple #[.int .i64 v, .int .i64 0], by simp [results, Try.results28, go_sem, g2], by rw [HRR.out], ?_⟩
    exact hB9.trans (hbel w.heap.size e2)
   ·rw [firstI_no (fun i hi => by rw [k1]; rfl)]
    rintro e w7 ⟨rfl, ht7⟩
    have HT7 := Lib.hid ht7
    have HRR := Lib.hid k2
    clear ht7 k1 k2
    go_wp2_with fail
    refine (must_any false 4 w7).mono ?_
    rintro e w8 ⟨rfl, hw8⟩
    obtain rfl : w7 = w8 := hw8.symm
    have hb : Below W.heap.size W w7 := (HB1.out.trans ((HB2.out.trans (HB6.out.mono HB2.out.size)).mono HB1.out.size)).trans (HT7.out.below (by have := HB1.out.size; have := HB2.out.size; have := HB6.out.size; omega) (fun b e => by have e' : b = k := e; omega))
    obtain ⟨e1, e2, _⟩ := HE.out
    refine api_panic (ds := []) (B := W.heap.size) isAns83 EG83.out (Marks.nil _ _) (HX5.out.below hb HX5.out.lt) (fun w2 hk2 hfar hbel => ?_)
    have g0 := hk2.cell 0
    simp at g0
    refine ⟨.tuple #[.int .i64 0, .int .i64 4], by simp [results, Try.results28, go_sem, g0], by rw [HRR.out], ?_⟩
    exact HB0.out.trans ((hb.mono e2).trans ((hbel w.heap.size e2 e1).mono (Nat.le_refl _)))
theorem PClash_any (hP : RvIn w w.heap.size fa fl la ll r) : Calls Try.prog 28 #[(.agg #[.int .i64 r.depth.lo, .int .i64 r.depth.hi, .int .i64 r.fall.lo, .int .i64 r.fall.hi, .int .i64 r.days, .slice fa fl fc, .slice la ll lc])] w fun e w' => e = .returned (.tuple #[.int .i64 (clashV r), .int .i64 (clashE r)]) ∧ Below w.heap.size w w' := by
 cases hv : okR r
 ·exact PClash_err hP hv
 ·exact PClash_go hP hv
end
end Go.Proofs.Ytiodmkokpfgkkaa
namespace Go.Proofs.Ytiodmkokpfgkkaa
open Go.RowKit Go.Hav Go.Shelf Go.Sq
attribute [local go_sem] Oper.semAt_some
theorem lspan_any (lo hi : Int) (w : World) : Calls Try.prog 30 #[.int .i64 lo, .int .i64 hi] w fun e w' => e = .returned (.agg #[.int .i64 lo, .int .i64 hi]) ∧ Below w.heap.size w w' := by
 go_enter Try.func30, Try.ntmps30
 go_wp2
 refine bodyPost_ret (v := .agg #[.int .i64 lo, .int .i64 hi]) (by simp [results, Try.results30, go_sem]) rfl ⟨rfl, (by repeat (first | exact Below.refl _ _ | assumption | refine Below.drew ?_ | refine below_drewN ?_ _ | refine Below.alloc ?_ (by (try simp) <;> omega) _ | refine Below.setCell ?_ (by (try simp) <;> omega) _ | refine Below.trans ?_ (Below.mono (by assumption) (by (try simp) <;> omega))))⟩
theorem look_any (day lo hi : Int) (w : World) : Calls Try.prog 40 #[.int .i64 day, .int .i64 lo, .int .i64 hi] w fun e w' => e = .returned (.agg #[.int .i64 day, .int .i64 lo, .int .i64 hi]) ∧ Below w.heap.size w w' := by
 go_enter Try.func40, Try.ntmps40
 go_wp2_with fail
 refine (lspan_any lo hi _).mono ?_
 rintro e w1 ⟨rfl, hbw1⟩; obtain ⟨hcw1, hfw1⟩ := bcell hbw1; have hzw1 := hbw1.size; (try simp at hzw1)
 go_wp2
 have hk := (((Blk.new_ (w := w) rfl 58 #[.int .i64 0, .int .i64 0, .int .i64 0]).below hbw1 (by simp)).set_ 0 (.int .i64 day)).set_ 1 (.int .i64 lo) |>.set_ 2 (.int .i64 hi)
 have e0 := hk.cell 0
 have e1 := hk.cell 1
 have e2 := hk.cell 2
 simp at e0 e1 e2
 refine bodyPost_ret (v := .agg #[.int .i64 day, .int .i64 lo, .int .i64 hi]) (by simp [results, Try.results40, go_sem, e0, e1, e2]) rfl ⟨rfl, ?_⟩
 exact setCell_below (setCell_below (setCell_below (((Below.refl w.heap.size w).alloc (Nat.le_refl _) _).trans (hbw1.mono (by simp))) (Nat.le_refl _) 0 _) (Nat.le_refl _) 1 _) (Nat.le_refl _) 2 _
theorem RdG.of_blk {α : Type} {f : α → List Value} {sz : Nat} (hsz : ∀ x, (f x).length = sz) {w : World} {B g : Nat} {t : TypeId} {l : List α} (h : Blk w g t (l.flatMap f).toArray) (hB : g < B) : RdG f sz w B (some ⟨g, 0, none⟩) l := by
 intro k x hx
 refine ⟨g, 0, rfl, hB, fun i u hu => ?_⟩
 have hi : i < sz := by rw [← hsz x]; exact (List.getElem?_eq_some_iff.1 hu).1
 rw [Nat.zero_add, h.cell, List.getElem?_toArray, flat_get f sz hsz l k i hi, hx]
 exact hu
theorem RdG.turned {α : Type} {f : α → List Value} {sz : Nat} {w w' : World} {B : Nat} {A : Option Addr} {l : List α} {S : Nat → Prop} (h : RdG f sz w B A l) (hB : B ≤ w.heap.size) (t : Turn S w w') (hs : ∀ b off, A = some ⟨b, off, none⟩ → ¬ S b) : RdG f sz w' B A l :=
 h.keep fun b hb ⟨off, he⟩ => t.block b (by omega) (hs b off he)
theorem RvIn.turned {w w' : World} {fa la : Option Addr} {fl ll : Nat} {r : IRiv} {S : Nat → Prop} (h : RvIn w w.heap.size fa fl la ll r) (t : Turn S w w') (hf : ∀ b off, fa = some ⟨b, off, none⟩ → ¬ S b) (hl : ∀ b off, la = some ⟨b, off, none⟩ → ¬ S b) : RvIn w' w'.heap.size fa fl la ll r :=
 { h with hfr := (h.hfr.turned (Nat.le_refl _) t hf).more t.size, hlk := (h.hlk.turned (Nat.le_refl _) t hl).more t.size }
/-- Seven cells of a river are stored. -/
def set7 (w : World) (g : Nat) (a b c d e f h : Value) : World := ((((((w.setCell ⟨g, 0, none⟩ a).setCell ⟨g, 1, none⟩ b).setCell ⟨g, 2, none⟩ c).setCell ⟨g, 3, none⟩ d).setCell ⟨g, 4, none⟩ e).setCell ⟨g, 5, none⟩ f).setCell ⟨g, 6, none⟩ h
theorem set7_blk {w : World} {g : Nat} {a b c d e f h a' b' c' d' e' f' h' : Value} (hb : Blk w g 27 #[a', b', c', d', e', f', h']) : Blk (set7 w g a b c d e f h) g 27 #[a, b, c, d, e, f, h] := by
 have h0 : Blk _ g 27 #[a, b', c', d', e', f', h'] := hb.set_ 0 a
 have h1 : Blk _ g 27 #[a, b, c', d', e', f', h'] := h0.set_ 1 b
 have h2 : Blk _ g 27 #[a, b, c, d', e', f', h'] := h1.set_ 2 c
 have h3 : Blk _ g 27 #[a, b, c, d, e', f', h'] := h2.set_ 3 d
 have h4 : Blk _ g 27 #[a, b, c, d, e, f', h'] := h3.set_ 4 e
 have h5 : Blk _ g 27 #[a, b, c, d, e, f, h'] := h4.set_ 5 f
 have h6 : Blk _ g 27 #[a, b, c, d, e, f, h] := h5.set_ 6 h
 exact h6
theorem set7_below {w w' : World} {B g : Nat} (hb : Below B w w') (hg : B ≤ g) (a b c d e f h : Value) : Below B w (set7 w' g a b c d e f h) := by
 unfold set7
 exact setCell_below (setCell_below (setCell_below (setCell_below (setCell_below (setCell_below (setCell_below hb hg _ _) hg _ _) hg _ _) hg _ _) hg _ _) hg _ _) hg _ _
theorem set7_turn (w : World) (g : Nat) (a b c d e f h : Value) : Turn (fun x => x = g) w (set7 w g a b c d e f h) := by
 unfold set7
 refine Turn.trans (Turn.trans (Turn.trans (Turn.trans (Turn.trans (Turn.trans (Turn.set _ _ (fun _ => rfl)) (Turn.set _ _ (fun _ => rfl))) (Turn.set _ _ (fun _ => rfl))) (Turn.set _ _ (fun _ => rfl))) (Turn.set _ _ (fun _ => rfl))) (Turn.set _ _ (fun _ => rfl))) (Turn.set _ _ (fun _ => rfl))
def sampR (l : List ILk) : IRiv := ⟨⟨10, 11⟩, ⟨1, 2⟩, 5, [⟨⟨2, 3⟩, ⟨4, 5⟩⟩], l⟩
section
variable {la : Option Addr} {ll lc : Nat}
/-- The document's river, with looks. -/
def SampPost (la : Option Addr) (ll lc : Nat) (l : List ILk) (w : World) (e : Ending) (w' : World) : Prop :=
 (∃ g, w.heap.size ≤ g ∧ e = .returned (.agg #[.int .i64 10, .int .i64 11, .int .i64 1, .int .i64 2, .int .i64 5, .slice (some ⟨g, 0, none⟩) 1 1, .slice la ll lc]) ∧ RvIn w' w'.heap.size (some ⟨g, 0, none⟩) 1 la ll (sampR l)) ∧ Below w.heap.size w w'
set_option maxRecDepth 100000 in
set_option maxHeartbeats 1600000 in
theorem sample_any (l : List ILk) (hl : l.length = ll) (h4 : ll ≤ 1000) (w : World) (hR : RdG lkI 3 w w.heap.size la l) :
  Calls Try.prog 31 #[.slice la ll lc] w (SampPost la ll lc l w) := by
 have HR := Lib.hid hR
 have HL := Lib.hid hl
 clear hR hl
 go_enter Try.func31, Try.ntmps31
 go_wp2_with fail
 refine (lspan_any _ _ _).mono ?_; rintro e w1 ⟨rfl, hb1⟩
 have HZ1 : Hid (Blk w1 w.heap.size 27 #[.int .i64 0, .int .i64 0, .int .i64 0, .int .i64 0, .int .i64 0, .slice none 0 0, .slice none 0 0]) := (Blk.new_ rfl _ _).below hb1 (by simp)
 have HB1 : Hid (Below w.heap.size w w1) := ((Below.refl w.heap.size w).alloc (Nat.le_refl _) _).trans (hb1.mono (by simp))
 clear hb1
 go_wp2_with fail
 refine (lspan_any _ _ _).mono ?_; rintro e w2 ⟨rfl, hb2⟩
 have HZ2 := Lib.hid (HZ1.out.below hb2 HZ1.out.lt)
 have HB2 : Hid (Below w.heap.size w w2) := HB1.out.trans (hb2.mono HB1.out.size)
 clear hb2
 go_wp2_with fail
 refine (lspan_any _ _ _).mono ?_; rintro e w3 ⟨rfl, hb3⟩
 have HZ3 := Lib.hid (HZ2.out.below hb3 HZ2.out.lt)
 have HB3 : Hid (Below w.heap.size w w3) := HB2.out.trans (hb3.mono HB2.out.size)
 clear hb3
 go_wp2_with fail
 refine (lspan_any _ _ _).mono ?_; rintro e w4 ⟨rfl, hb4⟩
 have HZ4 := Lib.hid (HZ3.out.below hb4 HZ3.out.lt)
 have HB4 : Hid (Below w.heap.size w w4) := HB3.out.trans (hb4.mono HB3.out.size)
 clear hb4
 have hz0 := HZ4.out.cell 0
 have hz1 := HZ4.out.cell 1
 have hz2 := HZ4.out.cell 2
 have hz3 := HZ4.out.cell 3
 have hz4 := HZ4.out.cell 4
 have hz5 := HZ4.out.cell 5
 have hz6 := HZ4.out.cell 6
 have fz0 := HZ4.out.frozen 0
 have fz1 := HZ4.out.frozen 1
 have fz2 := HZ4.out.frozen 2
 have fz3 := HZ4.out.frozen 3
 have fz4 := HZ4.out.frozen 4
 have fz5 := HZ4.out.frozen 5
 have fz6 := HZ4.out.frozen 6
 simp at hz0 hz1 hz2 hz3 hz4 hz5 hz6
 have hlt := HZ4.out.lt
 go_wp2
 obtain ⟨W5, hW5⟩ : ∃ W5, W5 = set7 w4 w.heap.size (.int .i64 10) (.int .i64 11) (.int .i64 1) (.int .i64 2) (.int .i64 5) (.slice (some ⟨w4.heap.size, 0, none⟩) 1 1) (.slice la ll lc) := ⟨_, rfl⟩
 have hs5 : W5.heap.size = w4.heap.size := by rw [hW5]; simp [set7, World.setCell]
 have HK5 : Blk W5 w.heap.size 27 #[.int .i64 10, .int .i64 11, .int .i64 1, .int .i64 2, .int .i64 5, .slice (some ⟨w4.heap.size, 0, none⟩) 1 1, .slice la ll lc] := by rw [hW5]; exact set7_blk HZ4.out
 have HB5 : Below w.heap.size w W5 := by rw [hW5]; exact set7_below HB4.out (Nat.le_refl _) _ _ _ _ _ _ _
 unfold set7 at hW5
 rw [← hW5]
 have HK6 := HK5.alloc (.cells #[.int .i64 2, .int .i64 3, .int .i64 4, .int .i64 5] 55)
 have HB6 : Below w.heap.size w (W5.alloc (.cells #[.int .i64 2, .int .i64 3, .int .i64 4, .int .i64 5] 55)) := HB5.alloc HB5.size _
 have HF6 : Blk (W5.alloc (.cells #[.int .i64 2, .int .i64 3, .int .i64 4, .int .i64 5] 55)) w4.heap.size 55 #[.int .i64 2, .int .i64 3, .int .i64 4, .int .i64 5] := by rw [← hs5]; exact Blk.new W5 55 _
 generalize W5.alloc (.cells #[.int .i64 2, .int .i64 3, .int .i64 4, .int .i64 5] 55) = W6 at HK6 HB6 HF6
 have k0 := HK6.cell 0
 have k1 := HK6.cell 1
 have k2 := HK6.cell 2
 have k3 := HK6.cell 3
 have k4 := HK6.cell 4
 have k5 := HK6.cell 5
 have k6 := HK6.cell 6
 simp at k0 k1 k2 k3 k4 k5 k6
 refine bodyPost_ret (v := .agg #[.int .i64 10, .int .i64 11, .int .i64 1, .int .i64 2, .int .i64 5, .slice (some ⟨w4.heap.size, 0, none⟩) 1 1, .slice la ll lc]) (by simp [results, Try.results31, go_sem, k0, k1, k2, k3, k4, k5, k6]) rfl ⟨⟨w4.heap.size, HB4.out.size, rfl, ?_⟩, HB6⟩
 exact ⟨rfl, HL.out, RdG.of_blk (t := 55) frI_len HF6 HF6.lt, (HR.out.below HB6).more HB6.size, by omega, by omega⟩
end
/-- A river of the document's, with its looks in a list of its own. -/
def SampL (l : List ILk) (w : World) (e : Ending) (w' : World) : Prop := ∃ g A, e = .returned (.agg #[.int .i64 10, .int .i64 11, .int .i64 1, .int .i64 2, .int .i64 5, .slice (some ⟨g, 0, none⟩) 1 1, .slice A l.length l.length]) ∧ RvIn w' w'.heap.size (some ⟨g, 0, none⟩) 1 A l.length (sampR l) ∧ Below w.heap.size w w'
theorem sample0_any (w : World) : Calls Try.prog 31 #[.slice none 0 0] w (SampL [] w) := by
 refine (sample_any (la := none) (ll := 0) (lc := 0) [] rfl (by omega) w (RdG.nil _ _ _ _ _)).mono ?_
 rintro e w' ⟨⟨g, _, h1, h2⟩, h3⟩
 exact ⟨g, none, h1, h2, h3⟩
set_option maxRecDepth 100000 in
set_option maxHeartbeats 1600000 in
theorem second_any (w : World) : Calls Try.prog 32 #[] w (SampL [⟨2, ⟨6, 9⟩⟩] w) := by
 go_enter Try.func32, Try.ntmps32
 go_wp2_with fail
 refine (look_any _ _ _ _).mono ?_; rintro e w1 ⟨rfl, hb1⟩
 have HZ1 : Hid (Blk w1 w.heap.size 27 #[.int .i64 0, .int .i64 0, .int .i64 0, .int .i64 0, .int .i64 0, .slice none 0 0, .slice none 0 0]) := (Blk.new_ rfl _ _).below hb1 (by simp)
 have HB1 : Hid (Below w.heap.size w w1) := ((Below.refl w.heap.size w).alloc (Nat.le_refl _) _).trans (hb1.mono (by simp))
 clear hb1
 go_wp2_with fail
 refine (sample_any (la := some ⟨w1.heap.size, 0, none⟩) (ll := 1) (lc := 1) [⟨2, ⟨6, 9⟩⟩] rfl (by omega) _ (RdG.of_blk (t := 58) lkI_len (Blk.new_ rfl 58 _) (by simp))).mono ?_
 rintro e w2 ⟨⟨g, hg, rfl, hr⟩, hb2⟩
 have hba : Below w1.heap.size w1 w2 := ((Below.refl w1.heap.size w1).alloc (Nat.le_refl _) _).trans (hb2.mono (by simp))
 have hg2 : w1.heap.size ≤ g := by simp at hg; omega
 have hgw : w.heap.size < w1.heap.size := HZ1.out.lt
 have HZ2 := Lib.hid (HZ1.out.below hba HZ1.out.lt)
 have HB2 : Hid (Below w.heap.size w w2) := HB1.out.trans (hba.mono HB1.out.size)
 have HRV := Lib.hid hr
 clear hb2 hba hr hg
 have hz0 := HZ2.out.cell 0
 have hz1 := HZ2.out.cell 1
 have hz2 := HZ2.out.cell 2
 have hz3 := HZ2.out.cell 3
 have hz4 := HZ2.out.cell 4
 have hz5 := HZ2.out.cell 5
 have hz6 := HZ2.out.cell 6
 have fz0 := HZ2.out.frozen 0
 have fz1 := HZ2.out.frozen 1
 have fz2 := HZ2.out.frozen 2
 have fz3 := HZ2.out.frozen 3
 have fz4 := HZ2.out.frozen 4
 have fz5 := HZ2.out.frozen 5
 have fz6 := HZ2.out.frozen 6
 simp at hz0 hz1 hz2 hz3 hz4 hz5 hz6
 have hlt := HZ2.out.lt
 go_wp2
 obtain ⟨W5, hW5⟩ : ∃ W5, W5 = set7 w2 w.heap.size (.int .i64 10) (.int .i64 11) (.int .i64 1) (.int .i64 2) (.int .i64 5) (.slice (some ⟨g, 0, none⟩) 1 1) (.slice (some ⟨w1.heap.size, 0, none⟩) 1 1) := ⟨_, rfl⟩
 have HK5 : Blk W5 w.heap.size 27 #[.int .i64 10, .int .i64 11, .int .i64 1, .int .i64 2, .int .i64 5, .slice (some ⟨g, 0, none⟩) 1 1, .slice (some ⟨w1.heap.size, 0, none⟩) 1 1] := by rw [hW5]; exact set7_blk HZ2.out
 have HB5 : Below w.heap.size w W5 := by rw [hW5]; exact set7_below HB2.out (Nat.le_refl _) _ _ _ _ _ _ _
 have HF0 := HRV.out.turned (S := fun x => x = w.heap.size) (set7_turn w2 w.heap.size (.int .i64 10) (.int .i64 11) (.int .i64 1) (.int .i64 2) (.int .i64 5) (.slice (some ⟨g, 0, none⟩) 1 1) (.slice (some ⟨w1.heap.size, 0, none⟩) 1 1)) (fun b off e => by injection e with e1; injection e1 with e2; subst e2; intro h; have h' : _ = _ := h; omega) (fun b off e => by injection e with e1; injection e1 with e2; subst e2; intro h; have h' : _ = _ := h; omega)
 rw [← hW5] at HF0
 have HF := Lib.hid HF0
 clear HF0
 unfold set7 at hW5
 rw [← hW5]
 clear hW5
 have k0 := HK5.cell 0
 have k1 := HK5.cell 1
 have k2 := HK5.cell 2
 have k3 := HK5.cell 3
 have k4 := HK5.cell 4
 have k5 := HK5.cell 5
 have k6 := HK5.cell 6
 simp at k0 k1 k2 k3 k4 k5 k6
 refine bodyPost_ret (v := .agg #[.int .i64 10, .int .i64 11, .int .i64 1, .int .i64 2, .int .i64 5, .slice (some ⟨g, 0, none⟩) 1 1, .slice (some ⟨w1.heap.size, 0, none⟩) 1 1]) (by simp [results, Try.results32, go_sem, k0, k1, k2, k3, k4, k5, k6]) rfl ⟨g, _, rfl, HF.out, HB5⟩
set_option maxRecDepth 100000 in
set_option maxHeartbeats 1600000 in
theorem clash_any (w : World) : Calls Try.prog 33 #[] w (SampL [⟨2, ⟨6, 9⟩⟩, ⟨3, ⟨8, 8⟩⟩, ⟨4, ⟨7, 9⟩⟩] w) := by
 go_enter Try.func33, Try.ntmps33
 go_wp2_with fail
 refine (look_any _ _ _ _).mono ?_; rintro e wa ⟨rfl, hb1⟩
 have HZa : Hid (Blk wa w.heap.size 27 #[.int .i64 0, .int .i64 0, .int .i64 0, .int .i64 0, .int .i64 0, .slice none 0 0, .slice none 0 0]) := (Blk.new_ rfl _ _).below hb1 (by simp)
 have HBa : Hid (Below w.heap.size w wa) := ((Below.refl w.heap.size w).alloc (Nat.le_refl _) _).trans (hb1.mono (by simp))
 clear hb1
 go_wp2_with fail
 refine (look_any _ _ _ _).mono ?_; rintro e wb ⟨rfl, hb1⟩
 have HZb := Lib.hid (HZa.out.below hb1 HZa.out.lt)
 have HBb : Hid (Below w.heap.size w wb) := HBa.out.trans (hb1.mono HBa.out.size)
 clear hb1
 go_wp2_with fail
 refine (look_any _ _ _ _).mono ?_; rintro e w1 ⟨rfl, hb1⟩
 have HZ1 := Lib.hid (HZb.out.below hb1 HZb.out.lt)
 have HB1 : Hid (Below w.heap.size w w1) := HBb.out.trans (hb1.mono HBb.out.size)
 clear hb1
 go_wp2_with fail
 refine (sample_any (la := some ⟨w1.heap.size, 0, none⟩) (ll := 3) (lc := 3) [⟨2, ⟨6, 9⟩⟩, ⟨3, ⟨8, 8⟩⟩, ⟨4, ⟨7, 9⟩⟩] rfl (by omega) _ (RdG.of_blk (t := 58) lkI_len (Blk.new_ rfl 58 _) (by simp))).mono ?_
 rintro e w2 ⟨⟨g, hg, rfl, hr⟩, hb2⟩
 have hba : Below w1.heap.size w1 w2 := ((Below.refl w1.heap.size w1).alloc (Nat.le_refl _) _).trans (hb2.mono (by simp))
 have hg2 : w1.heap.size ≤ g := by simp at hg; omega
 have hgw : w.heap.size < w1.heap.size := HZ1.out.lt
 have HZ2 := Lib.hid (HZ1.out.below hba HZ1.out.lt)
 have HB2 : Hid (Below w.heap.size w w2) := HB1.out.trans (hba.mono HB1.out.size)
 have HRV := Lib.hid hr
 clear hb2 hba hr hg
 have hz0 := HZ2.out.cell 0
 have hz1 := HZ2.out.cell 1
 have hz2 := HZ2.out.cell 2
 have hz3 := HZ2.out.cell 3
 have hz4 := HZ2.out.cell 4
 have hz5 := HZ2.out.cell 5
 have hz6 := HZ2.out.cell 6
 have fz0 := HZ2.out.frozen 0
 have fz1 := HZ2.out.frozen 1
 have fz2 := HZ2.out.frozen 2
 have fz3 := HZ2.out.frozen 3
 have fz4 := HZ2.out.frozen 4
 have fz5 := HZ2.out.frozen 5
 have fz6 := HZ2.out.frozen 6
 simp at hz0 hz1 hz2 hz3 hz4 hz5 hz6
 have hlt := HZ2.out.lt
 go_wp2
 obtain ⟨W5, hW5⟩ : ∃ W5, W5 = set7 w2 w.heap.size (.int .i64 10) (.int .i64 11) (.int .i64 1) (.int .i64 2) (.int .i64 5) (.slice (some ⟨g, 0, none⟩) 1 1) (.slice (some ⟨w1.heap.size, 0, none⟩) 3 3) := ⟨_, rfl⟩
 have HK5 : Blk W5 w.heap.size 27 #[.int .i64 10, .int .i64 11, .int .i64 1, .int .i64 2, .int .i64 5, .slice (some ⟨g, 0, none⟩) 1 1, .slice (some ⟨w1.heap.size, 0, none⟩) 3 3] := by rw [hW5]; exact set7_blk HZ2.out
 have HB5 : Below w.heap.size w W5 := by rw [hW5]; exact set7_below HB2.out (Nat.le_refl _) _ _ _ _ _ _ _
 have HF0 := HRV.out.turned (S := fun x => x = w.heap.size) (set7_turn w2 w.heap.size (.int .i64 10) (.int .i64 11) (.int .i64 1) (.int .i64 2) (.int .i64 5) (.slice (some ⟨g, 0, none⟩) 1 1) (.slice (some ⟨w1.heap.size, 0, none⟩) 3 3)) (fun b off e => by injection e with e1; injection e1 with e2; subst e2; intro h; have h' : _ = _ := h; omega) (fun b off e => by injection e with e1; injection e1 with e2; subst e2; intro h; have h' : _ = _ := h; omega)
 rw [← hW5] at HF0
 have HF := Lib.hid HF0
 clear HF0
 unfold set7 at hW5
 rw [← hW5]
 clear hW5
 have k0 := HK5.cell 0
 have k1 := HK5.cell 1
 have k2 := HK5.cell 2
 have k3 := HK5.cell 3
 have k4 := HK5.cell 4
 have k5 := HK5.cell 5
 have k6 := HK5.cell 6
 simp at k0 k1 k2 k3 k4 k5 k6
 refine bodyPost_ret (v := .agg #[.int .i64 10, .int .i64 11, .int .i64 1, .int .i64 2, .int .i64 5, .slice (some ⟨g, 0, none⟩) 1 1, .slice (some ⟨w1.heap.size, 0, none⟩) 3 3]) (by simp [results, Try.results33, go_sem, k0, k1, k2, k3, k4, k5, k6]) rfl ⟨g, _, rfl, HF.out, HB5⟩
end Go.Proofs.Ytiodmkokpfgkkaa
namespace Go.Proofs.Ytiodmkokpfgkkaa
open Go.RowKit Go.Hav Go.Shelf Go.Sq
attribute [local go_sem] Oper.semAt_some
def sq0 : IRiv := sampR []
def sq1 : IRiv := sampR [⟨2, ⟨6, 9⟩⟩]
def sq3 : IRiv := sampR [⟨2, ⟨6, 9⟩⟩, ⟨3, ⟨8, 8⟩⟩, ⟨4, ⟨7, 9⟩⟩]
theorem sq_depth : Value.tuple #[hullV (depthV sq0 2), .int .i64 (depthE sq0 2)] = .tuple #[.agg #[.int .i64 6, .int .i64 14], .int .i64 0] := by kernel_rfl
theorem sq_fall : Value.tuple #[hullV (fallV sq0), .int .i64 (fallE sq0)] = .tuple #[.agg #[.int .i64 1, .int .i64 2], .int .i64 0] := by kernel_rfl
theorem sq_fresh : Value.tuple #[.int .i64 (freshV sq1 0), .int .i64 (freshE sq1 0)] = .tuple #[.int .i64 8, .int .i64 0] := by kernel_rfl
theorem sq_bears : Value.tuple #[.int .i64 (bearsV sq0 8 2), .int .i64 (bearsE sq0 8 2)] = .tuple #[.int .i64 1, .int .i64 0] := by kernel_rfl
theorem sq_days : Value.tuple #[.int .i64 (surelyV sq0 8), .int .i64 (perhapsV sq0 8), .int .i64 (daysE sq0 8)] = .tuple #[.int .i64 11, .int .i64 63, .int .i64 0] := by kernel_rfl
theorem sq_until : Value.tuple #[.int .i64 (untilV sq0 8), .int .i64 (untilE sq0 8)] = .tuple #[.int .i64 1, .int .i64 0] := by kernel_rfl
theorem sq_last : Value.tuple #[.int .i64 (lastV sq0 12), .int .i64 (lastE sq0 12)] = .tuple #[.int .i64 4, .int .i64 0] := by kernel_rfl
theorem sq_clash : Value.tuple #[.int .i64 (clashV sq3), .int .i64 (clashE sq3)] = .tuple #[.int .i64 6, .int .i64 0] := by kernel_rfl
set_option maxRecDepth 100000 in
set_option maxHeartbeats 6400000 in
theorem alive_any (w : World) : Calls Try.prog 13 #[] w fun e w' => e = .returned (.bool true) ∧ Below w.heap.size w w' := by
 have HB0 : Hid (Below w.heap.size w w) := Below.refl _ _
 go_enter Try.func13, Try.ntmps13
 go_wp2_with fail
 refine (sample0_any _).mono ?_
 rintro e a1 ⟨g1, A1, rfl, hr, hb⟩
 have HR1 := Lib.hid hr
 have HBa1 : Hid (Below w.heap.size w a1) := HB0.out.trans (hb.mono HB0.out.size)
 clear hr hb
 go_wp2_with fail
 refine (PDepth_any (fa := some ⟨g1, 0, none⟩) (fl := 1) (fc := 1) (la := A1) (ll := 0) (lc := 0) (r := sq0) (w := a1) 2 (by exact HR1.out)).mono ?_
 rw [sq_depth]
 rintro e v1 ⟨rfl, hb⟩
 have HB1 : Hid (Below w.heap.size w v1) := HBa1.out.trans (hb.mono HBa1.out.size)
 clear hb
 obtain ⟨V1, hV1⟩ : ∃ V, V = v1.alloc (.cells #[.int .i64 6, .int .i64 14] 23) := ⟨_, rfl⟩
 have hw1 : Below v1.heap.size v1 V1 := by rw [hV1]; exact (Below.refl _ _).alloc (Nat.le_refl _) _
 have HBV1 : Hid (Below w.heap.size w V1) := HB1.out.trans (hw1.mono HB1.out.size)
 have HX1 : Hid (Blk V1 v1.heap.size 23 #[.int .i64 6, .int .i64 14]) := by rw [hV1]; exact Blk.new v1 23 _
 clear hw1
 go_wp2_with fail
 rw [← hV1]
 refine (sample0_any _).mono ?_
 rintro e a2 ⟨g2, A2, rfl, hr, hb⟩
 have HR2 := Lib.hid hr
 have HBa2 : Hid (Below w.heap.size w a2) := HBV1.out.trans (hb.mono HBV1.out.size)
 have HX1a2 := Lib.hid (HX1.out.below hb HX1.out.lt)
 clear hr hb hV1
 go_wp2_with fail
 refine (PFall_any (fa := some ⟨g2, 0, none⟩) (fl := 1) (fc := 1) (la := A2) (ll := 0) (lc := 0) (r := sq0) (w := a2)  (by exact HR2.out)).mono ?_
 rw [sq_fall]
 rintro e v2 ⟨rfl, hb⟩
 have HB2 : Hid (Below w.heap.size w v2) := HBa2.out.trans (hb.mono HBa2.out.size)
 have HX1a2v := Lib.hid (HX1a2.out.below hb HX1a2.out.lt)
 clear hb
 obtain ⟨V2, hV2⟩ : ∃ V, V = v2.alloc (.cells #[.int .i64 1, .int .i64 2] 23) := ⟨_, rfl⟩
 have hw2 : Below v2.heap.size v2 V2 := by rw [hV2]; exact (Below.refl _ _).alloc (Nat.le_refl _) _
 have HBV2 : Hid (Below w.heap.size w V2) := HB2.out.trans (hw2.mono HB2.out.size)
 have HX1a2vV := Lib.hid (HX1a2v.out.below hw2 HX1a2v.out.lt)
 have HX2 : Hid (Blk V2 v2.heap.size 23 #[.int .i64 1, .int .i64 2]) := by rw [hV2]; exact Blk.new v2 23 _
 clear hw2
 go_wp2_with fail
 rw [← hV2]
 refine (second_any _).mono ?_
 rintro e a3 ⟨g3, A3, rfl, hr, hb⟩
 have HR3 := Lib.hid hr
 have HBa3 : Hid (Below w.heap.size w a3) := HBV2.out.trans (hb.mono HBV2.out.size)
 have HX1a2vVa3 := Lib.hid (HX1a2vV.out.below hb HX1a2vV.out.lt)
 have HX2a3 := Lib.hid (HX2.out.below hb HX2.out.lt)
 clear hr hb hV2
 go_wp2_with fail
 refine (PFresh_any (fa := some ⟨g3, 0, none⟩) (fl := 1) (fc := 1) (la := A3) (ll := 1) (lc := 1) (r := sq1) (w := a3) 0 (by exact HR3.out)).mono ?_
 rw [sq_fresh]
 rintro e v3 ⟨rfl, hb⟩
 have HB3 : Hid (Below w.heap.size w v3) := HBa3.out.trans (hb.mono HBa3.out.size)
 have HX1a2vVa3v := Lib.hid (HX1a2vVa3.out.below hb HX1a2vVa3.out.lt)
 have HX2a3v := Lib.hid (HX2a3.out.below hb HX2a3.out.lt)
 clear hb
 go_wp2_with fail
 refine (sample0_any _).mono ?_
 rintro e a4 ⟨g4, A4, rfl, hr, hb⟩
 have HR4 := Lib.hid hr
 have HBa4 : Hid (Below w.heap.size w a4) := HB3.out.trans (hb.mono HB3.out.size)
 have HX1a2vVa3va4 := Lib.hid (HX1a2vVa3v.out.below hb HX1a2vVa3v.out.lt)
 have HX2a3va4 := Lib.hid (HX2a3v.out.below hb HX2a3v.out.lt)
 clear hr hb
 go_wp2_with fail
 refine (PBears_any (fa := some ⟨g4, 0, none⟩) (fl := 1) (fc := 1) (la := A4) (ll := 0) (lc := 0) (r := sq0) (w := a4) 8 2 (by exact HR4.out)).mono ?_
 rw [sq_bears]
 rintro e v4 ⟨rfl, hb⟩
 have HB4 : Hid (Below w.heap.size w v4) := HBa4.out.trans (hb.mono HBa4.out.size)
 have HX1a2vVa3va4v := Lib.hid (HX1a2vVa3va4.out.below hb HX1a2vVa3va4.out.lt)
 have HX2a3va4v := Lib.hid (HX2a3va4.out.below hb HX2a3va4.out.lt)
 clear hb
 go_wp2_with fail
 refine (sample0_any _).mono ?_
 rintro e a5 ⟨g5, A5, rfl, hr, hb⟩
 have HR5 := Lib.hid hr
 have HBa5 : Hid (Below w.heap.size w a5) := HB4.out.trans (hb.mono HB4.out.size)
 have HX1a2vVa3va4va5 := Lib.hid (HX1a2vVa3va4v.out.below hb HX1a2vVa3va4v.out.lt)
 have HX2a3va4va5 := Lib.hid (HX2a3va4v.out.below hb HX2a3va4v.out.lt)
 clear hr hb
 go_wp2_with fail
 refine (PDays_any (fa := some ⟨g5, 0, none⟩) (fl := 1) (fc := 1) (la := A5) (ll := 0) (lc := 0) (r := sq0) (w := a5) 8 (by exact HR5.out)).mono ?_
 rw [sq_days]
 rintro e v5 ⟨rfl, hb⟩
 have HB5 : Hid (Below w.heap.size w v5) := HBa5.out.trans (hb.mono HBa5.out.size)
 have HX1a2vVa3va4va5v := Lib.hid (HX1a2vVa3va4va5.out.below hb HX1a2vVa3va4va5.out.lt)
 have HX2a3va4va5v := Lib.hid (HX2a3va4va5.out.below hb HX2a3va4va5.out.lt)
 clear hb
 go_wp2_with fail
 refine (sample0_any _).mono ?_
 rintro e a6 ⟨g6, A6, rfl, hr, hb⟩
 have HR6 := Lib.hid hr
 have HBa6 : Hid (Below w.heap.size w a6) := HB5.out.trans (hb.mono HB5.out.size)
 have HX1a2vVa3va4va5va6 := Lib.hid (HX1a2vVa3va4va5v.out.below hb HX1a2vVa3va4va5v.out.lt)
 have HX2a3va4va5va6 := Lib.hid (HX2a3va4va5v.out.below hb HX2a3va4va5v.out.lt)
 clear hr hb
 go_wp2_with fail
 refine (PUntil_any (fa := some ⟨g6, 0, none⟩) (fl := 1) (fc := 1) (la := A6) (ll := 0) (lc := 0) (r := sq0) (w := a6) 8 (by exact HR6.out)).mono ?_
 rw [sq_until]
 rintro e v6 ⟨rfl, hb⟩
 have HB6 : Hid (Below w.heap.size w v6) := HBa6.out.trans (hb.mono HBa6.out.size)
 have HX1a2vVa3va4va5va6v := Lib.hid (HX1a2vVa3va4va5va6.out.below hb HX1a2vVa3va4va5va6.out.lt)
 have HX2a3va4va5va6v := Lib.hid (HX2a3va4va5va6.out.below hb HX2a3va4va5va6.out.lt)
 clear hb
 go_wp2_with fail
 refine (sample0_any _).mono ?_
 rintro e a7 ⟨g7, A7, rfl, hr, hb⟩
 have HR7 := Lib.hid hr
 have HBa7 : Hid (Below w.heap.size w a7) := HB6.out.trans (hb.mono HB6.out.size)
 have HX1a2vVa3va4va5va6va7 := Lib.hid (HX1a2vVa3va4va5va6v.out.below hb HX1a2vVa3va4va5va6v.out.lt)
 have HX2a3va4va5va6va7 := Lib.hid (HX2a3va4va5va6v.out.below hb HX2a3va4va5va6v.out.lt)
 clear hr hb
 go_wp2_with fail
 refine (PLast_any (fa := some ⟨g7, 0, none⟩) (fl := 1) (fc := 1) (la := A7) (ll := 0) (lc := 0) (r := sq0) (w := a7) 12 (by exact HR7.out)).mono ?_
 rw [sq_last]
 rintro e v7 ⟨rfl, hb⟩
 have HB7 : Hid (Below w.heap.size w v7) := HBa7.out.trans (hb.mono HBa7.out.size)
 have HX1a2vVa3va4va5va6va7v := Lib.hid (HX1a2vVa3va4va5va6va7.out.below hb HX1a2vVa3va4va5va6va7.out.lt)
 have HX2a3va4va5va6va7v := Lib.hid (HX2a3va4va5va6va7.out.below hb HX2a3va4va5va6va7.out.lt)
 clear hb
 go_wp2_with fail
 refine (clash_any _).mono ?_
 rintro e a8 ⟨g8, A8, rfl, hr, hb⟩
 have HR8 := Lib.hid hr
 have HBa8 : Hid (Below w.heap.size w a8) := HB7.out.trans (hb.mono HB7.out.size)
 have HX1a2vVa3va4va5va6va7va8 := Lib.hid (HX1a2vVa3va4va5va6va7v.out.below hb HX1a2vVa3va4va5va6va7v.out.lt)
 have HX2a3va4va5va6va7va8 := Lib.hid (HX2a3va4va5va6va7v.out.below hb HX2a3va4va5va6va7v.out.lt)
 clear hr hb
 go_wp2_with fail
 refine (PClash_any (fa := some ⟨g8, 0, none⟩) (fl := 1) (fc := 1) (la := A8) (ll := 3) (lc := 3) (r := sq3) (w := a8)  (by exact HR8.out)).mono ?_
 rw [sq_clash]
 rintro e v8 ⟨rfl, hb⟩
 have HB8 : Hid (Below w.heap.size w v8) := HBa8.out.trans (hb.mono HBa8.out.size)
 have HX1a2vVa3va4va5va6va7va8v := Lib.hid (HX1a2vVa3va4va5va6va7va8.out.below hb HX1a2vVa3va4va5va6va7va8.out.lt)
 have HX2a3va4va5va6va7va8v := Lib.hid (HX2a3va4va5va6va7va8.out.below hb HX2a3va4va5va6va7va8.out.lt)
 clear hb
 have x0 := HX1a2vVa3va4va5va6va7va8v.out.cell 0
 have x1 := HX1a2vVa3va4va5va6va7va8v.out.cell 1
 have y0 := HX2a3va4va5va6va7va8v.out.cell 0
 have y1 := HX2a3va4va5va6va7va8v.out.cell 1
 have lx := HX1a2vVa3va4va5va6va7va8v.out.lt
 have ly := HX2a3va4va5va6va7va8v.out.lt
 simp at x0 x1 y0 y1
 go_wp2
 refine wp_region_havoc [(0,false),(1,false),(2,false),(3,false),(4,false),(5,false),(6,false),(7,false),(8,false),(9,false),(10,false),(11,false),(12,false),(13,false),(14,false),(15,false),(16,false),(17,false),(18,false),(19,false),(20,false),(21,false),(22,false),(23,false),(24,false),(25,false),(26,false),(27,false),(28,false),(29,false),(30,false),(31,false),(32,false),(33,false),(34,false),(35,false),(36,false),(37,false),(38,false),(39,false),(40,false),(41,false),(42,false),(43,false),(44,false),(45,false),(46,false),(47,false),(48,false),(49,false),(50,false),(51,false),(52,false),(53,false),(54,false),(55,false),(56,false),(57,false),(58,false),(59,false),(60,false),(61,false),(62,false),(63,false),(64,false),(65,false),(66,false),(67,false),(68,false)] [] (fun _ _ => False) (by kernel_rfl) (by kernel_rfl) (fun _ _ _ _ h => h.elim) ?_
 (apply hav_same (by simp only [List.getElem?_toArray]; rfl) (by kernel_rfl); (focus (intro wv hgv _; have hcv : ∀ b o, b < _ → wv.cell? ⟨b, o, none⟩ = _ := fun b o hb => Below.cell hgv (p := ⟨b, o, none⟩) hb; (try go_simp); try rfl; done)); simp only [Act.put, List.setIfInBounds_toArray, List.set_cons_succ, List.set_cons_zero])
 (apply hav_call (by simp only [List.getElem?_toArray]; rfl) (by kernel_rfl); (focus (intro wv; go_simp; try exact ⟨rfl, rfl⟩; done)); (focus (intro wv hgv _; exact lspan_any 6 14 wv; done)); simp only [Act.put, List.setIfInBounds_toArray, List.set_cons_succ, List.set_cons_zero])
 iterate 7 (apply hav_same (by simp only [List.getElem?_toArray]; rfl) (by kernel_rfl); (focus (intro wv hgv _; have hcv : ∀ b o, b < _ → wv.cell? ⟨b, o, none⟩ = _ := fun b o hb => Below.cell hgv (p := ⟨b, o, none⟩) hb; (try go_simp); try rfl; done)); simp only [Act.put, List.setIfInBounds_toArray, List.set_cons_succ, List.set_cons_zero])
 (apply hav_call (by simp only [List.getElem?_toArray]; rfl) (by kernel_rfl); (focus (intro wv; go_simp; try exact ⟨rfl, rfl⟩; done)); (focus (intro wv hgv _; exact lspan_any 1 2 wv; done)); simp only [Act.put, List.setIfInBounds_toArray, List.set_cons_succ, List.set_cons_zero])
 iterate 59 (apply hav_same (by simp only [List.getElem?_toArray]; rfl) (by kernel_rfl); (focus (intro wv hgv _; have hcv : ∀ b o, b < _ → wv.cell? ⟨b, o, none⟩ = _ := fun b o hb => Below.cell hgv (p := ⟨b, o, none⟩) hb; (try go_simp); try rfl; done)); simp only [Act.put, List.setIfInBounds_toArray, List.set_cons_succ, List.set_cons_zero])
 refine hav_end (fun wz hgwz _ => ?_); simp only [List.filterMap]; have hcwz : ∀ b o, b < _ → wz.cell? ⟨b, o, none⟩ = _ := fun b o hb => Below.cell hgwz (p := ⟨b, o, none⟩) hb; have hfwz : ∀ b o, b < _ → wz.frozen? ⟨b, o, none⟩ = _ := fun b o hb => Below.frozen hgwz (p := ⟨b, o, none⟩) hb; have hzwz := Below.size hgwz; (try simp at hzwz)
 have HBz : Hid (Below w.heap.size w wz) := HB8.out.trans (hgwz.mono HB8.out.size)
 clear hgwz hcwz hfwz
 go_wp2
 go_ret
 exact ⟨rfl, HBz.out⟩
end Go.Proofs.Ytiodmkokpfgkkaa
