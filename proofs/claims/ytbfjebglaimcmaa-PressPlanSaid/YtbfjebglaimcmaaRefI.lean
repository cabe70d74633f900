/- The walk of the reference's part: the span of what some fleeces of a bale weigh; conditions: the press is valid, and has few fleeces. The walks of the reference's free, one, wrong, check; conditions: the press is valid, and has few fleeces. -/
import Derived.Test.YtbfjebglaimcmaaRefH
namespace Go.Proofs.Ytbfjebglaimcmaa
open Go.RowKit Go.Hav
section
variable {low top bales : Int} {fa wa : Option Addr} {fl fc wl wc : Nat} {p : PressD}
theorem lists_len {k : Nat} (hv : p.ok = true) : (p.lists k).length ≤ 4 ^ p.n := listsF_len hv _ _ p.n [] (by simp)
theorem lists_in_bd (hv : p.ok = true) {k : Nat} {L : List Int} (h : L ∈ p.lists k) : L.length = p.n ∧ ∀ x ∈ L, 0 ≤ x ∧ x ≤ 20 := by
  obtain ⟨h1, h2, -⟩ := PressD.mem_lists.1 h
  refine ⟨h1, fun x hx => ?_⟩
  obtain ⟨i, hi⟩ := List.getElem?_of_mem hx
  have hil : i < p.n := by rw [← h1]; exact (List.getElem?_eq_some_iff.1 hi).1
  have := h2 i hil
  have hb := ofB_bd hv (p.bs k) i hil
  unfold li at this
  rw [hi] at this
  simp only [Option.getD_some] at this
  omega
/-- The span of the first i lists. -/
def foldK (p : PressD) (s : Nat) (Ls : List (List Int)) (i : Nat) : Sp := p.foldP s (Ls.take i)
theorem foldK_next {s : Nat} {Ls : List (List Int)} {i : Nat} {L : List Int} (h : Ls[i]? = some L) : foldK p s Ls (i + 1) = ⟨min (foldK p s Ls i).lo (p.inL s L), max (foldK p s Ls i).hi (p.inL s L)⟩ := by
  unfold foldK PressD.foldP
  rw [List.take_add_one, h, List.foldl_append]
  rfl
set_option maxRecDepth 100000 in
set_option maxHeartbeats 6400000 in
theorem part_any (hv : p.ok = true) (h7 : p.n ≤ 7) {k : Nat} (hk : k < p.weighed.length) (s : Nat) (hs : s < 1024) (w : World) (hP : PressIn w w.heap.size fa fl low top bales wa wl p) :
    Calls Try.prog 110 #[pressV fa fl fc low top bales wa wl wc, .agg #[.int .i64 (p.bs k), .int .i64 (p.ba k).w.lo, .int .i64 (p.ba k).w.hi], .int .i64 s] w fun e w' => e = .returned (.tuple #[spV (p.partR s k), .bool (!p.wrongB k)]) ∧ Below w.heap.size w w' := by
  have HV := Lib.hid hv
  have HP := Lib.hid hP
  have HEN : Hid (p.n = fl) := hP.efl
  have hf7 : fl ≤ 7 := by rw [← HEN.out]; exact h7
  have HKW := Lib.hid hk
  have hbs := (PressD.ok_ba hv hk).2.1
  have hbs10 : p.bs k < 1024 := Nat.lt_of_lt_of_le hbs (PressD.n_pow hv)
  obtain ⟨⟨u0, u1⟩, HU⟩ : ∃ v, Hid (p.partR s k = v) := ⟨_, rfl⟩
  obtain ⟨wb, HWB⟩ : ∃ v, Hid (p.wrongB k = v) := ⟨_, rfl⟩
  obtain ⟨bb, HBS⟩ : ∃ v, Hid (p.bs k = v) := ⟨_, rfl⟩
  obtain ⟨⟨al, ah⟩, HAL⟩ : ∃ v, Hid ((p.ba k).w = v) := ⟨_, rfl⟩
  rw [HU.out, HWB.out, HBS.out, HAL.out]
  rw [HBS.out] at hbs10
  simp only
  unfold pressV spV
  clear hP hv h7 hk hbs
  go_enter Try.func110, Try.ntmps110
  go_wp2_with fail
  obtain ⟨W, hW⟩ : ∃ W, W = ((w.alloc (Obj.cells #[Value.slice fa fl fc, Value.int IntKind.i64 low, Value.int IntKind.i64 top, Value.int IntKind.i64 bales, Value.slice wa wl wc] 25)).alloc (Obj.cells #[Value.int IntKind.i64 bb, Value.int IntKind.i64 al, Value.int IntKind.i64 ah] 56)).alloc (Obj.cells #[Value.int IntKind.i64 0, Value.int IntKind.i64 0] 29) := ⟨_, rfl⟩
  have HK6 : Hid (Blk W (w.heap.size + 1 + 1) 29 #[.int .i64 0, .int .i64 0]) := by rw [hW]; exact Blk.new_ (by simp) 29 _
  have HBW : Hid (Below w.heap.size w W) := by rw [hW]; exact (((Below.refl _ _).alloc (Nat.le_refl _) _).alloc (by simp) _).alloc (by simp; omega) _
  rw [← hW]
  clear hW
  have hpw : 4 ^ fl ≤ 16384 := by have := Nat.pow_le_pow_right (n := 4) (by omega) hf7; omega
  refine (lists_any HV.out bb hbs10 ⟨al, ah⟩ W.heap.size fl [] none 0 0 0 (.slice none 0 0) [] [] W (Nat.le_refl _) (by exact HP.out.grow HBW.out) rfl (by omega) (by simp) RowN.nil (own_nil _ _ _ _) Rows.nil rfl (by omega)).mono ?_
  rintro e w1 ⟨v', N, xs, rfl, hown, hrows, hxl, hkt⟩
  have hL : [] ++ p.listsF bb ⟨al, ah⟩ fl [] = p.lists k := by rw [List.nil_append, ← HBS.out, ← HAL.out, ← HEN.out]; rfl
  rw [hL] at hrows
  have hlen := lists_len (k := k) HV.out
  rw [HEN.out, ← hrows.1, hxl] at hlen
  have hown2 : w1.ownsRow W.heap.size 38 1 v' xs.length (xs.flatMap fun v => [v]) := by rw [flat_one, hxl]; simpa using hown
  obtain ⟨A, cp, rfl, hrd, -⟩ := own_rd (f := fun v : Value => [v]) (fun _ => rfl) (by decide) hown2
  rw [hxl]
  have HRD := Lib.hid hrd
  have HRW := Lib.hid hrows
  have HXL := Lib.hid hxl
  have HK6' : Hid (Blk w1 (w.heap.size + 1 + 1) 29 #[.int .i64 0, .int .i64 0]) := hkt.2 _ _ _ (by decide) HK6.out
  have HB1 : Hid (Below w.heap.size w w1) := HBW.out.trans (hkt.1.mono HBW.out.size)
  have HNL : Hid (N = (p.lists k).length) := by show _ = _; rw [← hrows.1, hxl]
  have hN : N ≤ 16384 := by omega
  have hl6 := HK6'.out.lt
  clear hown hown2 hrd hrows hxl hkt hL hlen hpw
  have x0 := HK6'.out.cell 0
  have x1 := HK6'.out.cell 1
  have f0 := HK6'.out.frozen 0
  have f1 := HK6'.out.frozen 1
  simp at x0 x1
  by_cases h0 : N = 0
  · have hz : p.lists k = [] := List.eq_nil_of_length_eq_zero (by rw [← HNL.out]; exact h0)
    have hwb : wb = true := by rw [← HWB.out]; exact (PressD.lists_nil HV.out HKW.out).1 hz
    have hu : (⟨u0, u1⟩ : Sp) = ⟨0, 0⟩ := by rw [← HU.out, PressD.partR, if_pos hz]
    injection hu with e1 e2
    subst h0 hwb e1 e2
    clear hz
    go_wp2
    have hk := (HK6'.out.set_ 0 (.int .i64 0)).set_ 1 (.int .i64 0)
    have z0 := hk.cell 0
    have z1 := hk.cell 1
    simp at z0 z1
    refine bodyPost_ret (v := .tuple #[.agg #[.int .i64 0, .int .i64 0], .bool false]) (by simp [results, Try.results110, go_sem, z0, z1]) rfl ⟨rfl, setCell_below (setCell_below HB1.out (by omega) 0 _) (by omega) 1 _⟩
  · have hz : p.lists k ≠ [] := fun e => h0 (by rw [HNL.out, e]; rfl)
    have hwb : wb = false := by
      cases h : wb
      · rfl
      · exact absurd ((PressD.lists_nil HV.out HKW.out).2 (by rw [HWB.out, h])) hz
    have HUF : Hid (p.foldP s (p.lists k) = ⟨u0, u1⟩) := by
      have h := HU.out
      rw [PressD.partR, if_neg hz] at h
      exact h
    subst hwb
    clear hz
    have hN0 : ((N : Int) == 0) = false := by simp; omega
    clear x0 x1 f0 f1
    go_wp2
    obtain ⟨Y, hY⟩ : ∃ Y, Y = w1.alloc (Obj.cells #[Value.int IntKind.i64 201, Value.int IntKind.i64 0] 29) := ⟨_, rfl⟩
    have HK9 : Hid (Blk Y w1.heap.size 29 #[.int .i64 201, .int .i64 0]) := by rw [hY]; exact Blk.new w1 29 _
    have HBY : Hid (Below w1.heap.size w1 Y) := by rw [hY]; exact (Below.refl _ _).alloc (Nat.le_refl _) _
    rw [← hY]
    clear hY hN0
    go_loopw [10] (fun i wr => ∃ (j : Nat) (o : Sp), j ≤ N ∧ i = .int .i64 j ∧ Hid (foldK p s (p.lists k) j = o) ∧ 0 ≤ o.hi ∧ o.hi ≤ 200 ∧ 0 ≤ o.lo ∧ o.lo ≤ 201 ∧ Blk wr w1.heap.size 29 #[.int .i64 o.lo, .int .i64 o.hi] ∧ Below w1.heap.size w1 wr) (fun i _ => N - (intOf i).toNat)
    case atStart => exact ⟨0, ⟨201, 0⟩, Nat.zero_le _, rfl, rfl, by simp, by simp, by simp, by simp, HK9.out, HBY.out⟩
    case round =>
      obtain ⟨j, ⟨o0, o1⟩, hj, rfl, HO, h1, h2, h3, h4, hk9, hb⟩ := hrel
      simp only at h1 h2 h3 h4 hk9
      have HK := Lib.hid hk9
      have HB := Lib.hid hb
      clear hk9 hb
      by_cases hlt : j < N
      · obtain ⟨L, hL⟩ : ∃ L, (p.lists k)[j]? = some L := ⟨_, List.getElem?_eq_getElem (by rw [← HNL.out]; exact hlt)⟩
        obtain ⟨LA, lc, hx, hrow⟩ := HRW.out.2 j L hL
        obtain ⟨hll, hlb⟩ := lists_in_bd HV.out (List.mem_of_getElem? hL)
        obtain ⟨gb, off, rfl, hgb, H0⟩ := (HRD.out.below HB.out) j _ hx
        have H0 := H0 0 _ rfl
        rw [Nat.mul_one, Nat.add_zero, hll, HEN.out] at H0
        have hgw : gb < wr.heap.size := Nat.lt_of_lt_of_le hgb HB.out.size
        have hne : gb ≠ w1.heap.size := by omega
        have HLL : Hid (L.length = fl) := by show _ = _; rw [hll, HEN.out]
        have HLB := Lib.hid hlb
        have HROW := Lib.hid (hrow.below HB.out).rd
        have HNX : Hid (foldK p s (p.lists k) (j + 1) = ⟨min o0 (p.inL s L), max o1 (p.inL s L)⟩) := by
          show _ = _
          rw [foldK_next hL, HO.out]
        have hin0 : 0 ≤ p.inL s L ∧ p.inL s L ≤ 200 := by
          have h := sb_bd (f := li L) (s := s) (l := 0) (h := 20) (by omega) (by omega) p.n (fun i hi _ => by
            unfold li
            obtain ⟨x, hx⟩ : ∃ x, L[i]? = some x := ⟨_, List.getElem?_eq_getElem (by rw [hll]; exact hi)⟩
            rw [hx]
            exact hlb x (List.mem_of_getElem? hx))
          have e : p.inL s L = sb (li L) s p.n := rfl
          have := HEN.out
          omega
        have HIN : Hid (p.inL s L = sb (li L) s fl) := by show _ = _; rw [← HEN.out]; rfl
        clear hL hx hrow hll hlb hgb
        go_wp2
        obtain ⟨wo, rfl⟩ : ∃ wo : World, wo = wr := ⟨_, rfl⟩
        go_loopw [11, 12] (fun tv iv wr => ∃ (q : Nat) (t : Int), q ≤ fl ∧ iv = .int .i64 q ∧ tv = .int .i64 t ∧ Hid (sb (li L) s q = t) ∧ 0 ≤ t ∧ t ≤ 20 * q ∧ wr = wo) (fun _ iv _ => fl - (intOf iv).toNat)
        case atStart => exact ⟨0, 0, Nat.zero_le _, rfl, rfl, rfl, by omega, by omega, rfl⟩
        case round =>
          obtain ⟨q, t, hq, rfl, rfl, HT, ht0, ht1, rfl⟩ := hrel
          by_cases hlt2 : q < fl
          · obtain ⟨x, hx⟩ : ∃ x, L[q]? = some x := ⟨_, List.getElem?_eq_getElem (by rw [HLL.out]; exact hlt2)⟩
            obtain ⟨q0, q1⟩ := HLB.out x (List.mem_of_getElem? hx)
            obtain ⟨gx, ox, rfl, hgx, H1⟩ := rd_in (l := L) HROW.out q x hx
            have HLI : Hid (li L q = x) := by show _ = _; unfold li; rw [hx]; rfl
            clear hx
            go_wp2_with fail
            refine (has_any s q (by omega) (by omega) _).mono ?_
            cases hbit : s.testBit q
            · have HN1 : Hid (sb (li L) s (q + 1) = t) := by show _ = _; rw [sb, HT.out, if_neg (by rw [hbit]; simp)]; omega
              clear hbit
              rintro e w5 ⟨rfl, rfl⟩
              go_wp2
              go_roundw
              case rel => exact ⟨q + 1, t, by omega, by go_num, rfl, HN1, by omega, by omega, trivial⟩
              case measure => simp [intOf]; omega
            · have HN1 : Hid (sb (li L) s (q + 1) = t + x) := by show _ = _; rw [sb, HT.out, if_pos hbit, HLI.out]
              clear hbit
              rintro e w5 ⟨rfl, rfl⟩
              go_wp2
              go_roundw
              case rel => exact ⟨q + 1, t + x, by omega, by go_num, rfl, HN1, by omega, by omega, trivial⟩
              case measure => simp [intOf]; omega
          · obtain rfl : fl = q := by omega
            have HTI : Hid (p.inL s L = t) := by show _ = _; rw [HIN.out, HT.out]
            rw [HTI.out] at hin0
            rw [HTI.out] at HNX
            have k0 := HK.out.cell 0
            have k1 := HK.out.cell 1
            have kf0 := HK.out.frozen 0
            have kf1 := HK.out.frozen 1
            have kl := HK.out.lt
            simp at k0 k1
            obtain ⟨ma, hma⟩ : ∃ x, min o0 t = x := ⟨_, rfl⟩
            obtain ⟨mb, hmb⟩ : ∃ x, max o1 t = x := ⟨_, rfl⟩
            have b1 : 0 ≤ ma ∧ ma ≤ 201 ∧ 0 ≤ mb ∧ mb ≤ 200 := by omega
            have HMN : Hid (∀ w, (Builtin.min_ #[3, 3] 3 #[.int .i64 o0, .int .i64 t]).run Try.prog w = .ok (.int .i64 ma) w) := fun w => by rw [min_run, hma]
            have HMX : Hid (∀ w, (Builtin.max_ #[3, 3] 3 #[.int .i64 o1, .int .i64 t]).run Try.prog w = .ok (.int .i64 mb) w) := fun w => by rw [max_run, hmb]
            rw [hma, hmb] at HNX
            clear hma hmb
            have hmn := HMN.out
            have hmx := HMX.out
            go_wp2
            go_roundw
            case rel => exact ⟨j + 1, ⟨ma, mb⟩, by omega, by go_num, HNX, b1.2.2.1, b1.2.2.2, b1.1, b1.2.1, (HK.out.set_ 0 (.int .i64 ma)).set_ 1 (.int .i64 mb), setCell_below (setCell_below HB.out (Nat.le_refl _) 0 _) (Nat.le_refl _) 1 _⟩
            case measure => simp [intOf]; omega
      · obtain rfl : N = j := by omega
        have HFE : Hid (o0 = u0 ∧ o1 = u1) := by
          have h := HO.out
          rw [foldK, List.take_of_length_le (by rw [HNL.out]; exact Nat.le_refl _), HUF.out] at h
          injection h with h1 h2
          exact ⟨h1.symm, h2.symm⟩
        have k0 := HK.out.cell 0
        have k1 := HK.out.cell 1
        have kl := HK.out.lt
        simp at k0 k1
        have hk6 := HK6'.out.below HB.out hl6
        have x0 := hk6.cell 0
        have x1 := hk6.cell 1
        have f0 := hk6.frozen 0
        have f1 := hk6.frozen 1
        have l6 := hk6.lt
        simp at x0 x1
        go_wp2
        have hk := (hk6.set_ 0 (.int .i64 o0)).set_ 1 (.int .i64 o1)
        have z0 := hk.cell 0
        have z1 := hk.cell 1
        simp at z0 z1
        refine bodyPost_ret (v := .tuple #[.agg #[.int .i64 o0, .int .i64 o1], .bool true]) (by simp [results, Try.results110, go_sem, z0, z1]) rfl ⟨by rw [HFE.out.1, HFE.out.2]; rfl, setCell_below (setCell_below (HB1.out.trans (HB.out.mono HB1.out.size)) (by omega) 0 _) (by omega) 1 _⟩
end
end Go.Proofs.Ytbfjebglaimcmaa
namespace Go.Proofs.Ytbfjebglaimcmaa
open Go.RowKit Go.Hav
theorem or_add {a b : Nat} (h : a &&& b = 0) (ha : a < 2 ^ 60) (hb : b < 2 ^ 60) : a ||| b = a + b := by
  have e := BitVec.add_eq_or_of_and_eq_zero (w := 64) (BitVec.ofNat 64 a) (BitVec.ofNat 64 b) (by
    apply BitVec.eq_of_toNat_eq
    simp only [BitVec.toNat_and, BitVec.toNat_ofNat]
    rw [Nat.mod_eq_of_lt (by omega), Nat.mod_eq_of_lt (by omega), h])
  have h2 := congrArg BitVec.toNat e
  simp only [BitVec.toNat_add, BitVec.toNat_or, BitVec.toNat_ofNat] at h2
  rw [Nat.mod_eq_of_lt (show a < 2 ^ 64 by omega), Nat.mod_eq_of_lt (show b < 2 ^ 64 by omega), Nat.mod_eq_of_lt (by omega)] at h2
  exact h2.symm
/-- A set less a part of it. -/
theorem dif_minus {a b : Nat} (h : a &&& b = b) (ha : a < 2 ^ 60) (hb : b < 2 ^ 60) : (dif a b : Nat) + b = a := by
  have h0 : dif a b &&& b = 0 := and_zero_iff.2 fun i ⟨h1, h2⟩ => by
    rw [tb_dif, h2] at h1
    simp at h1
  rw [← or_add h0 (Nat.lt_of_le_of_lt (dif_le a b) ha) hb]
  refine Nat.eq_of_testBit_eq fun i => ?_
  have hi : (a &&& b).testBit i = b.testBit i := by rw [h]
  rw [Nat.testBit_and] at hi
  rw [Nat.testBit_or, tb_dif]
  cases h1 : a.testBit i <;> cases h2 : b.testBit i <;> simp_all
namespace PressD
section
variable {p : PressD}
/-- What is left of all fleeces behind the first k bales. -/
def freeK (p : PressD) (k : Nat) : Nat := p.rest (full p.n) k
theorem tb_freeK (k i : Nat) : (p.freeK k).testBit i = (decide (i < p.n) && !(p.used k).testBit i) := by rw [freeK, tb_rest, tb_full]
theorem freeK_lt (k : Nat) : p.freeK k < 2 ^ p.n := rest_lt (full_lt p.n) k
theorem freeK_bs (h : p.ok = true) {k : Nat} (hk : k < p.weighed.length) : p.freeK k &&& p.bs k = p.bs k := by
  obtain ⟨-, h2, -, h4, -⟩ := ok_ba h hk
  refine Nat.eq_of_testBit_eq fun i => ?_
  rw [Nat.testBit_and, tb_freeK]
  cases hb : (p.bs k).testBit i
  · simp
  · have hi : i < p.n := by
      rcases Nat.lt_or_ge i p.n with h | h
      · exact h
      · rw [Nat.testBit_lt_two_pow (Nat.lt_of_lt_of_le h2 (Nat.pow_le_pow_right (by omega) h))] at hb; cases hb
    have hu : (p.used k).testBit i = false := by
      cases hu : (p.used k).testBit i
      · rfl
      · exact absurd ⟨hu, hb⟩ (and_zero_iff.1 h4 i)
    simp [hi, hu]
theorem freeK_next (h : p.ok = true) {k : Nat} (hk : k < p.weighed.length) : (p.freeK (k + 1) : Int) = (p.freeK k : Int) - p.bs k := by
  have h1 := n_pow h
  have h2 := freeK_lt (p := p) k
  have h3 := (ok_ba h hk).2.1
  have := dif_minus (freeK_bs h hk) (by omega) (by omega)
  have e : p.freeK (k + 1) = dif (p.freeK k) (p.bs k) := rfl
  omega
theorem rest_cut_free (s : Nat) (hs : s < 2 ^ p.n) (k i : Nat) : (p.rest s k).testBit i = (s.testBit i && (p.freeK k).testBit i) := by
  rw [tb_rest, tb_freeK]
  by_cases hi : i < p.n
  · simp [hi]
  · rw [Nat.testBit_lt_two_pow (Nat.lt_of_lt_of_le hs (Nat.pow_le_pow_right (by omega) (by omega)))]
    simp
theorem wrongF_next (k : Nat) (h : p.wrongB k = true) (hk : k ≤ 40) : p.wrongF (k + 1) = p.wrongF k + 2 ^ k := by
  rw [wrongF, if_pos h]
  have h1 := wrongF_lt p k
  have h2 := Nat.pow_le_pow_right (n := 2) (by omega) hk
  refine or_add (and_zero_iff.2 fun i ⟨a, b⟩ => ?_) (by omega) (by omega)
  rw [Nat.testBit_two_pow] at b
  rw [tb_wrongF] at a
  simp at a b
  omega
end
end PressD
section
variable {low top bales : Int} {fa wa : Option Addr} {fl fc wl wc : Nat} {p : PressD}
theorem blk5 {w : World} {d : Nat} {c0 c1 c2 c3 c4 : Value} (h : Blk w d 25 #[c0, c1, c2, c3, c4]) : w.cell? ⟨d, 0, none⟩ = some c0 ∧ w.cell? ⟨d, 1, none⟩ = some c1 ∧ w.cell? ⟨d, 2, none⟩ = some c2 ∧ w.cell? ⟨d, 3, none⟩ = some c3 ∧ w.cell? ⟨d, 4, none⟩ = some c4 ∧ d < w.heap.size :=
  ⟨h.cell 0, h.cell 1, h.cell 2, h.cell 3, h.cell 4, h.lt⟩
set_option maxRecDepth 100000 in
set_option maxHeartbeats 1600000 in
theorem free_any (hv : p.ok = true) (w : World) (hP : PressIn w w.heap.size fa fl low top bales wa wl p) :
    Calls Try.prog 109 #[pressV fa fl fc low top bales wa wl wc] w fun e w' => e = .returned (.int .i64 (p.freeK p.weighed.length : Nat)) ∧ Below w.heap.size w w' := by
  have HP := Lib.hid hP
  have HV := Lib.hid hv
  have HEN : Hid (p.n = fl) := hP.efl
  have HEW : Hid (p.weighed.length = wl) := hP.ewl
  have hn10 : fl ≤ 10 := by have := (PressD.ok_head hv).1; rw [HEN.out] at this; exact this
  have hwl4 : wl ≤ 4 := by have := (PressD.ok_head hv).2.2.2.2.2.2; rw [HEW.out] at this; exact this
  obtain ⟨F, HF⟩ : ∃ F, Hid (p.freeK p.weighed.length = F) := ⟨_, rfl⟩
  rw [HF.out]
  clear hP hv
  unfold pressV
  go_enter Try.func109, Try.ntmps109
  go_wp2_with fail
  refine (revery_any (low := low) (top := top) (bales := bales) (fa := fa) (wa := wa) (fc := fc) (wl := wl) (wc := wc) (by omega) _).mono ?_
  rintro e W ⟨rfl, hb⟩
  have HX : Hid (Blk W w.heap.size 25 #[Value.slice fa fl fc, Value.int IntKind.i64 low, Value.int IntKind.i64 top, Value.int IntKind.i64 bales, Value.slice wa wl wc]) := (Blk.new w 25 _).below hb (by simp)
  have HBW : Hid (Below w.heap.size w W) := ((Below.refl _ _).alloc (Nat.le_refl _) _).trans (hb.mono (by simp))
  clear hb
  have HPW : Hid (PressIn W W.heap.size fa fl low top bales wa wl p) := HP.out.grow HBW.out
  obtain ⟨x0, x1, x2, x3, x4, xl⟩ := blk5 HX.out
  go_wp2
  go_loopw [3, 4] (fun ov i wr => ∃ k f : Nat, k ≤ wl ∧ i = .int .i64 k ∧ ov = .int .i64 f ∧ Hid (p.freeK k = f) ∧ f < 1024 ∧ wr = W) (fun _ i _ => wl - (intOf i).toNat)
  case atStart =>
    have h : p.freeK 0 = full fl := by rw [PressD.freeK, PressD.rest, HEN.out]
    exact ⟨0, full fl, Nat.zero_le _, rfl, rfl, h, by rw [← h]; exact Nat.lt_of_lt_of_le (PressD.freeK_lt 0) (PressD.n_pow HV.out), rfl⟩
  case round =>
    obtain ⟨k, f, hk, rfl, rfl, HFK, hf, rfl⟩ := hrel
    by_cases hlt : k < wl
    · have hkw : k < p.weighed.length := by rw [HEW.out]; exact hlt
      obtain ⟨c, hc⟩ : ∃ c, p.weighed[k]? = some c := ⟨_, List.getElem?_eq_getElem hkw⟩
      have hba : p.ba k = c := by unfold PressD.ba; rw [hc]; rfl
      obtain ⟨g1, g2, -⟩ := PressD.ok_ba HV.out hkw
      have hnx := PressD.freeK_next HV.out hkw
      rw [HFK.out] at hnx
      obtain ⟨B, hB⟩ : ∃ B, p.bs k = B := ⟨_, rfl⟩
      rw [hba, hB] at g1
      rw [hB] at hnx g2
      have hB10 : B < 1024 := Nat.lt_of_lt_of_le g2 (PressD.n_pow HV.out)
      obtain ⟨b, off, rfl, hbl, H0, -, -⟩ := rd_ba HPW.out.hwl k c hc
      rw [g1] at H0
      obtain ⟨f2, hf2⟩ : ∃ f2, p.freeK (k + 1) = f2 := ⟨_, rfl⟩
      have hf210 : f2 < 1024 := by rw [← hf2]; exact Nat.lt_of_lt_of_le (PressD.freeK_lt _) (PressD.n_pow HV.out)
      rw [hf2] at hnx
      have HF2 := Lib.hid hf2
      have HNX := Lib.hid hnx
      have hge : (0 : Int) ≤ (f : Int) - B := by omega
      clear hf2 hnx hB g1 g2 hba hc hkw
      go_wp2
      go_roundw
      case rel => exact ⟨k + 1, f2, by omega, by go_num, by rw [HNX.out], HF2.out, hf210, trivial⟩
      case measure => simp [intOf]; omega
    · obtain rfl : wl = k := by omega
      have HE2 : Hid (f = F) := by show _ = _; rw [← HFK.out, ← HF.out, HEW.out]
      go_wp2
      go_ret
      exact ⟨ret_int (by rw [HE2.out]), HBW.out⟩
set_option maxRecDepth 100000 in
set_option maxHeartbeats 1600000 in
theorem one_any (hv : p.ok = true) (s : Nat) (hs : s < 1024) (w : World) (hP : PressIn w w.heap.size fa fl low top bales wa wl p) :
    Calls Try.prog 111 #[pressV fa fl fc low top bales wa wl wc, .int .i64 s] w fun e w' => e = .returned (.bool (p.alike s)) ∧ Below w.heap.size w w' := by
  have HP := Lib.hid hP
  have HV := Lib.hid hv
  have hn := (PressD.ok_head hv).1
  have HE : Hid (p.n = fl) := hP.efl
  have hfl : fl ≤ 10 := by have := HE.out; omega
  clear hv hP hn
  unfold pressV
  go_enter Try.func111, Try.ntmps111
  go_wp2
  obtain ⟨W, hW⟩ : ∃ W, W = w.alloc (Obj.cells #[Value.slice fa fl fc, Value.int IntKind.i64 low, Value.int IntKind.i64 top, Value.int IntKind.i64 bales, Value.slice wa wl wc] 25) := ⟨_, rfl⟩
  have HX : Hid (Blk W w.heap.size 25 #[Value.slice fa fl fc, Value.int IntKind.i64 low, Value.int IntKind.i64 top, Value.int IntKind.i64 bales, Value.slice wa wl wc]) := by rw [hW]; exact Blk.new w 25 _
  have HBW : Hid (Below w.heap.size w W) := by rw [hW]; exact (Below.refl _ _).alloc (Nat.le_refl _) _
  rw [← hW]
  clear hW
  obtain ⟨x0, x1, x2, x3, x4, xl⟩ := blk5 HX.out
  go_loopw [5, 6] (fun l i wr => ∃ (k : Nat) (L : Int), k ≤ fl ∧ i = .int .i64 k ∧ l = .int .i64 L ∧ Hid (lineF p s k = L) ∧ -1 ≤ L ∧ L ≤ 2 ∧ Hid (∀ i, i < k → s.testBit i = true → p.line i = L) ∧ wr = W) (fun _ i _ => fl - (intOf i).toNat)
  case atStart => exact ⟨0, -1, Nat.zero_le _, rfl, rfl, rfl, by omega, by omega, fun i hi => by omega, rfl⟩
  case round =>
    obtain ⟨k, L, hk, rfl, rfl, HL, hl1, hl2, HS, rfl⟩ := hrel
    by_cases hlt : k < fl
    · obtain ⟨c, hc⟩ : ∃ c, p.fl[k]? = some c := ⟨p.fl[k]'(by have := HE.out; unfold PressD.n at this; omega), by simp⟩
      have HC := Lib.hid (fw_of hc)
      have hcl : 0 ≤ c.line ∧ c.line ≤ 2 := by
        have := PressD.ok_fl HV.out (i := k) (by rw [HE.out]; exact hlt)
        rw [HC.out.2] at this; omega
      obtain ⟨hcl0, hcl1⟩ := hcl
      obtain ⟨b, off, rfl, hbl, H0, H1, H2⟩ := rd_fl ((HP.out.grow HBW.out).hfl) k c hc
      obtain ⟨⟨c0, c1⟩, cl⟩ := c
      simp only at H0 H1 H2 hcl0 hcl1 HC
      clear hc
      go_wp2_with fail
      refine (has_any s k (by omega) (by omega) _).mono ?_
      cases hbit : s.testBit k
      · have HL2 : Hid (lineF p s (k + 1) = L) := by show _ = _; rw [lineF, if_neg (by rw [hbit]; simp), HL.out]
        have HS2 : Hid (∀ i, i < k + 1 → s.testBit i = true → p.line i = L) := fun i hi hb => by
          by_cases e : i = k
          · subst e; rw [hbit] at hb; cases hb
          · exact HS.out i (by omega) hb
        clear hbit
        rintro e w5 ⟨rfl, rfl⟩
        go_wp2
        go_roundw
        case rel => exact ⟨k + 1, L, by omega, by go_num, rfl, HL2, by omega, by omega, HS2, trivial⟩
        case measure => simp [intOf]; omega
      · by_cases hL : L < 0
        · have HL2 : Hid (lineF p s (k + 1) = cl) := by show _ = _; rw [lineF, if_pos hbit, HL.out, if_pos hL, HC.out.2]
          have HS2 : Hid (∀ i, i < k + 1 → s.testBit i = true → p.line i = cl) := fun i hi hb => by
            by_cases e : i = k
            · subst e; exact HC.out.2
            · have h0 := (lineF_neg HV.out s (k := k) (by rw [HE.out]; omega)).2.2.1 (by rw [HL.out]; exact hL) i (by omega)
              rw [hb] at h0; cases h0
          have hd : decide (0 ≤ L) = false := by simp; omega
          clear hbit
          rintro e w5 ⟨rfl, rfl⟩
          go_wp2
          go_roundw
          case rel => exact ⟨k + 1, cl, by omega, by go_num, rfl, HL2, by omega, by omega, HS2, trivial⟩
          case measure => simp [intOf]; omega
        · have hd : decide (0 ≤ L) = true := by simp; omega
          by_cases hne : L = cl
          · subst hne
            have HL2 : Hid (lineF p s (k + 1) = L) := by show _ = _; rw [lineF, if_pos hbit, HL.out, if_neg hL]
            have HS2 : Hid (∀ i, i < k + 1 → s.testBit i = true → p.line i = L) := fun i hi hb => by
              by_cases e : i = k
              · subst e; exact HC.out.2
              · exact HS.out i (by omega) hb
            have hbn : (L != L) = false := by simp
            clear hbit
            rintro e w5 ⟨rfl, rfl⟩
            go_wp2
            go_roundw
            case rel => exact ⟨k + 1, L, by omega, by go_num, rfl, HL2, by omega, by omega, HS2, trivial⟩
            case measure => simp [intOf]; omega
          · have HF : Hid (p.alike s = false) := by
              obtain ⟨i, h1, h2, h3⟩ := lineF_at (p := p) (s := s) (k := k) (by rw [HL.out]; omega)
              exact alike_no (by have := HE.out; omega) (by rw [HE.out]; exact hlt) h2 hbit (by rw [h3, HL.out, HC.out.2]; exact hne)
            have hbn : (cl != L) = true := by simp [Ne.symm hne]
            clear hbit hne
            rintro e w5 ⟨rfl, rfl⟩
            go_wp2
            go_ret
            exact ⟨ret_bool HF.out.symm, HBW.out⟩
    · obtain rfl : fl = k := by omega
      have HF : Hid (p.alike s = decide (0 ≤ L)) := by
        have h := alike_iff HV.out s (fun i hi hb => by rw [HE.out] at hi ⊢; rw [HL.out]; exact HS.out i hi hb)
        rw [HE.out, HL.out] at h
        exact h
      go_wp2
      go_ret
      exact ⟨ret_bool (by rw [HF.out]), HBW.out⟩
end
end Go.Proofs.Ytbfjebglaimcmaa
