/- The law RiverClash: the looks that are returned clash alone, and are the least that do. No condition. -/
import Derived.Test.YtiodmkokpfgkkaaLawClashA
namespace Go.Proofs.Ytiodmkokpfgkkaa
open Go.RowKit Go.Hav Go.Shelf Go.Sq
attribute [local go_sem] Oper.semAt_some
theorem clash_val {r : IRiv} (hv : okR r = true) : (truthsA r.nat = [] ∧ Value.tuple #[.int .i64 (clashV r), .int .i64 (clashE r)] = .tuple #[.int .i64 (clashP r.nat : Nat), .int .i64 0]) ∨ (truthsA r.nat ≠ [] ∧ Value.tuple #[.int .i64 (clashV r), .int .i64 (clashE r)] = .tuple #[.int .i64 0, .int .i64 4]) := by
  by_cases ht : truthsA r.nat = []
  · have e : clashE r = 0 := by unfold clashE; rw [if_neg (by rw [hv]; simp), if_pos ht]
    refine .inl ⟨ht, ?_⟩
    unfold clashV
    rw [if_pos e, e]
    rfl
  · have e : clashE r = 4 := by unfold clashE; rw [if_neg (by rw [hv]; simp), if_neg ht]
    refine .inr ⟨ht, ?_⟩
    unfold clashV
    rw [if_neg (by omega), e]
    rfl
noncomputable def clashK (k : Nat) : Code := dropSeq k (Try.f10.body.getD .skip)
section
variable {fa la : Option Addr} {fl fc ll lc : Nat} {r : IRiv} {w : World} {b2 : Nat}
/-- The law's own function can be called. -/
def ClashF (r : IRiv) (b2 : Nat) (w : World) : Prop := ∀ wv, Below w.heap.size w wv → ∀ s, s < 32 → ∀ z, clashB r.nat s = z → Calls Try.prog 41 #[.int .i64 (s : Nat), .pointer (some ⟨b2, 0, none⟩)] wv fun e w' => e = .returned (.bool z) ∧ Below wv.heap.size wv w'
theorem ClashF.grow {w w' : World} (h : ClashF r b2 w) (hb : Below w.heap.size w w') : ClashF r b2 w' := fun wv hv => h wv (hb.trans (hv.mono hb.size))
set_option maxRecDepth 100000 in
set_option maxHeartbeats 6400000 in
theorem clash9 {boat c F : Nat} (hboat : boat ≤ 255) (hF : F < 32) (hc : c < 32) (hmin : ∀ u, u ≤ F → clashB r.nat u = true → sizeP c < sizeP u ∨ (sizeP c = sizeP u ∧ c ≤ u)) {w0 w : World} (hB : Below w0.heap.size w0 w) (HC : Hid (ClashF r b2 w)) (c0 c2 c3 c4 c6 c9 c10 c11 c12 c13 c14 c15 c16 c17 c18 c19 c20 c21 c22 c23 c24 c25 c26 c27 c28 c29 c30 c31 c32 c33 c34 c35 c36 c37 c38 c39 c40 c41 c42 c43 c44 c45 c46 c47 c48 c49 c50 c51 c52 c53 c54 c55 c56 c57 c58 c59 c60 c61 c62 c63 c64 c65 c66 c67 c68 c69 c70 c71 c72 c73 c74 c75 c76 c77 c78 c79 c80 c81 c82 c83 c84 c85 c86 c87 c88 c89 c90 c91 c92 c93 c94 c95 c96 c97 c98 c99 c100 c101 c102 c103 c104 c105 c106 c107 c108 c109 c110 c111 c112 c113 c114 c115 c116 c117 c118 c119 c120 c121 c122 : Value) :
    Code.wp Try.prog (clashK 9) (bodyPost Try.prog Try.f10 (LawTrueP w0)) ⟨(c0 :: (.int .u8 boat) :: c2 :: c3 :: c4 :: (.int .i64 c) :: c6 :: (.func (.func 41) #[] #[.pointer (some ⟨b2, 0, none⟩)]) :: (.int .i64 F) :: c9 :: c10 :: c11 :: c12 :: c13 :: c14 :: c15 :: c16 :: c17 :: c18 :: c19 :: c20 :: c21 :: c22 :: c23 :: c24 :: c25 :: c26 :: c27 :: c28 :: c29 :: c30 :: c31 :: c32 :: c33 :: c34 :: c35 :: c36 :: c37 :: c38 :: c39 :: c40 :: c41 :: c42 :: c43 :: c44 :: c45 :: c46 :: c47 :: c48 :: c49 :: c50 :: c51 :: c52 :: c53 :: c54 :: c55 :: c56 :: c57 :: c58 :: c59 :: c60 :: c61 :: c62 :: c63 :: c64 :: c65 :: c66 :: c67 :: c68 :: c69 :: c70 :: c71 :: c72 :: c73 :: c74 :: c75 :: c76 :: c77 :: c78 :: c79 :: c80 :: c81 :: c82 :: c83 :: c84 :: c85 :: c86 :: c87 :: c88 :: c89 :: c90 :: c91 :: c92 :: c93 :: c94 :: c95 :: c96 :: c97 :: c98 :: c99 :: c100 :: c101 :: c102 :: c103 :: c104 :: c105 :: c106 :: c107 :: c108 :: c109 :: c110 :: c111 :: c112 :: c113 :: c114 :: c115 :: c116 :: c117 :: c118 :: c119 :: c120 :: c121 :: c122 :: []).toArray, []⟩ w := by
  conv => arg 2; whnf
  have HB := Lib.hid hB
  obtain ⟨o, ho⟩ : ∃ o, o = boat &&& F := ⟨_, rfl⟩
  have hoF : o ≤ F := by rw [ho]; exact Nat.and_le_right
  have o1 : bits BinOp.and IntKind.i64 (boat : Int) (F : Int) = (o : Int) := by rw [ho]; exact and_i64 boat F (by omega) (by omega)
  obtain ⟨z, hz⟩ : ∃ z, clashB r.nat o = z := ⟨_, rfl⟩
  have hm := hmin o hoF
  rw [hz] at hm
  have ho32 : o < 32 := by omega
  have HZ := Lib.hid hz
  obtain ⟨so, hso⟩ : ∃ so, sizeP o = so := ⟨_, rfl⟩
  obtain ⟨sc, hsc⟩ : ∃ sc, sizeP c = sc := ⟨_, rfl⟩
  rw [hso, hsc] at hm
  have HSO := Lib.hid hso
  have HSC := Lib.hid hsc
  clear hB ho hz hso hsc hmin
  have f42 := enters_of Try.func42 (by kernel_rfl) rfl
  go_wp2_with fail
  refine (HC.out w (Below.refl _ _) o ho32 z HZ.out).mono ?_
  rintro e w1 ⟨rfl, hb⟩
  have HB1 : Hid (Below w0.heap.size w0 w1) := HB.out.trans (hb.mono HB.out.size)
  clear hb
  cases z
  · go_wp2_with fail
    refine (alive_any _).mono ?_
    rintro e wz ⟨rfl, hbz⟩
    have HBz : Hid (Below w0.heap.size w0 wz) := HB1.out.trans (hbz.mono HB1.out.size)
    clear hbz
    go_wp2
    go_ret
    exact ⟨rfl, HBz.out⟩
  · have hm := hm rfl
    go_wp2_with fail
    refine (rsize_any o ho32 w1).mono ?_
    rw [HSO.out]
    rintro e w2 ⟨rfl, hw⟩
    obtain rfl : w1 = w2 := hw.symm
    clear hw
    go_wp2_with fail
    refine (rsize_any c hc w1).mono ?_
    rw [HSC.out]
    rintro e w2 ⟨rfl, hw⟩
    obtain rfl : w1 = w2 := hw.symm
    clear hw
    by_cases hgt : sc < so
    · have g1 : (sc : Int) < (so : Int) := by omega
      go_wp2_with fail
      refine (alive_any _).mono ?_
      rintro e wz ⟨rfl, hbz⟩
      have HBz : Hid (Below w0.heap.size w0 wz) := HB1.out.trans (hbz.mono HB1.out.size)
      clear hbz
      go_wp2
      go_ret
      exact ⟨rfl, HBz.out⟩
    · have g1 : ¬ (sc : Int) < (so : Int) := by omega
      have g2 : so = sc := by omega
      have g3 : c ≤ o := by omega
      have g4 : (c : Int) ≤ (o : Int) := by omega
      subst g2
      go_wp2_with fail
      refine (rsize_any o ho32 w1).mono ?_
      rw [HSO.out]
      rintro e w2 ⟨rfl, hw⟩
      obtain rfl : w1 = w2 := hw.symm
      clear hw
      go_wp2_with fail
      refine (rsize_any c hc w1).mono ?_
      rw [HSC.out]
      rintro e w2 ⟨rfl, hw⟩
      obtain rfl : w1 = w2 := hw.symm
      clear hw
      go_wp2_with fail
      refine (alive_any _).mono ?_
      rintro e wz ⟨rfl, hbz⟩
      have HBz : Hid (Below w0.heap.size w0 wz) := HB1.out.trans (hbz.mono HB1.out.size)
      clear hbz
      go_wp2
      go_ret
      exact ⟨rfl, HBz.out⟩
set_option maxRecDepth 100000 in
set_option maxHeartbeats 6400000 in
theorem clash8 {boat c F : Nat} (hboat : boat ≤ 255) (hF : F < 32) (hc : c < 32) (hll : ll ≤ 5) (hmin : ∀ u, u ≤ F → clashB r.nat u = true → sizeP c < sizeP u ∨ (sizeP c = sizeP u ∧ c ≤ u)) (hone : ∀ i, i < ll → c.testBit i = true → clashB r.nat (dif c (2 ^ i)) = false)
    {w0 w : World} (hB : Below w0.heap.size w0 w) (hX : Blk w b2 27 #[.int .i64 r.depth.lo, .int .i64 r.depth.hi, .int .i64 r.fall.lo, .int .i64 r.fall.hi, .int .i64 r.days, .slice fa fl fc, .slice la ll lc]) (HC : Hid (ClashF r b2 w)) (c0 c3 c4 c6 c9 c10 c11 c12 c13 c14 c15 c16 c17 c18 c19 c20 c21 c22 c23 c24 c25 c26 c27 c28 c29 c30 c31 c32 c33 c34 c35 c36 c37 c38 c39 c40 c41 c42 c43 c44 c45 c46 c47 c48 c49 c50 c51 c52 c53 c54 c55 c56 c57 c58 c59 c60 c61 c62 c63 c64 c65 c66 c67 c68 c69 c70 c71 c72 c73 c74 c75 c76 c77 c78 c79 c80 c81 c82 c83 c84 c85 c86 c87 c88 c89 c90 c91 c92 c93 c94 c95 c96 c97 c98 c99 c100 c101 c102 c103 c104 c105 c106 c107 c108 c109 c110 c111 c112 c113 c114 c115 c116 c117 c118 c119 c120 c121 c122 : Value) :
    Code.wp Try.prog (clashK 8) (bodyPost Try.prog Try.f10 (LawTrueP w0)) ⟨(c0 :: (.int .u8 boat) :: (.pointer (some ⟨b2, 0, none⟩)) :: c3 :: c4 :: (.int .i64 c) :: c6 :: (.func (.func 41) #[] #[.pointer (some ⟨b2, 0, none⟩)]) :: (.int .i64 F) :: c9 :: c10 :: c11 :: c12 :: c13 :: c14 :: c15 :: c16 :: c17 :: c18 :: c19 :: c20 :: c21 :: c22 :: c23 :: c24 :: c25 :: c26 :: c27 :: c28 :: c29 :: c30 :: c31 :: c32 :: c33 :: c34 :: c35 :: c36 :: c37 :: c38 :: c39 :: c40 :: c41 :: c42 :: c43 :: c44 :: c45 :: c46 :: c47 :: c48 :: c49 :: c50 :: c51 :: c52 :: c53 :: c54 :: c55 :: c56 :: c57 :: c58 :: c59 :: c60 :: c61 :: c62 :: c63 :: c64 :: c65 :: c66 :: c67 :: c68 :: c69 :: c70 :: c71 :: c72 :: c73 :: c74 :: c75 :: c76 :: c77 :: c78 :: c79 :: c80 :: c81 :: c82 :: c83 :: c84 :: c85 :: c86 :: c87 :: c88 :: c89 :: c90 :: c91 :: c92 :: c93 :: c94 :: c95 :: c96 :: c97 :: c98 :: c99 :: c100 :: c101 :: c102 :: c103 :: c104 :: c105 :: c106 :: c107 :: c108 :: c109 :: c110 :: c111 :: c112 :: c113 :: c114 :: c115 :: c116 :: c117 :: c118 :: c119 :: c120 :: c121 :: c122 :: []).toArray, []⟩ w := by
  conv => arg 2; whnf
  conv => arg 2; arg 2; change clashK 9
  have HX := Lib.hid hX
  have HB := Lib.hid hB
  have HM := Lib.hid hmin
  have HO := Lib.hid hone
  have x0 := HX.out.cell 0
  have x1 := HX.out.cell 1
  have x2 := HX.out.cell 2
  have x3 := HX.out.cell 3
  have x4 := HX.out.cell 4
  have x5 := HX.out.cell 5
  have x6 := HX.out.cell 6
  have xl := HX.out.lt
  simp at x0 x1 x2 x3 x4 x5 x6
  clear hX hB hmin hone
  go_wp2
  clear x0 x1 x2 x3 x4 x5 x6 xl
  go_loopw [72] (fun i wr => ∃ k : Nat, k ≤ ll ∧ i = .int .i64 k ∧ Hid (Below w.heap.size w wr)) (fun i _ => ll - (intOf i).toNat)
  case atStart => exact ⟨0, Nat.zero_le _, rfl, Below.refl _ _⟩
  case round =>
    obtain ⟨k, hk, rfl, HBR⟩ := hrel
    by_cases hlt : k < ll
    · have htb := tb_i64 c k (by omega)
      have hk64 : (k : Int) < 64 := by omega
      cases hbit : c.testBit k
      · rw [hbit] at htb
        clear hbit
        go_wp2
        go_roundw
        case rel => exact ⟨k + 1, by omega, by go_num, HBR⟩
        case measure => simp [intOf]; omega
      · rw [hbit] at htb
        have hz := HO.out k hlt hbit
        obtain ⟨q, hq⟩ : ∃ q, q = dif c (2 ^ k) := ⟨_, rfl⟩
        rw [← hq] at hz
        have hq32 : q < 32 := by rw [hq]; have := dif_le c (2 ^ k); omega
        have w1 := wrap_day k (by omega)
        have a1 : bits BinOp.andNot IntKind.i64 (c : Int) (2 ^ k) = (q : Int) := by
          have h2 : ((2 : Int) ^ k) = ((2 ^ k : Nat) : Int) := by push_cast; rfl
          have h3 : (2 : Nat) ^ k < 2 ^ 6 := Nat.pow_lt_pow_right (by omega) (by omega)
          rw [h2, hq]
          exact not_i64 c (2 ^ k) (by omega) (by omega)
        have HZ := Lib.hid hz
        clear hbit hz hq
        go_wp2_with fail
        refine (HC.out wr HBR.out q hq32 false HZ.out).mono ?_
        rintro e w1 ⟨rfl, hb⟩
        have HB1 : Hid (Below w.heap.size w w1) := HBR.out.trans (hb.mono HBR.out.size)
        clear hb
        go_wp2
        go_roundw
        case rel => exact ⟨k + 1, by omega, by go_num, HB1⟩
        case measure => simp [intOf]; omega
    · obtain rfl : k = ll := by omega
      go_wp2
      exact clash9 hboat hF hc HM.out (HB.out.trans (HBR.out.mono HB.out.size)) (Lib.hid (HC.out.grow HBR.out)) _ _ _ _ _ _ _ _ _ _ _ _ _ _ _ _ _ _ _ _ _ _ _ _ _ _ _ _ _ _ _ _ _ _ _ _ _ _ _ _ _ _ _ _ _ _ _ _ _ _ _ _ _ _ _ _ _ _ _ _ _ _ _ _ _ _ _ _ _ _ _ _ _ _ _ _ _ _ _ _ _ _ _ _ _ _ _ _ _ _ _ _ _ _ _ _ _ _ _ _ _ _ _ _ _ _ _ _ _ _ _ _ _ _ _ _ _ _ _
set_option maxRecDepth 100000 in
set_option maxHeartbeats 6400000 in
theorem lawClash_any (boat : Nat) (hboat : boat ≤ 255) (w : World) (hP : RvIn w w.heap.size fa fl la ll r) :
    Calls Try.prog 10 #[(.agg #[.int .i64 r.depth.lo, .int .i64 r.depth.hi, .int .i64 r.fall.lo, .int .i64 r.fall.hi, .int .i64 r.days, .slice fa fl fc, .slice la ll lc]), .int .u8 boat] w (LawTrueP w) := by
  have HP0 := Lib.hid hP
  have m1 := hP.mfl
  have m2 := hP.mll
  have HEL := Lib.hid hP.ell
  obtain ⟨W, hW⟩ : ∃ W, W = w.alloc (.cells #[.int .i64 r.depth.lo, .int .i64 r.depth.hi, .int .i64 r.fall.lo, .int .i64 r.fall.hi, .int .i64 r.days, .slice fa fl fc, .slice la ll lc] 27) := ⟨_, rfl⟩
  obtain ⟨b2, hb2⟩ : ∃ b2, b2 = w.heap.size := ⟨_, rfl⟩
  have HX0 : Hid (Blk W b2 27 #[.int .i64 r.depth.lo, .int .i64 r.depth.hi, .int .i64 r.fall.lo, .int .i64 r.fall.hi, .int .i64 r.days, .slice fa fl fc, .slice la ll lc]) := by rw [hW, hb2]; exact Blk.new w 27 _
  have HB0 : Hid (Below w.heap.size w W) := by rw [hW]; exact (Below.refl _ _).alloc (Nat.le_refl _) _
  have HP1 := Lib.hid (HP0.out.grow HB0.out)
  clear hP HP0
  go_enter Try.func10, Try.ntmps10
  conv => arg 2; whnf
  conv => arg 2; arg 2; arg 2; arg 2; arg 2; arg 2; arg 2; arg 2; arg 2; change clashK 8
  go_upto_region 1 with (fail)
  rw [← hW, ← hb2]
  clear hW hb2
  have HX := HX0
  have x0 := HX.out.cell 0
  have x1 := HX.out.cell 1
  have x2 := HX.out.cell 2
  have x3 := HX.out.cell 3
  have x4 := HX.out.cell 4
  have x5 := HX.out.cell 5
  have x6 := HX.out.cell 6
  have xl := HX.out.lt
  simp at x0 x1 x2 x3 x4 x5 x6
  go_wp2_with fail
  refine (long_any (fa := fa) (fl := fl) (fc := fc) (la := la) (ll := ll) (lc := lc) (r := r) W m1 m2).mono ?_
  rintro e w1 ⟨⟨b, rfl, -⟩, hb⟩
  have HB1 : Hid (Below w.heap.size w w1) := HB0.out.trans (hb.mono HB0.out.size)
  have HP2 := Lib.hid (HP1.out.grow hb)
  have HX2 : Hid (Blk w1 b2 27 #[.int .i64 r.depth.lo, .int .i64 r.depth.hi, .int .i64 r.fall.lo, .int .i64 r.fall.hi, .int .i64 r.days, .slice fa fl fc, .slice la ll lc]) := HX0.out.below hb HX0.out.lt
  clear hb x0 x1 x2 x3 x4 x5 x6 xl HX HX0 HP1
  cases b
  case true =>
    go_wp2_with fail
    refine (alive_any _).mono ?_
    rintro e wz ⟨rfl, hbz⟩
    have HBz : Hid (Below w.heap.size w wz) := HB1.out.trans (hbz.mono HB1.out.size)
    clear hbz
    go_wp2
    go_ret
    exact ⟨rfl, HBz.out⟩
  have HX := HX2
  have x0 := HX.out.cell 0
  have x1 := HX.out.cell 1
  have x2 := HX.out.cell 2
  have x3 := HX.out.cell 3
  have x4 := HX.out.cell 4
  have x5 := HX.out.cell 5
  have x6 := HX.out.cell 6
  have xl := HX.out.lt
  simp at x0 x1 x2 x3 x4 x5 x6
  go_wp2_with fail
  refine (rriver_any (fa := fa) (fl := fl) (fc := fc) (la := la) (ll := ll) (lc := lc) (r := r) w1 (by exact HP2.out)).mono ?_
  cases hv : okR r
  case false =>
    clear hv
    rintro e w2 ⟨rfl, hb⟩
    have HB2 : Hid (Below w.heap.size w w2) := HB1.out.trans (hb.mono HB1.out.size)
    clear hb
    go_wp2_with fail
    refine (alive_any _).mono ?_
    rintro e wz ⟨rfl, hbz⟩
    have HBz : Hid (Below w.heap.size w wz) := HB2.out.trans (hbz.mono HB2.out.size)
    clear hbz
    go_wp2
    go_ret
    exact ⟨rfl, HBz.out⟩
  rintro e w2 ⟨rfl, hb⟩
  have HB2 : Hid (Below w.heap.size w w2) := HB1.out.trans (hb.mono HB1.out.size)
  have HP3 := Lib.hid (HP2.out.grow hb)
  have HX3 : Hid (Blk w2 b2 27 #[.int .i64 r.depth.lo, .int .i64 r.depth.hi, .int .i64 r.fall.lo, .int .i64 r.fall.hi, .int .i64 r.days, .slice fa fl fc, .slice la ll lc]) := HX2.out.below hb HX2.out.lt
  have HV := Lib.hid hv
  have hll5 : ll ≤ 5 := by rw [← HEL.out]; exact (okR_parts hv).1.2.2.2.2
  obtain ⟨F, hF⟩ : ∃ F, F = full ll := ⟨_, rfl⟩
  have hp1 := Nat.two_pow_pos ll
  have hp2 : 2 ^ ll ≤ 2 ^ 5 := Nat.pow_le_pow_right (by omega) hll5
  have hF1 : F = 2 ^ ll - 1 := hF
  have hF32 : F < 32 := by omega
  have p1 := wrap_day ll (by omega)
  have p2 : IntKind.i64.wrap ((2 : Int) ^ ll - 1) = (F : Int) := by
    have h2 : ((2 : Int) ^ ll) = ((2 ^ ll : Nat) : Int) := by push_cast; rfl
    rw [h2]
    exact (IntWalk.i64_in _ (by omega)).trans (by omega)
  have hl64 : (ll : Int) < 64 := by omega
  have hnl : r.nat.lk.length = ll := by unfold IRiv.nat; simp only [List.length_map]; exact HEL.out
  have HG := good_of hv
  have h0 : clashB r.nat 0 = false := clash_zero HG.d1 HG.f1 (fun f hf => ⟨(HG.fr f hf).2.1, (HG.fr f hf).2.2.2.2.2.1⟩)
  have HZ0 := Lib.hid h0
  have HC2 : Hid (ClashF r b2 w2) := fun wv hv' s hs z hz => by
    rw [← hz]
    exact clash41_any HV.out s hs wv (HX3.out.below hv' HX3.out.lt) (HP3.out.grow hv')
  have hmf : ∀ (fn : Fn) (first cap : Array Value) (w : World), (Instr.makeFunc fn first cap).run Try.prog w = .ok (.func fn first cap) w := fun _ _ _ _ => rfl
  have f41 := enters_of Try.func41 (by kernel_rfl) rfl
  have hcl := clash_val hv
  have HCI : Hid (truthsA r.nat = [] → 1 ≤ clashP r.nat ∧ clashP r.nat ≤ F ∧ clashB r.nat (clashP r.nat) = true ∧ (∀ u, u ≤ F → clashB r.nat u = true → sizeP (clashP r.nat) < sizeP u ∨ (sizeP (clashP r.nat) = sizeP u ∧ clashP r.nat ≤ u)) ∧ ∀ i, i < ll → (clashP r.nat).testBit i = true → clashB r.nat (dif (clashP r.nat) (2 ^ i)) = false) := fun ht => by
    rw [hF]
    refine clashP_is hnl hll5 h0 ?_
    unfold clashB
    unfold truthsA at ht
    rw [hnl] at ht
    rw [ht]; rfl
  have HFB : Hid (clashB r.nat F = decide (truthsA r.nat = [])) := by
    show _ = _
    unfold clashB truthsA
    rw [hnl, ← hF]
    cases truthsP r.nat F <;> rfl
  clear hb hv x0 x1 x2 x3 x4 x5 x6 xl HX HX2 HP2 hF hF1 hp1 hp2 h0 HG hnl
  have HX := HX3
  have x0 := HX.out.cell 0
  have x1 := HX.out.cell 1
  have x2 := HX.out.cell 2
  have x3 := HX.out.cell 3
  have x4 := HX.out.cell 4
  have x5 := HX.out.cell 5
  have x6 := HX.out.cell 6
  have xl := HX.out.lt
  simp at x0 x1 x2 x3 x4 x5 x6
  go_wp2_with fail
  refine (PClash_any (fa := fa) (fl := fl) (fc := fc) (la := la) (ll := ll) (lc := lc) (r := r) (w := w2) (by exact HP3.out)).mono ?_
  rcases hcl with ⟨ht, hval⟩ | ⟨ht, hval⟩
  · obtain ⟨c1, c2, c3, c4, c5⟩ := HCI.out ht
    have hfb := HFB.out
    rw [decide_eq_true ht] at hfb
    have HFBt := Lib.hid hfb
    rw [hval]
    obtain ⟨c, hc⟩ : ∃ c, c = clashP r.nat := ⟨_, rfl⟩
    rw [← hc] at c1 c2 c3 c4 c5
    rw [← hc]
    have HC3 := Lib.hid c3
    have HC4 := Lib.hid c4
    have HC5 := Lib.hid c5
    have hc32 : c < 32 := by omega
    have e1 : ¬ (c : Int) < 1 := by omega
    have e2 : ¬ (F : Int) < (c : Int) := by omega
    have e3 : ¬ F < c := by omega
    rintro e w3 ⟨rfl, hb⟩
    have HB3 : Hid (Below w.heap.size w w3) := HB2.out.trans (hb.mono HB2.out.size)
    have HX4 : Hid (Blk w3 b2 27 #[.int .i64 r.depth.lo, .int .i64 r.depth.hi, .int .i64 r.fall.lo, .int .i64 r.fall.hi, .int .i64 r.days, .slice fa fl fc, .slice la ll lc]) := HX3.out.below hb HX3.out.lt
    have HCF3 := Lib.hid (HC2.out.grow hb)
    clear hb x0 x1 x2 x3 x4 x5 x6 xl HX HX3 c3 c4 c5 hc hval hfb ht
    have HX := HX4
    have x0 := HX.out.cell 0
    have x1 := HX.out.cell 1
    have x2 := HX.out.cell 2
    have x3 := HX.out.cell 3
    have x4 := HX.out.cell 4
    have x5 := HX.out.cell 5
    have x6 := HX.out.cell 6
    have xl := HX.out.lt
    simp at x0 x1 x2 x3 x4 x5 x6
    go_wp2_with fail
    refine (HCF3.out w3 (Below.refl _ _) F hF32 true HFBt.out).mono ?_
    rintro e w4 ⟨rfl, hb⟩
    have HB4 : Hid (Below w.heap.size w w4) := HB3.out.trans (hb.mono HB3.out.size)
    have HBx4 : Hid (Below w3.heap.size w3 w4) := hb
    clear hb
    go_wp2_with fail
    refine (HCF3.out w4 HBx4.out 0 (by omega) false HZ0.out).mono ?_
    rintro e w5 ⟨rfl, hb⟩
    have HB5 : Hid (Below w.heap.size w w5) := HB4.out.trans (hb.mono HB4.out.size)
    have HBx5 : Hid (Below w3.heap.size w3 w5) := HBx4.out.trans (hb.mono HBx4.out.size)
    clear hb
    go_wp2_with fail
    refine (HCF3.out w5 HBx5.out c hc32 true HC3.out).mono ?_
    rintro e w6 ⟨rfl, hb⟩
    have HB6 : Hid (Below w.heap.size w w6) := HB5.out.trans (hb.mono HB5.out.size)
    have HBx6 : Hid (Below w3.heap.size w3 w6) := HBx5.out.trans (hb.mono HBx5.out.size)
    clear hb x0 x1 x2 x3 x4 x5 x6 xl
    go_wp2
    exact clash8 hboat hF32 hc32 hll5 HC4.out HC5.out HB6.out (HX4.out.below HBx6.out HX4.out.lt) (Lib.hid (HCF3.out.grow HBx6.out)) _ _ _ _ _ _ _ _ _ _ _ _ _ _ _ _ _ _ _ _ _ _ _ _ _ _ _ _ _ _ _ _ _ _ _ _ _ _ _ _ _ _ _ _ _ _ _ _ _ _ _ _ _ _ _ _ _ _ _ _ _ _ _ _ _ _ _ _ _ _ _ _ _ _ _ _ _ _ _ _ _ _ _ _ _ _ _ _ _ _ _ _ _ _ _ _ _ _ _ _ _ _ _ _ _ _ _ _ _ _ _ _ _ _ _ _ _ _
  · have hfb := HFB.out
    rw [decide_eq_false ht] at hfb
    have HFBt := Lib.hid hfb
    rw [hval]
    rintro e w3 ⟨rfl, hb⟩
    have HB3 : Hid (Below w.heap.size w w3) := HB2.out.trans (hb.mono HB2.out.size)
    have HX4 : Hid (Blk w3 b2 27 #[.int .i64 r.depth.lo, .int .i64 r.depth.hi, .int .i64 r.fall.lo, .int .i64 r.fall.hi, .int .i64 r.days, .slice fa fl fc, .slice la ll lc]) := HX3.out.below hb HX3.out.lt
    have HCF3 := Lib.hid (HC2.out.grow hb)
    clear hb x0 x1 x2 x3 x4 x5 x6 xl HX HX3 hval hfb ht
    have HX := HX4
    have x0 := HX.out.cell 0
    have x1 := HX.out.cell 1
    have x2 := HX.out.cell 2
    have x3 := HX.out.cell 3
    have x4 := HX.out.cell 4
    have x5 := HX.out.cell 5
    have x6 := HX.out.cell 6
    have xl := HX.out.lt
    simp at x0 x1 x2 x3 x4 x5 x6
    go_wp2_with fail
    refine (HCF3.out w3 (Below.refl _ _) F hF32 false HFBt.out).mono ?_
    rintro e w4 ⟨rfl, hb⟩
    have HB4 : Hid (Below w.heap.size w w4) := HB3.out.trans (hb.mono HB3.out.size)
    have HBx4 : Hid (Below w3.heap.size w3 w4) := hb
    clear hb
    go_wp2_with fail
    refine (HCF3.out w4 HBx4.out 0 (by omega) false HZ0.out).mono ?_
    rintro e w5 ⟨rfl, hb⟩
    have HB5 : Hid (Below w.heap.size w w5) := HB4.out.trans (hb.mono HB4.out.size)
    clear hb
    go_wp2_with fail
    refine (alive_any _).mono ?_
    rintro e wz ⟨rfl, hbz⟩
    have HBz : Hid (Below w.heap.size w wz) := HB5.out.trans (hbz.mono HB5.out.size)
    clear hbz
    go_wp2
    go_ret
    exact ⟨rfl, HBz.out⟩
end
end Go.Proofs.Ytiodmkokpfgkkaa
