/- The law RiverBears: the river bears a boat as its depth says. No condition. -/
import Derived.Test.YtiodmkokpfgkkaaLawU
namespace Go.Proofs.Ytiodmkokpfgkkaa
open Go.RowKit Go.Hav Go.Shelf Go.Sq
attribute [local go_sem] Oper.semAt_some
noncomputable def bearsK (k : Nat) : Code := dropSeq k (Try.f8.body.getD .skip)
/-- What a law leaves: it is true. -/
def LawTrueP (w : World) (e : Ending) (w' : World) : Prop := e = .returned (.bool true) ∧ Below w.heap.size w w'
section
variable {fa la : Option Addr} {fl fc ll lc : Nat} {r : IRiv} {b2 : Nat}
set_option maxRecDepth 100000 in
set_option maxHeartbeats 6400000 in
theorem bears10 (hv : okR r = true) (ht : truthsA r.nat ≠ []) {n : Nat} (hn : n < 130) {w0 w : World} (hB : Below w0.heap.size w0 w) (hX : Blk w b2 27 #[.int .i64 r.depth.lo, .int .i64 r.depth.hi, .int .i64 r.fall.lo, .int .i64 r.fall.hi, .int .i64 r.days, .slice fa fl fc, .slice la ll lc]) (hP : RvIn w w.heap.size fa fl la ll r)
    {UN UE : Int} (hU : Value.tuple #[.int .i64 UN, .int .i64 UE] = if untilP r.nat n = 0 then .tuple #[.int .i64 0, .int .i64 4] else .tuple #[.int .i64 ((untilP r.nat n - 1 : Nat) : Int), .int .i64 0]) (c0 c1 c3 c4 c8 c11 c12 c13 c14 c15 c16 c17 c18 c19 c20 c21 c22 c23 c24 c25 c26 c27 c28 c29 c30 c31 c32 c33 c34 c35 c36 c37 c38 c39 c40 c41 c42 c43 c44 c45 c46 c47 c48 c49 c50 c51 c52 c53 c54 c55 c56 c57 c58 c59 c60 c61 c62 c63 c64 c65 c66 c67 c68 c69 c70 c71 c72 c73 c74 c75 c76 c77 c78 c79 c80 c81 c82 c83 c84 c85 c86 c87 c88 c89 c90 c91 c92 c93 c94 c95 c96 c97 c98 c99 c100 c101 c102 c103 c104 c105 c106 c107 c108 c109 c110 c111 c112 c113 c114 c115 c116 c117 c118 c119 c120 c121 c122 c123 c124 c125 c126 c127 c128 c129 c130 c131 c132 c133 c134 c135 c136 c137 c138 c139 c140 c141 c142 c143 c144 c145 c146 c147 c148 c149 c150 c151 c152 c153 c154 c155 c156 c157 c158 c159 c160 c161 c162 c163 c164 c165 c166 c167 c168 c169 c170 c171 c172 c173 c174 c175 c176 c177 c178 c179 c180 c181 c182 c183 c184 c185 c186 c187 c188 c189 c190 c191 c192 c193 c194 c195 c196 c197 c198 c199 c200 c201 c202 c203 c204 c205 c206 c207 c208 c209 c210 c211 c212 c213 c214 c215 c216 c217 c218 c219 c220 c221 c222 c223 c224 c225 c226 c227 c228 c229 c230 c231 c232 c233 c234 c235 c236 c237 c238 c239 c240 c241 c242 c243 c244 c245 c246 c247 c248 c249 c250 c251 c252 c253 c254 c255 c256 c257 c258 c259 c260 c261 c262 c263 c264 c265 c266 c267 c268 c269 c270 c271 c272 c273 c274 c275 c276 c277 c278 c279 c280 c281 c282 c283 c284 : Value) :
    Code.wp Try.prog (bearsK 10) (bodyPost Try.prog Try.f8 (LawTrueP w0)) ⟨(c0 :: c1 :: (.pointer (some ⟨b2, 0, none⟩)) :: c3 :: c4 :: (.int .i64 n) :: (.int .i64 (surelyP r.nat n : Nat)) :: (.int .i64 (perhapsP r.nat n : Nat)) :: c8 :: (.int .i64 UN) :: (.int .i64 UE) :: c11 :: c12 :: c13 :: c14 :: c15 :: c16 :: c17 :: c18 :: c19 :: c20 :: c21 :: c22 :: c23 :: c24 :: c25 :: c26 :: c27 :: c28 :: c29 :: c30 :: c31 :: c32 :: c33 :: c34 :: c35 :: c36 :: c37 :: c38 :: c39 :: c40 :: c41 :: c42 :: c43 :: c44 :: c45 :: c46 :: c47 :: c48 :: c49 :: c50 :: c51 :: c52 :: c53 :: c54 :: c55 :: c56 :: c57 :: c58 :: c59 :: c60 :: c61 :: c62 :: c63 :: c64 :: c65 :: c66 :: c67 :: c68 :: c69 :: c70 :: c71 :: c72 :: c73 :: c74 :: c75 :: c76 :: c77 :: c78 :: c79 :: c80 :: c81 :: c82 :: c83 :: c84 :: c85 :: c86 :: c87 :: c88 :: c89 :: c90 :: c91 :: c92 :: c93 :: c94 :: c95 :: c96 :: c97 :: c98 :: c99 :: c100 :: c101 :: c102 :: c103 :: c104 :: c105 :: c106 :: c107 :: c108 :: c109 :: c110 :: c111 :: c112 :: c113 :: c114 :: c115 :: c116 :: c117 :: c118 :: c119 :: c120 :: c121 :: c122 :: c123 :: c124 :: c125 :: c126 :: c127 :: c128 :: c129 :: c130 :: c131 :: c132 :: c133 :: c134 :: c135 :: c136 :: c137 :: c138 :: c139 :: c140 :: c141 :: c142 :: c143 :: c144 :: c145 :: c146 :: c147 :: c148 :: c149 :: c150 :: c151 :: c152 :: c153 :: c154 :: c155 :: c156 :: c157 :: c158 :: c159 :: c160 :: c161 :: c162 :: c163 :: c164 :: c165 :: c166 :: c167 :: c168 :: c169 :: c170 :: c171 :: c172 :: c173 :: c174 :: c175 :: c176 :: c177 :: c178 :: c179 :: c180 :: c181 :: c182 :: c183 :: c184 :: c185 :: c186 :: c187 :: c188 :: c189 :: c190 :: c191 :: c192 :: c193 :: c194 :: c195 :: c196 :: c197 :: c198 :: c199 :: c200 :: c201 :: c202 :: c203 :: c204 :: c205 :: c206 :: c207 :: c208 :: c209 :: c210 :: c211 :: c212 :: c213 :: c214 :: c215 :: c216 :: c217 :: c218 :: c219 :: c220 :: c221 :: c222 :: c223 :: c224 :: c225 :: c226 :: c227 :: c228 :: c229 :: c230 :: c231 :: c232 :: c233 :: c234 :: c235 :: c236 :: c237 :: c238 :: c239 :: c240 :: c241 :: c242 :: c243 :: c244 :: c245 :: c246 :: c247 :: c248 :: c249 :: c250 :: c251 :: c252 :: c253 :: c254 :: c255 :: c256 :: c257 :: c258 :: c259 :: c260 :: c261 :: c262 :: c263 :: c264 :: c265 :: c266 :: c267 :: c268 :: c269 :: c270 :: c271 :: c272 :: c273 :: c274 :: c275 :: c276 :: c277 :: c278 :: c279 :: c280 :: c281 :: c282 :: c283 :: c284 :: []).toArray, []⟩ w := by
  conv => arg 2; whnf
  obtain ⟨D, hD⟩ : ∃ D, r.nat.days = D := ⟨_, rfl⟩
  obtain ⟨hd, hd1, hd2⟩ := days_nat hv
  rw [hD] at hd hd1 hd2
  have HX := Lib.hid hX
  have HB := Lib.hid hB
  have HP := Lib.hid hP
  obtain ⟨S, hS⟩ : ∃ S, surelyP r.nat n = S := ⟨_, rfl⟩
  obtain ⟨E, hE⟩ : ∃ E, perhapsP r.nat n = E := ⟨_, rfl⟩
  have hSl : S < 2048 := by
    rw [← hS, surely_lo]
    have := setN_lt (loB r.nat n) (r.nat.days + 1)
    have := Nat.pow_le_pow_right (n := 2) (by omega) (show r.nat.days + 1 ≤ 11 by omega)
    omega
  have hEl : E < 2048 := by
    rw [← hE, perhaps_hi ht]
    have := setN_lt (hiB r.nat n) (r.nat.days + 1)
    have := Nat.pow_le_pow_right (n := 2) (by omega) (show r.nat.days + 1 ≤ 11 by omega)
    omega
  rw [hS, hE]
  have x0 := HX.out.cell 0
  have x1 := HX.out.cell 1
  have x2 := HX.out.cell 2
  have x3 := HX.out.cell 3
  have x4 := HX.out.cell 4
  have x5 := HX.out.cell 5
  have x6 := HX.out.cell 6
  have xl := HX.out.lt
  simp at x0 x1 x2 x3 x4 x5 x6
  clear hX hB hP
  by_cases h0 : n = 0
  · subst h0
    obtain ⟨K, hK⟩ : ∃ K, K = D + 1 := ⟨_, rfl⟩
    have hS2 : S = 2 ^ K - 1 := by
      rw [← hS, surely_lo, hD, ← hK]
      exact setN_all (fun i => decide_eq_true (Nat.zero_le _)) K
    have hp : (2 : Nat) ^ K < 2 ^ 12 := Nat.pow_lt_pow_right (by omega) (by omega)
    have hp1 := Nat.two_pow_pos K
    have hc : ((2 : Int) ^ K) = ((2 ^ K : Nat) : Int) := by push_cast; rfl
    have w1 : IntKind.i64.wrap (r.days + 1) = (K : Int) := by rw [hd]; exact (IntWalk.i64_in _ (by omega)).trans (by omega)
    have w2 : IntKind.i64.wrap ((2 : Int) ^ K) = 2 ^ K := by rw [hc]; exact IntWalk.i64_in _ (by omega)
    have w3 : IntKind.i64.wrap ((2 : Int) ^ K - 1) = 2 ^ K - 1 := by rw [hc]; exact IntWalk.i64_in _ (by omega)
    have e1 : ((S : Int) == 2 ^ K - 1) = true := by rw [beq_iff_eq, hc]; omega
    have hK64 : (K : Int) < 64 := by omega
    clear hS2 hp hp1 hc hK hS hE hU hD hd
    go_wp2_with fail
    refine (alive_any w).mono ?_
    rintro e w' ⟨rfl, hb⟩
    have HB2 : Hid (Below w0.heap.size w0 w') := HB.out.trans (hb.mono HB.out.size)
    clear hb
    go_wp2
    go_ret
    exact ⟨rfl, HB2.out⟩
  · obtain ⟨m, hm⟩ : ∃ m, m = n - 1 := ⟨_, rfl⟩
    have wm : IntKind.i64.wrap ((n : Int) - 1) = (m : Int) := (IntWalk.i64_in _ (by omega)).trans (by omega)
    have hn0 : ((n : Int) == 0) = false := by simp; omega
    have hmn : m ≤ n := by omega
    have hm2 : m ≤ 200 := by omega
    obtain ⟨L, hL⟩ : ∃ L, surelyP r.nat m = L := ⟨_, rfl⟩
    obtain ⟨M, hM⟩ : ∃ M, perhapsP r.nat m = M := ⟨_, rfl⟩
    have hLl : L < 2048 := by
      rw [← hL, surely_lo]
      have := setN_lt (loB r.nat m) (r.nat.days + 1)
      have := Nat.pow_le_pow_right (n := 2) (by omega) (show r.nat.days + 1 ≤ 11 by omega)
      omega
    have hMl : M < 2048 := by
      rw [← hM, perhaps_hi ht]
      have := setN_lt (hiB r.nat m) (r.nat.days + 1)
      have := Nat.pow_le_pow_right (n := 2) (by omega) (show r.nat.days + 1 ≤ 11 by omega)
      omega
    have dz : ∀ a b : Nat, (∀ j, a.testBit j = true → b.testBit j = true) → dif a b = 0 := fun a b h => by
      refine Nat.eq_of_testBit_eq fun j => ?_
      rw [tb_dif, Nat.zero_testBit]
      cases ha : a.testBit j
      · rfl
      · rw [h j ha]; rfl
    have a1 : bits BinOp.andNot IntKind.i64 (S : Int) (L : Int) = 0 := by
      rw [not_i64 S L (by omega) (by omega), dz S L (by rw [← hS, ← hL, surely_lo, surely_lo]; exact setN_sub (lo_less r.nat hmn) _)]; rfl
    have a2 : bits BinOp.andNot IntKind.i64 (E : Int) (M : Int) = 0 := by
      rw [not_i64 E M (by omega) (by omega), dz E M (by rw [← hE, ← hM, perhaps_hi ht, perhaps_hi ht]; exact setN_sub (hi_less r.nat hmn) _)]; rfl
    have HUM : Hid (untilP r.nat n ≤ untilP r.nat m) := by
      show _ ≤ _
      rw [until_lo, until_lo]; exact runN_mono (lo_less r.nat hmn) _
    have HDF := Lib.hid (days_fine hv ht hm2)
    rw [hL, hM] at HDF
    have HUF := Lib.hid (until_fine hv ht hm2)
    clear hL hM hS hE dz hm hD hd
    go_wp2_with fail
    refine (PDays_any (fa := fa) (fl := fl) (fc := fc) (la := la) (ll := ll) (lc := lc) (r := r) (w := w) (m : Int) (by exact HP.out)).mono ?_
    rw [HDF.out]
    rintro e w1 ⟨rfl, hb⟩
    have HB1 : Hid (Below w0.heap.size w0 w1) := HB.out.trans (hb.mono HB.out.size)
    have HP1 := Lib.hid (HP.out.grow hb)
    have HX1 : Hid (Blk w1 b2 27 #[.int .i64 r.depth.lo, .int .i64 r.depth.hi, .int .i64 r.fall.lo, .int .i64 r.fall.hi, .int .i64 r.days, .slice fa fl fc, .slice la ll lc]) := HX.out.below hb HX.out.lt
    clear hb x0 x1 x2 x3 x4 x5 x6 xl HX HP HB
    have HX := HX1
    have x0 := HX.out.cell 0
    have x1 := HX.out.cell 1
    have x2 := HX.out.cell 2
    have x3 := HX.out.cell 3
    have x4 := HX.out.cell 4
    have x5 := HX.out.cell 5
    have x6 := HX.out.cell 6
    have xl := HX.out.lt
    simp at x0 x1 x2 x3 x4 x5 x6
    go_wp2_with fail
    refine (PUntil_any (fa := fa) (fl := fl) (fc := fc) (la := la) (ll := ll) (lc := lc) (r := r) (w := w1) (m : Int) (by exact HP1.out)).mono ?_
    rw [HUF.out]
    by_cases hu : untilP r.nat n = 0
    · rw [if_pos hu] at hU
      obtain ⟨rfl, rfl⟩ : UN = 0 ∧ UE = 4 := by simpa using hU
      obtain ⟨vu, ve, huv⟩ : ∃ vu ve : Int, (if untilP r.nat m = 0 then Value.tuple #[.int .i64 0, .int .i64 4] else .tuple #[.int .i64 ((untilP r.nat m - 1 : Nat) : Int), .int .i64 0]) = .tuple #[.int .i64 vu, .int .i64 ve] := by
        split
        · exact ⟨_, _, rfl⟩
        · exact ⟨_, _, rfl⟩
      rw [huv]
      rintro e w2 ⟨rfl, hb⟩
      have HB2 : Hid (Below w0.heap.size w0 w2) := HB1.out.trans (hb.mono HB1.out.size)
      clear hb huv x0 x1 x2 x3 x4 x5 x6 xl hU hu
      go_wp2_with fail
      refine (alive_any w2).mono ?_
      rintro e w' ⟨rfl, hb⟩
      have HB3 : Hid (Below w0.heap.size w0 w') := HB2.out.trans (hb.mono HB2.out.size)
      clear hb
      go_wp2
      go_ret
      exact ⟨rfl, HB3.out⟩
    · rw [if_neg hu] at hU
      obtain ⟨u, hue⟩ : ∃ u, u = untilP r.nat n - 1 := ⟨_, rfl⟩
      obtain ⟨v, hve⟩ : ∃ v, v = untilP r.nat m - 1 := ⟨_, rfl⟩
      rw [← hue] at hU
      obtain ⟨rfl, rfl⟩ : UN = (u : Int) ∧ UE = 0 := by simpa using hU
      have hum := HUM.out
      rw [if_neg (by omega), ← hve]
      have huv : (u : Int) ≤ (v : Int) := by omega
      rintro e w2 ⟨rfl, hb⟩
      have HB2 : Hid (Below w0.heap.size w0 w2) := HB1.out.trans (hb.mono HB1.out.size)
      clear hb x0 x1 x2 x3 x4 x5 x6 xl hU hu hue hve hum
      go_wp2_with fail
      refine (alive_any w2).mono ?_
      rintro e w' ⟨rfl, hb⟩
      have HB3 : Hid (Below w0.heap.size w0 w') := HB2.out.trans (hb.mono HB2.out.size)
      clear hb
      go_wp2
      go_ret
      exact ⟨rfl, HB3.out⟩
end
end Go.Proofs.Ytiodmkokpfgkkaa
