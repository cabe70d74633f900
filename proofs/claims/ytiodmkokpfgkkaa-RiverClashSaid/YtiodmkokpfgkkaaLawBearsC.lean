/- The law RiverBears, the days' loop. -/
import Derived.Test.YtiodmkokpfgkkaaLawBearsB
namespace Go.Proofs.Ytiodmkokpfgkkaa
open Go.RowKit Go.Hav Go.Shelf Go.Sq
attribute [local go_sem] Oper.semAt_some
section
variable {fa la : Option Addr} {fl fc ll lc : Nat} {r : IRiv} {b2 : Nat}
theorem setN_or' {f : Nat → Bool} {n : Nat} (h : f n = true) (hn : n ≤ 10) : bits BinOp.or IntKind.i64 ((setN f n : Nat) : Int) (2 ^ n) = ((setN f (n + 1) : Nat) : Int) := by
  have hA := setN_lt f n
  have h2k : 2 ^ n ≤ 1024 := Nat.pow_le_pow_right (n := 2) (by omega) (show n ≤ 10 by omega)
  have h2 := or_i64 (setN f n) (2 ^ n) (by omega) (by omega)
  rw [pow_cast, setN_or h] at h2
  exact h2
set_option maxRecDepth 100000 in
set_option maxHeartbeats 6400000 in
theorem bears8 (hv : okR r = true) (ht : truthsA r.nat ≠ []) {n : Nat} (hn : n < 130) {w0 w : World} (hB : Below w0.heap.size w0 w) (hX : Blk w b2 27 #[.int .i64 r.depth.lo, .int .i64 r.depth.hi, .int .i64 r.fall.lo, .int .i64 r.fall.hi, .int .i64 r.days, .slice fa fl fc, .slice la ll lc]) (hP : RvIn w w.heap.size fa fl la ll r)
    {UN UE LA LE : Int} (hU : Value.tuple #[.int .i64 UN, .int .i64 UE] = if untilP r.nat n = 0 then .tuple #[.int .i64 0, .int .i64 4] else .tuple #[.int .i64 ((untilP r.nat n - 1 : Nat) : Int), .int .i64 0])
    (hL : Value.tuple #[.int .i64 LA, .int .i64 LE] = if lastP r.nat n = 0 then .tuple #[.int .i64 0, .int .i64 4] else .tuple #[.int .i64 ((lastP r.nat n - 1 : Nat) : Int), .int .i64 0]) (c0 c1 c3 c4 c8 c16 c17 c18 c19 c20 c21 c22 c23 c24 c25 c26 c27 c28 c29 c30 c31 c32 c33 c34 c35 c36 c37 c38 c39 c40 c41 c42 c43 c44 c45 c46 c47 c48 c49 c50 c51 c52 c53 c54 c55 c56 c57 c58 c59 c60 c61 c62 c63 c64 c65 c66 c67 c68 c69 c70 c71 c72 c73 c74 c75 c76 c77 c78 c79 c80 c81 c82 c83 c84 c85 c86 c87 c88 c89 c90 c91 c92 c93 c94 c95 c96 c97 c98 c99 c100 c101 c102 c103 c104 c105 c106 c107 c108 c109 c110 c111 c112 c113 c114 c115 c116 c117 c118 c119 c120 c121 c122 c123 c124 c125 c126 c127 c128 c129 c130 c131 c132 c133 c134 c135 c136 c137 c138 c139 c140 c141 c142 c143 c144 c145 c146 c147 c148 c149 c150 c151 c152 c153 c154 c155 c156 c157 c158 c159 c160 c161 c162 c163 c164 c165 c166 c167 c168 c169 c170 c171 c172 c173 c174 c175 c176 c177 c178 c179 c180 c181 c182 c183 c184 c185 c186 c187 c188 c189 c190 c191 c192 c193 c194 c195 c196 c197 c198 c199 c200 c201 c202 c203 c204 c205 c206 c207 c208 c209 c210 c211 c212 c213 c214 c215 c216 c217 c218 c219 c220 c221 c222 c223 c224 c225 c226 c227 c228 c229 c230 c231 c232 c233 c234 c235 c236 c237 c238 c239 c240 c241 c242 c243 c244 c245 c246 c247 c248 c249 c250 c251 c252 c253 c254 c255 c256 c257 c258 c259 c260 c261 c262 c263 c264 c265 c266 c267 c268 c269 c270 c271 c272 c273 c274 c275 c276 c277 c278 c279 c280 c281 c282 c283 c284 : Value) :
    Code.wp Try.prog (bearsK 8) (bodyPost Try.prog Try.f8 (LawTrueP w0)) ⟨(c0 :: c1 :: (.pointer (some ⟨b2, 0, none⟩)) :: c3 :: c4 :: (.int .i64 n) :: (.int .i64 (surelyP r.nat n : Nat)) :: (.int .i64 (perhapsP r.nat n : Nat)) :: c8 :: (.int .i64 UN) :: (.int .i64 UE) :: (.int .i64 LA) :: (.int .i64 LE) :: (.int .i64 0) :: (.int .i64 0) :: (.int .i64 0) :: c16 :: c17 :: c18 :: c19 :: c20 :: c21 :: c22 :: c23 :: c24 :: c25 :: c26 :: c27 :: c28 :: c29 :: c30 :: c31 :: c32 :: c33 :: c34 :: c35 :: c36 :: c37 :: c38 :: c39 :: c40 :: c41 :: c42 :: c43 :: c44 :: c45 :: c46 :: c47 :: c48 :: c49 :: c50 :: c51 :: c52 :: c53 :: c54 :: c55 :: c56 :: c57 :: c58 :: c59 :: c60 :: c61 :: c62 :: c63 :: c64 :: c65 :: c66 :: c67 :: c68 :: c69 :: c70 :: c71 :: c72 :: c73 :: c74 :: c75 :: c76 :: c77 :: c78 :: c79 :: c80 :: c81 :: c82 :: c83 :: c84 :: c85 :: c86 :: c87 :: c88 :: c89 :: c90 :: c91 :: c92 :: c93 :: c94 :: c95 :: c96 :: c97 :: c98 :: c99 :: c100 :: c101 :: c102 :: c103 :: c104 :: c105 :: c106 :: c107 :: c108 :: c109 :: c110 :: c111 :: c112 :: c113 :: c114 :: c115 :: c116 :: c117 :: c118 :: c119 :: c120 :: c121 :: c122 :: c123 :: c124 :: c125 :: c126 :: c127 :: c128 :: c129 :: c130 :: c131 :: c132 :: c133 :: c134 :: c135 :: c136 :: c137 :: c138 :: c139 :: c140 :: c141 :: c142 :: c143 :: c144 :: c145 :: c146 :: c147 :: c148 :: c149 :: c150 :: c151 :: c152 :: c153 :: c154 :: c155 :: c156 :: c157 :: c158 :: c159 :: c160 :: c161 :: c162 :: c163 :: c164 :: c165 :: c166 :: c167 :: c168 :: c169 :: c170 :: c171 :: c172 :: c173 :: c174 :: c175 :: c176 :: c177 :: c178 :: c179 :: c180 :: c181 :: c182 :: c183 :: c184 :: c185 :: c186 :: c187 :: c188 :: c189 :: c190 :: c191 :: c192 :: c193 :: c194 :: c195 :: c196 :: c197 :: c198 :: c199 :: c200 :: c201 :: c202 :: c203 :: c204 :: c205 :: c206 :: c207 :: c208 :: c209 :: c210 :: c211 :: c212 :: c213 :: c214 :: c215 :: c216 :: c217 :: c218 :: c219 :: c220 :: c221 :: c222 :: c223 :: c224 :: c225 :: c226 :: c227 :: c228 :: c229 :: c230 :: c231 :: c232 :: c233 :: c234 :: c235 :: c236 :: c237 :: c238 :: c239 :: c240 :: c241 :: c242 :: c243 :: c244 :: c245 :: c246 :: c247 :: c248 :: c249 :: c250 :: c251 :: c252 :: c253 :: c254 :: c255 :: c256 :: c257 :: c258 :: c259 :: c260 :: c261 :: c262 :: c263 :: c264 :: c265 :: c266 :: c267 :: c268 :: c269 :: c270 :: c271 :: c272 :: c273 :: c274 :: c275 :: c276 :: c277 :: c278 :: c279 :: c280 :: c281 :: c282 :: c283 :: c284 :: []).toArray, []⟩ w := by
  conv => arg 2; whnf
  conv => arg 2; arg 2; change bearsK 9
  obtain ⟨D, hD⟩ : ∃ D, r.nat.days = D := ⟨_, rfl⟩
  obtain ⟨hd, hd1, hd2⟩ := days_nat hv
  rw [hD] at hd hd1 hd2
  have HD := Lib.hid hD
  have HX := Lib.hid hX
  have HP := Lib.hid hP
  have HB := Lib.hid hB
  have HV := Lib.hid hv
  have HT := Lib.hid ht
  have HU := Lib.hid hU
  have HL := Lib.hid hL
  obtain ⟨f, hf⟩ : ∃ f, f = loB r.nat n := ⟨_, rfl⟩
  obtain ⟨g, hg⟩ : ∃ g, g = hiB r.nat n := ⟨_, rfl⟩
  have HG : Hid (∀ (wr : World) (c0 c1 c3 c4 c8 c16 c17 c18 c19 c20 c21 c22 c23 c24 c25 c26 c27 c28 c29 c30 c31 c32 c33 c34 c35 c36 c37 c38 c39 c40 c41 c42 c43 c44 c45 c46 c47 c48 c49 c50 c51 c52 c53 c54 c55 c56 c57 c58 c59 c60 c61 c62 c63 c64 c65 c66 c67 c68 c69 c70 c71 c72 c73 c74 c75 c76 c77 c78 c79 c80 c81 c82 c83 c84 c85 c86 c87 c88 c89 c90 c91 c92 c93 c94 c95 c96 c97 c98 c99 c100 c101 c102 c103 c104 c105 c106 c107 c108 c109 c110 c111 c112 c113 c114 c115 c116 c117 c118 c119 c120 c121 c122 c123 c124 c125 c126 c127 c128 c129 c130 c131 c132 c133 c134 c135 c136 c137 c138 c139 c140 c141 c142 c143 c144 c145 c146 c147 c148 c149 c150 c151 c152 c153 c154 c155 c156 c157 c158 c159 c160 c161 c162 c163 c164 c165 c166 c167 c168 c169 c170 c171 c172 c173 c174 c175 c176 c177 c178 c179 c180 c181 c182 c183 c184 c185 c186 c187 c188 c189 c190 c191 c192 c193 c194 c195 c196 c197 c198 c199 c200 c201 c202 c203 c204 c205 c206 c207 c208 c209 c210 c211 c212 c213 c214 c215 c216 c217 c218 c219 c220 c221 c222 c223 c224 c225 c226 c227 c228 c229 c230 c231 c232 c233 c234 c235 c236 c237 c238 c239 c240 c241 c242 c243 c244 c245 c246 c247 c248 c249 c250 c251 c252 c253 c254 c255 c256 c257 c258 c259 c260 c261 c262 c263 c264 c265 c266 c267 c268 c269 c270 c271 c272 c273 c274 c275 c276 c277 c278 c279 c280 c281 c282 c283 c284 : Value), Below w.heap.size w wr → Code.wp Try.prog (bearsK 9) (bodyPost Try.prog Try.f8 (LawTrueP w0)) ⟨(c0 :: c1 :: (.pointer (some ⟨b2, 0, none⟩)) :: c3 :: c4 :: (.int .i64 n) :: (.int .i64 (surelyP r.nat n : Nat)) :: (.int .i64 (perhapsP r.nat n : Nat)) :: c8 :: (.int .i64 UN) :: (.int .i64 UE) :: (.int .i64 LA) :: (.int .i64 LE) :: (.int .i64 (setN f (D + 1) : Nat)) :: (.int .i64 (setN g (D + 1) : Nat)) :: (.int .i64 (runN f (D + 1) : Nat)) :: c16 :: c17 :: c18 :: c19 :: c20 :: c21 :: c22 :: c23 :: c24 :: c25 :: c26 :: c27 :: c28 :: c29 :: c30 :: c31 :: c32 :: c33 :: c34 :: c35 :: c36 :: c37 :: c38 :: c39 :: c40 :: c41 :: c42 :: c43 :: c44 :: c45 :: c46 :: c47 :: c48 :: c49 :: c50 :: c51 :: c52 :: c53 :: c54 :: c55 :: c56 :: c57 :: c58 :: c59 :: c60 :: c61 :: c62 :: c63 :: c64 :: c65 :: c66 :: c67 :: c68 :: c69 :: c70 :: c71 :: c72 :: c73 :: c74 :: c75 :: c76 :: c77 :: c78 :: c79 :: c80 :: c81 :: c82 :: c83 :: c84 :: c85 :: c86 :: c87 :: c88 :: c89 :: c90 :: c91 :: c92 :: c93 :: c94 :: c95 :: c96 :: c97 :: c98 :: c99 :: c100 :: c101 :: c102 :: c103 :: c104 :: c105 :: c106 :: c107 :: c108 :: c109 :: c110 :: c111 :: c112 :: c113 :: c114 :: c115 :: c116 :: c117 :: c118 :: c119 :: c120 :: c121 :: c122 :: c123 :: c124 :: c125 :: c126 :: c127 :: c128 :: c129 :: c130 :: c131 :: c132 :: c133 :: c134 :: c135 :: c136 :: c137 :: c138 :: c139 :: c140 :: c141 :: c142 :: c143 :: c144 :: c145 :: c146 :: c147 :: c148 :: c149 :: c150 :: c151 :: c152 :: c153 :: c154 :: c155 :: c156 :: c157 :: c158 :: c159 :: c160 :: c161 :: c162 :: c163 :: c164 :: c165 :: c166 :: c167 :: c168 :: c169 :: c170 :: c171 :: c172 :: c173 :: c174 :: c175 :: c176 :: c177 :: c178 :: c179 :: c180 :: c181 :: c182 :: c183 :: c184 :: c185 :: c186 :: c187 :: c188 :: c189 :: c190 :: c191 :: c192 :: c193 :: c194 :: c195 :: c196 :: c197 :: c198 :: c199 :: c200 :: c201 :: c202 :: c203 :: c204 :: c205 :: c206 :: c207 :: c208 :: c209 :: c210 :: c211 :: c212 :: c213 :: c214 :: c215 :: c216 :: c217 :: c218 :: c219 :: c220 :: c221 :: c222 :: c223 :: c224 :: c225 :: c226 :: c227 :: c228 :: c229 :: c230 :: c231 :: c232 :: c233 :: c234 :: c235 :: c236 :: c237 :: c238 :: c239 :: c240 :: c241 :: c242 :: c243 :: c244 :: c245 :: c246 :: c247 :: c248 :: c249 :: c250 :: c251 :: c252 :: c253 :: c254 :: c255 :: c256 :: c257 :: c258 :: c259 :: c260 :: c261 :: c262 :: c263 :: c264 :: c265 :: c266 :: c267 :: c268 :: c269 :: c270 :: c271 :: c272 :: c273 :: c274 :: c275 :: c276 :: c277 :: c278 :: c279 :: c280 :: c281 :: c282 :: c283 :: c284 :: []).toArray, []⟩ wr) := by
    intro wr c0 c1 c3 c4 c8 c16 c17 c18 c19 c20 c21 c22 c23 c24 c25 c26 c27 c28 c29 c30 c31 c32 c33 c34 c35 c36 c37 c38 c39 c40 c41 c42 c43 c44 c45 c46 c47 c48 c49 c50 c51 c52 c53 c54 c55 c56 c57 c58 c59 c60 c61 c62 c63 c64 c65 c66 c67 c68 c69 c70 c71 c72 c73 c74 c75 c76 c77 c78 c79 c80 c81 c82 c83 c84 c85 c86 c87 c88 c89 c90 c91 c92 c93 c94 c95 c96 c97 c98 c99 c100 c101 c102 c103 c104 c105 c106 c107 c108 c109 c110 c111 c112 c113 c114 c115 c116 c117 c118 c119 c120 c121 c122 c123 c124 c125 c126 c127 c128 c129 c130 c131 c132 c133 c134 c135 c136 c137 c138 c139 c140 c141 c142 c143 c144 c145 c146 c147 c148 c149 c150 c151 c152 c153 c154 c155 c156 c157 c158 c159 c160 c161 c162 c163 c164 c165 c166 c167 c168 c169 c170 c171 c172 c173 c174 c175 c176 c177 c178 c179 c180 c181 c182 c183 c184 c185 c186 c187 c188 c189 c190 c191 c192 c193 c194 c195 c196 c197 c198 c199 c200 c201 c202 c203 c204 c205 c206 c207 c208 c209 c210 c211 c212 c213 c214 c215 c216 c217 c218 c219 c220 c221 c222 c223 c224 c225 c226 c227 c228 c229 c230 c231 c232 c233 c234 c235 c236 c237 c238 c239 c240 c241 c242 c243 c244 c245 c246 c247 c248 c249 c250 c251 c252 c253 c254 c255 c256 c257 c258 c259 c260 c261 c262 c263 c264 c265 c266 c267 c268 c269 c270 c271 c272 c273 c274 c275 c276 c277 c278 c279 c280 c281 c282 c283 c284 hb
    rw [hf, hg, ← hD, ← surely_lo, ← perhaps_hi ht, ← until_lo]
    exact bears9 hv ht hn (HB.out.trans (hb.mono HB.out.size)) (HX.out.below hb HX.out.lt) (HP.out.grow hb) HU.out HL.out c0 c1 c3 c4 c8 c16 c17 c18 c19 c20 c21 c22 c23 c24 c25 c26 c27 c28 c29 c30 c31 c32 c33 c34 c35 c36 c37 c38 c39 c40 c41 c42 c43 c44 c45 c46 c47 c48 c49 c50 c51 c52 c53 c54 c55 c56 c57 c58 c59 c60 c61 c62 c63 c64 c65 c66 c67 c68 c69 c70 c71 c72 c73 c74 c75 c76 c77 c78 c79 c80 c81 c82 c83 c84 c85 c86 c87 c88 c89 c90 c91 c92 c93 c94 c95 c96 c97 c98 c99 c100 c101 c102 c103 c104 c105 c106 c107 c108 c109 c110 c111 c112 c113 c114 c115 c116 c117 c118 c119 c120 c121 c122 c123 c124 c125 c126 c127 c128 c129 c130 c131 c132 c133 c134 c135 c136 c137 c138 c139 c140 c141 c142 c143 c144 c145 c146 c147 c148 c149 c150 c151 c152 c153 c154 c155 c156 c157 c158 c159 c160 c161 c162 c163 c164 c165 c166 c167 c168 c169 c170 c171 c172 c173 c174 c175 c176 c177 c178 c179 c180 c181 c182 c183 c184 c185 c186 c187 c188 c189 c190 c191 c192 c193 c194 c195 c196 c197 c198 c199 c200 c201 c202 c203 c204 c205 c206 c207 c208 c209 c210 c211 c212 c213 c214 c215 c216 c217 c218 c219 c220 c221 c222 c223 c224 c225 c226 c227 c228 c229 c230 c231 c232 c233 c234 c235 c236 c237 c238 c239 c240 c241 c242 c243 c244 c245 c246 c247 c248 c249 c250 c251 c252 c253 c254 c255 c256 c257 c258 c259 c260 c261 c262 c263 c264 c265 c266 c267 c268 c269 c270 c271 c272 c273 c274 c275 c276 c277 c278 c279 c280 c281 c282 c283 c284
  have HFG : Hid (∀ d, f d = decide (n ≤ (depthP r.nat d).1) ∧ g d = decide (n ≤ (depthP r.nat d).2)) := fun d => by rw [hf, hg]; exact ⟨rfl, rfl⟩
  have hn2 : n ≤ 200 := by omega
  have x0 := HX.out.cell 0
  have x1 := HX.out.cell 1
  have x2 := HX.out.cell 2
  have x3 := HX.out.cell 3
  have x4 := HX.out.cell 4
  have x5 := HX.out.cell 5
  have x6 := HX.out.cell 6
  have xl := HX.out.lt
  simp at x0 x1 x2 x3 x4 x5 x6
  have w1 : IntKind.i64.wrap (r.days + 1) = ((D : Int) + 1) := by rw [hd]; exact IntWalk.i64_in _ (by omega)
  clear hX hP hB hv ht hU hL hf hg hD
  go_wp2
  clear w1 x0 x1 x2 x3 x4 x5 x6 xl hd
  go_loopw [13, 14, 15, 92] (fun a b c i wr => ∃ d : Nat, d ≤ D + 1 ∧ i = .int .i64 d ∧ a = .int .i64 (setN f d : Nat) ∧ b = .int .i64 (setN g d : Nat) ∧ c = .int .i64 (runN f d : Nat) ∧ Hid (Below w.heap.size w wr)) (fun _ _ _ i _ => D + 1 - (intOf i).toNat)
  case atStart => exact ⟨0, by omega, rfl, rfl, rfl, rfl, Below.refl _ _⟩
  case round =>
    obtain ⟨d, hdD, rfl, rfl, rfl, rfl, HBR⟩ := hrel
    by_cases hlt : d < D + 1
    · have HXR : Hid (Blk wr b2 27 #[.int .i64 r.depth.lo, .int .i64 r.depth.hi, .int .i64 r.fall.lo, .int .i64 r.fall.hi, .int .i64 r.days, .slice fa fl fc, .slice la ll lc]) := HX.out.below HBR.out HX.out.lt
      have HPR := Lib.hid (HP.out.grow HBR.out)
      have hdd : d ≤ r.nat.days := by rw [HD.out]; omega
      have HDP := Lib.hid (depth_fine HV.out HT.out hdd)
      have HBE := Lib.hid (bears_fine HV.out HT.out hn2 hdd)
      have hle := depthP_le HT.out d
      obtain ⟨lo, hlo⟩ : ∃ lo, (depthP r.nat d).1 = lo := ⟨_, rfl⟩
      obtain ⟨hi, hhi⟩ : ∃ hi, (depthP r.nat d).2 = hi := ⟨_, rfl⟩
      obtain ⟨be, hbe⟩ : ∃ be, bearsP r.nat n d = be := ⟨_, rfl⟩
      have hbx : be = if n ≤ lo then 2 else if n ≤ hi then 1 else 0 := by rw [← hbe, ← hlo, ← hhi]; rfl
      have hfg := HFG.out d
      rw [hlo, hhi] at HDP hle
      rw [hlo, hhi] at hfg
      rw [hbe] at HBE
      have hA1 := @setN_or' f d
      have hA2 := @setN_or' g d
      have hA3 : f d = false → setN f (d + 1) = setN f d := fun h => by rw [setN, h]; simp
      have hA4 : g d = false → setN g (d + 1) = setN g d := fun h => by rw [setN, h]; simp
      have hR1 : f d = true → runN f d = d → runN f (d + 1) = d + 1 := fun h h2 => by rw [runN, if_pos ⟨h2, h⟩]
      have hR2 : f d = true → runN f d ≠ d → runN f (d + 1) = runN f d := fun h h2 => by rw [runN, if_neg (fun h3 => h2 h3.1)]
      have hR3 : f d = false → runN f (d + 1) = runN f d := fun h => by rw [runN, if_neg (fun h3 => by rw [h] at h3; cases h3.2)]
      have hrl := runN_leq f d
      obtain ⟨A, hA⟩ : ∃ A, setN f d = A := ⟨_, rfl⟩
      obtain ⟨A', hA'⟩ : ∃ A', setN f (d + 1) = A' := ⟨_, rfl⟩
      obtain ⟨G, hG⟩ : ∃ G, setN g d = G := ⟨_, rfl⟩
      obtain ⟨G', hG'⟩ : ∃ G', setN g (d + 1) = G' := ⟨_, rfl⟩
      obtain ⟨Q, hQ⟩ : ∃ Q, runN f d = Q := ⟨_, rfl⟩
      obtain ⟨Q', hQ'⟩ : ∃ Q', runN f (d + 1) = Q' := ⟨_, rfl⟩
      have HA' := Lib.hid hA'
      have HG' := Lib.hid hG'
      have HQ' := Lib.hid hQ'
      rw [hA, hA'] at hA1 hA3
      rw [hG, hG'] at hA2 hA4
      rw [hQ] at hR1 hR2 hR3 hrl
      rw [hQ'] at hR1 hR2 hR3
      rw [hA, hG, hQ]
      have hw2 : IntKind.i64.wrap (2 ^ d) = 2 ^ d := wrap_day d (by omega)
      have hwq : IntKind.i64.wrap ((Q : Int) + 1) = (Q : Int) + 1 := IntWalk.i64_in _ (by omega)
      have hd64 : (d : Int) < 64 := by omega
      have HN : Hid (∀ wv, Below w.heap.size w wv → ∃ d' : Nat, d' ≤ D + 1 ∧ Value.int .i64 ((d : Int) + 1) = .int .i64 d' ∧ Value.int .i64 (A' : Nat) = .int .i64 (setN f d' : Nat) ∧ Value.int .i64 (G' : Nat) = .int .i64 (setN g d' : Nat) ∧ Value.int .i64 (Q' : Nat) = .int .i64 (runN f d' : Nat) ∧ Hid (Below w.heap.size w wv)) :=
        fun wv hb => ⟨d + 1, by omega, by go_num, by rw [HA'.out], by rw [HG'.out], by rw [HQ'.out], hb⟩
      clear hlo hhi hbe hA hA' hG hG' hQ hQ' hdd
      have HX := HXR
      have x0 := HX.out.cell 0
      have x1 := HX.out.cell 1
      have x2 := HX.out.cell 2
      have x3 := HX.out.cell 3
      have x4 := HX.out.cell 4
      have x5 := HX.out.cell 5
      have x6 := HX.out.cell 6
      have xl := HX.out.lt
      simp at x0 x1 x2 x3 x4 x5 x6
      go_wp2_with fail
      refine (PDepth_any (fa := fa) (fl := fl) (fc := fc) (la := la) (ll := ll) (lc := lc) (r := r) (w := wr) (d : Int) (by exact HPR.out)).mono ?_
      rw [HDP.out]
      rintro e v1 ⟨rfl, hb⟩
      obtain ⟨V1, hV1⟩ : ∃ V, V = v1.alloc (.cells #[.int .i64 lo, .int .i64 hi] 23) := ⟨_, rfl⟩
      have HB1 : Hid (Below wr.heap.size wr V1) := by rw [hV1]; exact hb.alloc hb.size _
      have HY : Hid (Blk V1 v1.heap.size 23 #[.int .i64 lo, .int .i64 hi]) := by rw [hV1]; exact Blk.new v1 23 _
      have HP1 := Lib.hid (HPR.out.grow HB1.out)
      have HX1 : Hid (Blk V1 b2 27 #[.int .i64 r.depth.lo, .int .i64 r.depth.hi, .int .i64 r.fall.lo, .int .i64 r.fall.hi, .int .i64 r.days, .slice fa fl fc, .slice la ll lc]) := HXR.out.below HB1.out HXR.out.lt
      clear hb x0 x1 x2 x3 x4 x5 x6 xl HX
      have HX := HX1
      have x0 := HX.out.cell 0
      have x1 := HX.out.cell 1
      have x2 := HX.out.cell 2
      have x3 := HX.out.cell 3
      have x4 := HX.out.cell 4
      have x5 := HX.out.cell 5
      have x6 := HX.out.cell 6
      have xl := HX.out.lt
      simp at x0 x1 x2 x3 x4 x5 x6
      go_upto_region 14 with (fail)
      rw [← hV1]
      clear hV1
      go_wp2_with fail
      refine (PBears_any (fa := fa) (fl := fl) (fc := fc) (la := la) (ll := ll) (lc := lc) (r := r) (w := V1) (n : Int) (d : Int) (by exact HP1.out)).mono ?_
      rw [HBE.out]
      rintro e v2 ⟨rfl, hb⟩
      have HY2 : Hid (Blk v2 v1.heap.size 23 #[.int .i64 lo, .int .i64 hi]) := HY.out.below hb HY.out.lt
      have HB2 : Hid (Below w.heap.size w v2) := HBR.out.trans ((HB1.out.trans (hb.mono HB1.out.size)).mono HBR.out.size)
      clear hb x0 x1 x2 x3 x4 x5 x6 xl HX
      have y0 := HY2.out.cell 0
      have y1 := HY2.out.cell 1
      have yl := HY2.out.lt
      simp at y0 y1
      have hN := HN.out v2 HB2.out
      by_cases c1 : n ≤ lo
      · have c2 : n ≤ hi := by omega
        rw [if_pos c1] at hbx
        subst hbx
        have f1 : f d = true := by rw [hfg.1]; exact decide_eq_true c1
        have g1 : g d = true := by rw [hfg.2]; exact decide_eq_true c2
        have o1 := hA1 f1 (by omega)
        have o2 := hA2 g1 (by omega)
        have c3 : ¬ (hi : Int) < (n : Int) := by omega
        have c4 : (n : Int) ≤ (lo : Int) := by omega
        have c5 : (n : Int) ≤ (hi : Int) := by omega
        by_cases hq : Q = d
        · subst hq
          have hq' := hR1 f1 rfl
          clear hA1 hA2 hA3 hA4 hR1 hR2 hR3 f1 g1 hfg
          go_wp2
          go_roundw
          case rel => obtain ⟨d', e1, e2, e3, e4, e5, e6⟩ := hN; exact ⟨d', e1, e2, e3, e4, by rw [← e5, hq']; go_num, e6⟩
          case measure => simp [intOf]; omega
        · have hq' := hR2 f1 hq
          have hqi : ((Q : Int) == (d : Int)) = false := by simp; omega
          clear hA1 hA2 hA3 hA4 hR1 hR2 hR3 f1 g1 hfg
          go_wp2
          go_roundw
          case rel => obtain ⟨d', e1, e2, e3, e4, e5, e6⟩ := hN; exact ⟨d', e1, e2, e3, e4, by rw [← e5, hq'], e6⟩
          case measure => simp [intOf]; omega
      · rw [if_neg c1] at hbx
        have f1 : f d = false := by rw [hfg.1]; exact decide_eq_false c1
        have c4 : ¬ (n : Int) ≤ (lo : Int) := by omega
        have a1 := hA3 f1
        have q1 := hR3 f1
        by_cases c2 : n ≤ hi
        · rw [if_pos c2] at hbx
          subst hbx
          have g1 : g d = true := by rw [hfg.2]; exact decide_eq_true c2
          have o2 := hA2 g1 (by omega)
          have c3 : ¬ (hi : Int) < (n : Int) := by omega
          have c5 : (n : Int) ≤ (hi : Int) := by omega
          clear hA1 hA2 hA3 hA4 hR1 hR2 hR3 f1 g1 hfg
          go_wp2
          go_roundw
          case rel => obtain ⟨d', e1, e2, e3, e4, e5, e6⟩ := hN; exact ⟨d', e1, e2, by rw [← e3, a1], e4, by rw [← e5, q1], e6⟩
          case measure => simp [intOf]; omega
        · rw [if_neg c2] at hbx
          subst hbx
          have g1 : g d = false := by rw [hfg.2]; exact decide_eq_false c2
          have b1 := hA4 g1
          have c3 : (hi : Int) < (n : Int) := by omega
          have c5 : ¬ (n : Int) ≤ (hi : Int) := by omega
          clear hA1 hA2 hA3 hA4 hR1 hR2 hR3 f1 g1 hfg
          go_wp2
          go_roundw
          case rel => obtain ⟨d', e1, e2, e3, e4, e5, e6⟩ := hN; exact ⟨d', e1, e2, by rw [← e3, a1], by rw [← e4, b1], by rw [← e5, q1], e6⟩
          case measure => simp [intOf]; omega
    · obtain rfl : d = D + 1 := by omega
      go_wp2
      exact HG.out wr _ _ _ _ _ _ _ _ _ _ _ _ _ _ _ _ _ _ _ _ _ _ _ _ _ _ _ _ _ _ _ _ _ _ _ _ _ _ _ _ _ _ _ _ _ _ _ _ _ _ _ _ _ _ _ _ _ _ _ _ _ _ _ _ _ _ _ _ _ _ _ _ _ _ _ _ _ _ _ _ _ _ _ _ _ _ _ _ _ _ _ _ _ _ _ _ _ _ _ _ _ _ _ _ _ _ _ _ _ _ _ _ _ _ _ _ _ _ _ _ _ _ _ _ _ _ _ _ _ _ _ _ _ _ _ _ _ _ _ _ _ _ _ _ _ _ _ _ _ _ _ _ _ _ _ _ _ _ _ _ _ _ _ _ _ _ _ _ _ _ _ _ _ _ _ _ _ _ _ _ _ _ _ _ _ _ _ _ _ _ _ _ _ _ _ _ _ _ _ _ _ _ _ _ _ _ _ _ _ _ _ _ _ _ _ _ _ _ _ _ _ _ _ _ _ _ _ _ _ _ _ _ _ _ _ _ _ _ _ _ _ _ _ _ _ _ _ _ _ _ _ _ _ _ _ _ _ _ _ _ _ _ _ _ _ _ _ _ _ _ _ _ _ _ HBR.out
end
end Go.Proofs.Ytiodmkokpfgkkaa
