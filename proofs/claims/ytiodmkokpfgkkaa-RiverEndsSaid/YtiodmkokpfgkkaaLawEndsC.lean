/- The law RiverEnds: a fresh of which the day is known. Conditions: what the frame holds. -/
import Derived.Test.YtiodmkokpfgkkaaLawEndsA
import Derived.Test.YtiodmkokpfgkkaaLawTrueC
import Derived.Test.YtiodmkokpfgkkaaAppC
namespace Go.Proofs.Ytiodmkokpfgkkaa
open Go.RowKit Go.Hav Go.Shelf Go.Sq
attribute [local go_sem] Oper.semAt_some
section
variable {fa la : Option Addr} {fl fc ll lc : Nat} {r : IRiv} {b3 b12 b14 : Nat}
theorem can_step {r : IRiv} {k : Nat} {f : IFr} {m : Nat} {G : Int} (hG : (G = 4 ∧ truthsA (dayR r k f (f.days.lo + m)).nat ≠ []) ∨ (G = 0 ∧ truthsA (dayR r k f (f.days.lo + m)).nat = [])) :
  (G = 4 ∧ canN r k f (m + 1) = canN r k f m ||| 2 ^ (f.days.lo.toNat + m)) ∨ (G = 0 ∧ canN r k f (m + 1) = canN r k f m) := by
 rcases hG with ⟨h1, h2⟩ | ⟨h1, h2⟩
 ·exact .inl ⟨h1, by rw [canN, if_neg h2]⟩
 ·exact .inr ⟨h1, by rw [canN, if_pos h2, Nat.or_zero]⟩
theorem can_lt {r : IRiv} {k : Nat} {f : IFr} {m : Nat} (h : f.days.lo.toNat + m ≤ 11) : canN r k f m < 2048 := Nat.lt_pow_two_of_testBit (n := 11) _ fun i hi => by
 cases e : (canN r k f m).testBit i
 ·rfl
 ·obtain ⟨j, h1, h2, -⟩ := (tb_canN k f i m).1 e
  omega
theorem wpList_append_run2 {P : Program} {ops : Array Oper} {rest : List Oper} {o : Oper} {a : Act} {Q : Exit → Act → World → Prop} {w w' : World} {v u v' : Value} (hgd : o.guard = none) (s x : Operand) (t : TypeId)
  (ho : o.op = .call { callee := .builtin .append, args := #[s, x], argTypes := #[t, t] }) (hs : a.eval s = v) (hx : a.eval x = u) (hr : (Builtin.append_ #[t, t] o.type #[v, u]).run P w = .ok v' w')
  (h : wpList P ops Q rest (a.put o.dst v') w') : wpList P ops Q (o :: rest) a w :=
 wpList_plain hgd fun _ hK => by
  unfold Oper.wp
  rw [append_oper ho hs hx hr]
  exact hK _ _ h
theorem own_cell2 {w : World} {B n c g e sz : Nat} {xs : List Value} (h : w.ownsRow B e sz (.slice (some ⟨g, 0, none⟩) n c) n xs) (j : Nat) (x : Value) (hx : xs[j]? = some x) : w.cell? ⟨g, j, none⟩ = some x := by
 have := h.cells (g := g) rfl j x hx
 unfold Addr.add at this
 split at this
 ·rename_i hz; subst hz; exact this
 ·simpa using this
theorem infoC55 : (Try.prog.info? 55).map (fun i => (i.zero, i.size, i.bytes)) = some (some (.agg #[.int .i64 0, .int .i64 0, .int .i64 0, .int .i64 0]), 4, 32) := by kernel_rfl
set_option maxRecDepth 100000 in
set_option maxHeartbeats 6400000 in
theorem ends15 (hok : okR r = true) (ht : truthsA r.nat ≠ []) {w0 w : World} (h3 : Blk w b3 27 #[.int .i64 r.depth.lo, .int .i64 r.depth.hi, .int .i64 r.fall.lo, .int .i64 r.fall.hi, .int .i64 r.days, .slice fa fl fc, .slice la ll lc]) (hP : RvIn w w.heap.size fa fl la ll r) (which d : Nat) (hwh : which ≤ 255)
  (K : ∀ w', Below w.heap.size w w' → ∀ (c0 c1 c2 c4 c5 c6 c7 c8 c9 c10 c13 c14 c15 c16 c17 c18 c19 c20 c21 c22 c23 c24 c25 c26 c27 c28 c29 c30 c31 c32 c33 c34 c35 c36 c37 c38 c39 c40 c41 c42 c43 c44 c45 c46 c47 c48 c49 c50 c51 c52 c53 c54 c55 c56 c57 c58 c59 c60 c61 c62 c63 c64 c65 c66 c67 c68 c69 c70 c71 c72 c73 c74 c75 c76 c77 c78 c79 c80 c81 c82 c83 c84 c85 c86 c87 c88 c89 c90 c91 c92 c93 c94 c95 c96 c97 c98 c99 c100 c101 c102 c103 c104 c105 c106 c107 c108 c109 c110 c111 c112 c113 c114 c115 c116 c117 c118 c119 c120 c121 c122 c123 c124 c125 c126 c127 c128 c129 c130 c131 c132 c133 c134 c135 c136 c137 c138 c139 c140 c141 c142 c143 c144 c145 c146 c147 c148 c149 c150 c151 c152 c153 c154 c155 c156 c157 c158 c159 c160 c161 c162 c163 c164 c165 c166 c167 c168 c169 c170 c171 c172 c173 c174 c175 c176 c177 c178 c179 c180 c181 c182 c183 c184 c185 c186 c187 c188 c189 c190 c191 c192 c193 c194 c195 c196 c197 c198 c199 c200 c201 c202 c203 c204 c205 c206 c207 c208 c209 c210 c211 c212 c213 c214 c215 c216 c217 c218 c219 c220 c221 c222 c223 c224 c225 c226 c227 c228 c229 c230 c231 c232 c233 c234 c235 c236 c237 c238 c239 c240 c241 c242 c243 c244 c245 c246 c247 c248 c249 c250 c251 c252 c253 c254 c255 c256 c257 c258 c259 c260 c261 c262 c263 c264 c265 c266 c267 c268 c269 c270 c271 c272 c273 c274 c275 c276 c277 c278 c279 c280 c281 c282 c283 c284 c285 c286 c287 c288 c289 c290 c291 c292 c293 c294 c295 c296 c297 c298 c299 c300 c301 c302 c303 c304 c305 c306 c307 c308 c309 c310 c311 c312 c313 c314 c315 c316 c317 c318 c319 c320 c321 c322 c323 c324 c325 c326 c327 c328 c329 c330 c331 c332 c333 c334 c335 c336 c337 c338 c339 c340 c341 c342 c343 c344 c345 c346 c347 c348 c349 c350 c351 c352 c353 c354 c355 c356 c357 c358 c359 : Value), Code.wp Try.prog (endsK 16) (bodyPost Try.prog Try.f7 (LawTrueT w0)) ⟨(c0::c1::c2::(.pointer (some ⟨b3, 0, none⟩))::c4::c5::c6::c7::c8::c9::c10::(.int .i64 d)::(.pointer (some ⟨b12, 0, none⟩))::c13::c14::c15::c16::c17::c18::c19::c20::c21::c22::c23::c24::c25::c26::c27::c28::c29::c30::c31::c32::c33::c34::c35::c36::c37::c38::c39::c40::c41::c42::c43::c44::c45::c46::c47::c48::c49::c50::c51::c52::c53::c54::c55::c56::c57::c58::c59::c60::c61::c62::c63::c64::c65::c66::c67::c68::c69::c70::c71::c72::c73::c74::c75::c76::c77::c78::c79::c80::c81::c82::c83::c84::c85::c86::c87::c88::c89::c90::c91::c92::c93::c94::c95::c96::c97::c98::c99::c100::c101::c102::c103::c104::c105::c106::c107::c108::c109::c110::c111::c112::c113::c114::c115::c116::c117::c118::c119::c120::c121::c122::c123::c124::c125::c126::c127::c128::c129::c130::c131::c132::c133::c134::c135::c136::c137::c138::c139::c140::c141::c142::c143::c144::c145::c146::c147::c148::c149::c150::c151::c152::c153::c154::c155::c156::c157::c158::c159::c160::c161::c162::c163::c164::c165::c166::c167::c168::c169::c170::c171::c172::c173::c174::c175::c176::c177::c178::c179::c180::c181::c182::c183::c184::c185::c186::c187::c188::c189::c190::c191::c192::c193::c194::c195::c196::c197::c198::c199::c200::c201::c202::c203::c204::c205::c206::c207::c208::c209::c210::c211::c212::c213::c214::c215::c216::c217::c218::c219::c220::c221::c222::c223::c224::c225::c226::c227::c228::c229::c230::c231::c232::c233::c234::c235::c236::c237::c238::c239::c240::c241::c242::c243::c244::c245::c246::c247::c248::c249::c250::c251::c252::c253::c254::c255::c256::c257::c258::c259::c260::c261::c262::c263::c264::c265::c266::c267::c268::c269::c270::c271::c272::c273::c274::c275::c276::c277::c278::c279::c280::c281::c282::c283::c284::c285::c286::c287::c288::c289::c290::c291::c292::c293::c294::c295::c296::c297::c298::c299::c300::c301::c302::c303::c304::c305::c306::c307::c308::c309::c310::c311::c312::c313::c314::c315::c316::c317::c318::c319::c320::c321::c322::c323::c324::c325::c326::c327::c328::c329::c330::c331::c332::c333::c334::c335::c336::c337::c338::c339::c340::c341::c342::c343::c344::c345::c346::c347::c348::c349::c350::c351::c352::c353::c354::c355::c356::c357::c358::c359::[]).toArray, []⟩ w') (c0 c1 c4 c5 c6 c7 c8 c9 c10 c13 c14 c15 c16 c17 c18 c19 c20 c21 c22 c23 c24 c25 c26 c27 c28 c29 c30 c31 c32 c33 c34 c35 c36 c37 c38 c39 c40 c41 c42 c43 c44 c45 c46 c47 c48 c49 c50 c51 c52 c53 c54 c55 c56 c57 c58 c59 c60 c61 c62 c63 c64 c65 c66 c67 c68 c69 c70 c71 c72 c73 c74 c75 c76 c77 c78 c79 c80 c81 c82 c83 c84 c85 c86 c87 c88 c89 c90 c91 c92 c93 c94 c95 c96 c97 c98 c99 c100 c101 c102 c103 c104 c105 c106 c107 c108 c109 c110 c111 c112 c113 c114 c115 c116 c117 c118 c119 c120 c121 c122 c123 c124 c125 c126 c127 c128 c129 c130 c131 c132 c133 c134 c135 c136 c137 c138 c139 c140 c141 c142 c143 c144 c145 c146 c147 c148 c149 c150 c151 c152 c153 c154 c155 c156 c157 c158 c159 c160 c161 c162 c163 c164 c165 c166 c167 c168 c169 c170 c171 c172 c173 c174 c175 c176 c177 c178 c179 c180 c181 c182 c183 c184 c185 c186 c187 c188 c189 c190 c191 c192 c193 c194 c195 c196 c197 c198 c199 c200 c201 c202 c203 c204 c205 c206 c207 c208 c209 c210 c211 c212 c213 c214 c215 c216 c217 c218 c219 c220 c221 c222 c223 c224 c225 c226 c227 c228 c229 c230 c231 c232 c233 c234 c235 c236 c237 c238 c239 c240 c241 c242 c243 c244 c245 c246 c247 c248 c249 c250 c251 c252 c253 c254 c255 c256 c257 c258 c259 c260 c261 c262 c263 c264 c265 c266 c267 c268 c269 c270 c271 c272 c273 c274 c275 c276 c277 c278 c279 c280 c281 c282 c283 c284 c285 c286 c287 c288 c289 c290 c291 c292 c293 c294 c295 c296 c297 c298 c299 c300 c301 c302 c303 c304 c305 c306 c307 c308 c309 c310 c311 c312 c313 c314 c315 c316 c317 c318 c319 c320 c321 c322 c323 c324 c325 c326 c327 c328 c329 c330 c331 c332 c333 c334 c335 c336 c337 c338 c339 c340 c341 c342 c343 c344 c345 c346 c347 c348 c349 c350 c351 c352 c353 c354 c355 c356 c357 c358 c359 : Value) :
  Code.wp Try.prog (endsK 15) (bodyPost Try.prog Try.f7 (LawTrueT w0)) ⟨(c0::c1::(.int .u8 which)::(.pointer (some ⟨b3, 0, none⟩))::c4::c5::c6::c7::c8::c9::c10::(.int .i64 d)::(.pointer (some ⟨b12, 0, none⟩))::c13::c14::c15::c16::c17::c18::c19::c20::c21::c22::c23::c24::c25::c26::c27::c28::c29::c30::c31::c32::c33::c34::c35::c36::c37::c38::c39::c40::c41::c42::c43::c44::c45::c46::c47::c48::c49::c50::c51::c52::c53::c54::c55::c56::c57::c58::c59::c60::c61::c62::c63::c64::c65::c66::c67::c68::c69::c70::c71::c72::c73::c74::c75::c76::c77::c78::c79::c80::c81::c82::c83::c84::c85::c86::c87::c88::c89::c90::c91::c92::c93::c94::c95::c96::c97::c98::c99::c100::c101::c102::c103::c104::c105::c106::c107::c108::c109::c110::c111::c112::c113::c114::c115::c116::c117::c118::c119::c120::c121::c122::c123::c124::c125::c126::c127::c128::c129::c130::c131::c132::c133::c134::c135::c136::c137::c138::c139::c140::c141::c142::c143::c144::c145::c146::c147::c148::c149::c150::c151::c152::c153::c154::c155::c156::c157::c158::c159::c160::c161::c162::c163::c164::c165::c166::c167::c168::c169::c170::c171::c172::c173::c174::c175::c176::c177::c178::c179::c180::c181::c182::c183::c184::c185::c186::c187::c188::c189::c190::c191::c192::c193::c194::c195::c196::c197::c198::c199::c200::c201::c202::c203::c204::c205::c206::c207::c208::c209::c210::c211::c212::c213::c214::c215::c216::c217::c218::c219::c220::c221::c222::c223::c224::c225::c226::c227::c228::c229::c230::c231::c232::c233::c234::c235::c236::c237::c238::c239::c240::c241::c242::c243::c244::c245::c246::c247::c248::c249::c250::c251::c252::c253::c254::c255::c256::c257::c258::c259::c260::c261::c262::c263::c264::c265::c266::c267::c268::c269::c270::c271::c272::c273::c274::c275::c276::c277::c278::c279::c280::c281::c282::c283::c284::c285::c286::c287::c288::c289::c290::c291::c292::c293::c294::c295::c296::c297::c298::c299::c300::c301::c302::c303::c304::c305::c306::c307::c308::c309::c310::c311::c312::c313::c314::c315::c316::c317::c318::c319::c320::c321::c322::c323::c324::c325::c326::c327::c328::c329::c330::c331::c332::c333::c334::c335::c336::c337::c338::c339::c340::c341::c342::c343::c344::c345::c346::c347::c348::c349::c350::c351::c352::c353::c354::c355::c356::c357::c358::c359::[]).toArray, []⟩ w := by
 have HK := Lib.hid K
 have H3 := Lib.hid h3
 have HP := Lib.hid hP
 have HOK := Lib.hid hok
 have HT := Lib.hid ht
 have HEF := Lib.hid hP.efl
 have hfl3 : fl ≤ 3 := by rw [← hP.efl]; exact (okR_pts hok).1.2.2.2.1
 conv => arg 2; whnf
 conv => arg 2; arg 2; change endsK 16
 have HX := H3
 have x0 := HX.out.cell 0
 have x1 := HX.out.cell 1
 have x2 := HX.out.cell 2
 have x3 := HX.out.cell 3
 have x4 := HX.out.cell 4
 have x5 := HX.out.cell 5
 have x6 := HX.out.cell 6
 have xl := HX.out.lt
 simp at x0 x1 x2 x3 x4 x5 x6
 clear K hok ht h3 hP
 by_cases h0 : fl = 0
 ·subst h0
  go_wp2
  exact HK.out w (Below.refl _ _) _ _ _ _ _ _ _ _ _ _ _ _ _ _ _ _ _ _ _ _ _ _ _ _ _ _ _ _ _ _ _ _ _ _ _ _ _ _ _ _ _ _ _ _ _ _ _ _ _ _ _ _ _ _ _ _ _ _ _ _ _ _ _ _ _ _ _ _ _ _ _ _ _ _ _ _ _ _ _ _ _ _ _ _ _ _ _ _ _ _ _ _ _ _ _ _ _ _ _ _ _ _ _ _ _ _ _ _ _ _ _ _ _ _ _ _ _ _ _ _ _ _ _ _ _ _ _ _ _ _ _ _ _ _ _ _ _ _ _ _ _ _ _ _ _ _ _ _ _ _ _ _ _ _ _ _ _ _ _ _ _ _ _ _ _ _ _ _ _ _ _ _ _ _ _ _ _ _ _ _ _ _ _ _ _ _ _ _ _ _ _ _ _ _ _ _ _ _ _ _ _ _ _ _ _ _ _ _ _ _ _ _ _ _ _ _ _ _ _ _ _ _ _ _ _ _ _ _ _ _ _ _ _ _ _ _ _ _ _ _ _ _ _ _ _ _ _ _ _ _ _ _ _ _ _ _ _ _ _ _ _ _ _ _ _ _ _ _ _ _ _ _ _ _ _ _ _ _ _ _ _ _ _ _ _ _ _ _ _ _ _ _ _ _ _ _ _ _ _ _ _ _ _ _ _ _ _ _ _ _ _ _ _ _ _ _ _ _ _ _ _ _ _ _ _ _ _ _ _ _ _ _ _ _ _ _ _ _ _ _ _ _ _ _ _ _ _ _ _ _ _ _ _ _ _ _ _
 ·have hpos : (0 : Int) < (fl : Int) := by omega
  obtain ⟨k, hk⟩ : ∃ k, k = which % fl := ⟨_, rfl⟩
  have hkl : k < fl := by rw [hk]; exact Nat.mod_lt _ (by omega)
  have tm : (which : Int).tmod (fl : Int) = (k : Int) := by rw [hk, Int.tmod_eq_emod_of_nonneg (by omega)]; omega
  obtain ⟨f, hf⟩ : ∃ f, r.fr[k]? = some f := ⟨_, List.getElem?_eq_getElem (by rw [HEF.out]; exact hkl)⟩
  have HF := Lib.hid hf
  have HFF := Lib.hid (fresh_fine HOK.out HT.out (show k < r.fr.length by rw [HEF.out]; exact hkl))
  have hki : (k : Int) < (fl : Int) := by omega
  clear hk hf
  have hsp : 0 ≤ f.days.lo ∧ f.days.lo ≤ f.days.hi ∧ f.days.hi ≤ 10 := by
   obtain ⟨⟨-, -, h3, -, -⟩, h6, -⟩ := okR_pts HOK.out
   have h := List.all_eq_true.1 h6 f (List.mem_of_getElem? HF.out)
   unfold frB at h
   rw [Bool.and_eq_true] at h
   obtain ⟨a1, a2, a3, a4⟩ := spB_iff.1 h.1
   have := inB_iff.1 h3
   omega
  obtain ⟨⟨dl, dh⟩, rs⟩ := f
  obtain ⟨hs0, hs1, hs2⟩ : 0 ≤ dl ∧ dl ≤ dh ∧ dh ≤ 10 := hsp
  obtain ⟨L, rfl⟩ : ∃ L : Nat, dl = L := ⟨dl.toNat, by omega⟩
  obtain ⟨U, rfl⟩ : ∃ U : Nat, dh = U := ⟨dh.toNat, by omega⟩
  have hLU : L ≤ U := by omega
  have hU : U ≤ 10 := by omega
  obtain ⟨F, hF⟩ : ∃ F, freshP r.nat k = F := ⟨_, rfl⟩
  have hF2 := fresh_can HOK.out HF.out
  rw [hF, show ((⟨⟨(L : Int), (U : Int)⟩, rs⟩ : IFr).days.hi - (⟨⟨(L : Int), (U : Int)⟩, rs⟩ : IFr).days.lo + 1).toNat = U + 1 - L by show ((U : Int) - L + 1).toNat = _; omega] at hF2
  have hF0 : ¬ F = 0 := by rw [← hF]; exact fresh_pos HT.out
  rw [hF] at HFF
  clear hF
  have HFC := Lib.hid hF2
  clear hF2 hs0 hs1 hs2
  go_wp2_with fail
  refine (PFresh_any (fa := fa) (fl := fl) (fc := fc) (la := la) (ll := ll) (lc := lc) (r := r) (w := w) (k : Int) (by exact HP.out)).mono ?_
  rw [HFF.out]
  rintro e w1 ⟨rfl, hb⟩
  have HB1 := Lib.hid hb
  have HX1 : Hid (Blk w1 b3 27 #[.int .i64 r.depth.lo, .int .i64 r.depth.hi, .int .i64 r.fall.lo, .int .i64 r.fall.hi, .int .i64 r.days, .slice fa fl fc, .slice la ll lc]) := H3.out.below hb H3.out.lt
  have HP1 := Lib.hid (HP.out.grow hb)
  clear hb x0 x1 x2 x3 x4 x5 x6 xl HX HFF
  have HX := HX1
  have x0 := HX.out.cell 0
  have x1 := HX.out.cell 1
  have x2 := HX.out.cell 2
  have x3 := HX.out.cell 3
  have x4 := HX.out.cell 4
  have x5 := HX.out.cell 5
  have x6 := HX.out.cell 6
  have xl := HX.out.lt
  simp at x0 x1 x2 x3 x4 x5 x6
  obtain ⟨pb, po, rfl, hpb, q0, q1, q2, q3⟩ := rd_frI HP1.out.hfr k _ HF.out
  obtain ⟨i0, hi0', hz0, hz1, hz2⟩ := info_parts infoC55
  have HI := Lib.hid hi0'
  have HI0 := Lib.hid hz0
  have HI1 := Lib.hid hz1
  have HI2 := Lib.hid hz2
  have HDV : Hid (∀ n : Nat, L ≤ n → n ≤ U → okR (dayR r k ⟨⟨(L : Int), (U : Int)⟩, rs⟩ (n : Int)) = true) := fun n a b => day_ok HOK.out HF.out (by show (L : Int) ≤ n; omega) (by show (n : Int) ≤ U; omega)
  clear hi0' hz0 hz1 hz2
  go_wp2
  clear q0 q1 q2 q3 x0 x1 x2 x3 x4 x5 x6 xl HX
  go_loopw [36, 37] (fun a i wr => ∃ n : Nat, L ≤ n ∧ n ≤ U + 1 ∧ a = .int .i64 (canN r k ⟨⟨(L : Int), (U : Int)⟩, rs⟩ (n - L) : Nat) ∧ i = .int .i64 n ∧ Hid (Below w1.heap.size w1 wr)) (fun _ i _ => U + 1 - (intOf i).toNat)
  case atStart => exact ⟨L, Nat.le_refl _, by omega, by rw [Nat.sub_self]; rfl, rfl, Below.refl _ _⟩
  case round =>
   obtain ⟨n, hn0, hn1, rfl, rfl, HBR⟩ := hrel
   have HX : Hid (Blk wr b3 27 #[.int .i64 r.depth.lo, .int .i64 r.depth.hi, .int .i64 r.fall.lo, .int .i64 r.fall.hi, .int .i64 r.days, .slice (some ⟨pb, po, none⟩) fl fc, .slice la ll lc]) := HX1.out.below HBR.out HX1.out.lt
   have x0 := HX.out.cell 0
   have x1 := HX.out.cell 1
   have x2 := HX.out.cell 2
   have x3 := HX.out.cell 3
   have x4 := HX.out.cell 4
   have x5 := HX.out.cell 5
   have x6 := HX.out.cell 6
   have xl := HX.out.lt
   simp at x0 x1 x2 x3 x4 x5 x6
   have HPR := Lib.hid (HP1.out.grow HBR.out)
   obtain ⟨pb', po', epb, hpb', q0, q1, q2, q3⟩ := rd_frI HPR.out.hfr k _ HF.out
   cases epb
   by_cases hlt : n ≤ U
   ·have hlt' : (n : Int) ≤ (U : Int) := by omega
    have HOD := Lib.hid (HDV.out n hn0 hlt)
    obtain ⟨cv, G, hV, hG⟩ := clash_vals HOD.out
    have HV := Lib.hid hV
    have hcs : (G = 4 ∧ canN r k ⟨⟨(L : Int), (U : Int)⟩, rs⟩ (n - L + 1) = canN r k ⟨⟨(L : Int), (U : Int)⟩, rs⟩ (n - L) ||| 2 ^ n) ∨ (G = 0 ∧ canN r k ⟨⟨(L : Int), (U : Int)⟩, rs⟩ (n - L + 1) = canN r k ⟨⟨(L : Int), (U : Int)⟩, rs⟩ (n - L)) := by
     have e : (L : Int) + ((n - L : Nat) : Int) = (n : Int) := by omega
     have h := can_step (r := r) (k := k) (f := ⟨⟨(L : Int), (U : Int)⟩, rs⟩) (m := n - L) (G := G) (by show (G = 4 ∧ truthsA (dayR r k _ ((L : Int) + ((n - L : Nat) : Int))).nat ≠ []) ∨ (G = 0 ∧ truthsA (dayR r k _ ((L : Int) + ((n - L : Nat) : Int))).nat = []); rw [e]; exact hG)
     have e2 : L + (n - L) = n := by omega
     rw [show (⟨⟨(L : Int), (U : Int)⟩, rs⟩ : IFr).days.lo.toNat + (n - L) = n from e2] at h
     exact h
    have hcl : canN r k ⟨⟨(L : Int), (U : Int)⟩, rs⟩ (n - L) < 2048 := can_lt (by show L + (n - L) ≤ 11; omega)
    have hsub : n + 1 - L = n - L + 1 := by omega
    have HCS := Lib.hid hcs
    clear hV hG hcs
    obtain ⟨C, hC⟩ : ∃ C, C = canN r k ⟨⟨(L : Int), (U : Int)⟩, rs⟩ (n - L) := ⟨_, rfl⟩
    rw [← hC] at hcl HCS ⊢
    have HBIT := Lib.hid (or_day C n hcl (by omega))
    clear hC hcl
    obtain ⟨W1, hW1⟩ : ∃ W, W = wr.alloc (.cells #[.int .i64 r.depth.lo, .int .i64 r.depth.hi, .int .i64 r.fall.lo, .int .i64 r.fall.hi, .int .i64 r.days, .slice (some ⟨pb, po, none⟩) fl fc, .slice la ll lc] 27) := ⟨_, rfl⟩
    obtain ⟨b38, hb38⟩ : ∃ g, g = wr.heap.size := ⟨_, rfl⟩
    have HY1 : Hid (Blk W1 b38 27 #[.int .i64 r.depth.lo, .int .i64 r.depth.hi, .int .i64 r.fall.lo, .int .i64 r.fall.hi, .int .i64 r.days, .slice (some ⟨pb, po, none⟩) fl fc, .slice la ll lc]) := by rw [hW1, hb38]; exact Blk.new wr 27 _
    have HBA : Hid (Below wr.heap.size wr W1) := by rw [hW1]; exact (Below.refl _ _).alloc (Nat.le_refl _) _
    have hb38' : wr.heap.size ≤ b38 := by rw [hb38]; exact Nat.le_refl _
    go_upto_region 36 with (fail)
    rw [← hW1, ← hb38]
    clear hW1 hb38 x0 x1 x2 x3 x4 x5 x6 xl HX q0 q1 q2 q3
    obtain ⟨W2, hW2⟩ : ∃ W, W = W1.alloc (.cells #[] 55) := ⟨_, rfl⟩
    have HB2 : Hid (Below wr.heap.size wr W2) := by rw [hW2]; exact HBA.out.trans (((Below.refl _ _).alloc (Nat.le_refl _) _).mono HBA.out.size)
    have HY2 : Hid (Blk W2 b38 27 #[.int .i64 r.depth.lo, .int .i64 r.depth.hi, .int .i64 r.fall.lo, .int .i64 r.fall.hi, .int .i64 r.days, .slice (some ⟨pb, po, none⟩) fl fc, .slice la ll lc]) := by rw [hW2]; exact HY1.out.alloc _
    have hown0 : W2.ownsRow W1.heap.size 55 4 (.slice (some ⟨W1.heap.size, 0, none⟩) 0 0) 0 [] := by rw [hW2]; exact ownsRow_empty rfl 55 4
    have hs12 : W1.heap.size ≤ W2.heap.size := by rw [hW2]; simp
    have HX2 : Hid (Blk W2 b3 27 #[.int .i64 r.depth.lo, .int .i64 r.depth.hi, .int .i64 r.fall.lo, .int .i64 r.fall.hi, .int .i64 r.days, .slice (some ⟨pb, po, none⟩) fl fc, .slice la ll lc]) := (HX1.out.below HBR.out HX1.out.lt).below HB2.out (HX1.out.below HBR.out HX1.out.lt).lt
    obtain ⟨v', w3, hrun, ⟨g', c', rfl, hnew⟩, hown, hbc⟩ := append_copy (P := Try.prog) (α := IFr) (f := frI) (n := fl) (c := fc) (A := some ⟨pb, po, none⟩) (l := r.fr) 24 24 55 i0 _ 4 32 Try.underlying24 HI.out HI0.out HI1.out HI2.out rfl (by decide) frI_len HEF.out (HPR.out.grow HB2.out).hfr (by omega) (by omega) hs12 hown0
    have HRUN := Lib.hid hrun
    have HOW := Lib.hid hown
    have HY3 := Lib.hid (HY2.out.below hbc HY2.out.lt)
    have HB3 : Hid (Below wr.heap.size wr w3) := HB2.out.trans (hbc.mono HB2.out.size)
    have hgW : wr.heap.size ≤ W1.heap.size := HBA.out.size
    clear hrun hown hbc hnew hown0 hs12
    subst hW2
    have HX := HX2
    have x0 := HX.out.cell 0
    have x1 := HX.out.cell 1
    have x2 := HX.out.cell 2
    have x3 := HX.out.cell 3
    have x4 := HX.out.cell 4
    have x5 := HX.out.cell 5
    have x6 := HX.out.cell 6
    have xl := HX.out.lt
    simp at x0 x1 x2 x3 x4 x5 x6
    have f5 := HY3.out.frozen 5
    have z5 := HY3.out.cell 5
    have zl := HY3.out.lt
    simp at z5
    go_wp2_with (at_builtin; refine wpList_append_run2 rfl _ _ 24 rfl rfl rfl HRUN.out ?_)
    clear HRUN x0 x1 x2 x3 x4 x5 x6 xl HX f5 z5 zl HY1 HBA HY2 HB2 HX2
    obtain ⟨W4, hW4⟩ : ∃ W, W = w3.setCell ⟨b38, 5, none⟩ (.slice (some ⟨g', 0, none⟩) fl c') := ⟨_, rfl⟩
    have hset : Turn (fun x => x = b38) w3 W4 := by rw [hW4]; exact Turn.set (S := fun x => x = b38) ⟨b38, 5, none⟩ _ (fun _ => rfl)
    have HY4 : Hid (Blk W4 b38 27 #[.int .i64 r.depth.lo, .int .i64 r.depth.hi, .int .i64 r.fall.lo, .int .i64 r.fall.hi, .int .i64 r.days, .slice (some ⟨g', 0, none⟩) fl c', .slice la ll lc]) := by rw [hW4]; exact HY3.out.set_ 5 _
    have HO4 : Hid (W4.ownsRow W1.heap.size 55 4 (.slice (some ⟨g', 0, none⟩) fl c') fl (r.fr.flatMap frI)) := own_turn HOW.out hset (fun q e => by cases e; exact blk_ne (own_blk HOW.out).choose_spec.1 HY3.out (by decide))
    have HB4 : Hid (Below wr.heap.size wr W4) := HB3.out.trans (hset.below HB3.out.size (fun b e => by rw [e]; exact hb38'))
    rw [← hW4]
    clear hset hW4 HY3 HOW HB3
    have z5 := HY4.out.cell 5
    have zl := HY4.out.lt
    simp at z5
    refine wp_region_havoc [(0,false),(1,false),(2,false),(3,false),(4,false),(5,false),(6,false),(7,false)] [8] (fun _ _ => False) (by kernel_rfl) (by kernel_rfl) (fun _ _ _ _ h => h.elim) ?_
    iterate 5 (apply hav_same (by simp only [List.getElem?_toArray]; rfl) (by kernel_rfl); (focus (intro wv hgv _; have hcv : ∀ b o, b < _ → wv.cell? ⟨b, o, none⟩ = _ := fun b o hb => Below.cell hgv (p := ⟨b, o, none⟩) hb; (try go_simp); try rfl; done)); simp only [Act.put, List.setIfInBounds_toArray, List.set_cons_succ, List.set_cons_zero])
    (apply hav_call (by simp only [List.getElem?_toArray]; rfl) (by kernel_rfl); (focus (intro wv; go_simp; try exact ⟨rfl, rfl⟩; done)); (focus (intro wv hgv _; exact lspan_any _ _ wv; done)); simp only [Act.put, List.setIfInBounds_toArray, List.set_cons_succ, List.set_cons_zero])
    iterate 2 (apply hav_same (by simp only [List.getElem?_toArray]; rfl) (by kernel_rfl); (focus (intro wv hgv _; have hcv : ∀ b o, b < _ → wv.cell? ⟨b, o, none⟩ = _ := fun b o hb => Below.cell hgv (p := ⟨b, o, none⟩) hb; (try go_simp); try rfl; done)); simp only [Act.put, List.setIfInBounds_toArray, List.set_cons_succ, List.set_cons_zero])
    refine hav_end (fun X hgX hF => ?_); simp only [List.filterMap]; have hcX : ∀ b o, b < _ → X.cell? ⟨b, o, none⟩ = _ := fun b o hb => Below.cell hgX (p := ⟨b, o, none⟩) hb; have hfX : ∀ b o, b < _ → X.frozen? ⟨b, o, none⟩ = _ := fun b o hb => Below.frozen hgX (p := ⟨b, o, none⟩) hb; have hzX := Below.size hgX; (try simp at hzX)
    have HBX : Hid (Below wr.heap.size wr X) := HB4.out.trans (Below.mono hgX HB4.out.size)
    have HYX : Hid (Blk X b38 27 #[.int .i64 r.depth.lo, .int .i64 r.depth.hi, .int .i64 r.fall.lo, .int .i64 r.fall.hi, .int .i64 r.days, .slice (some ⟨g', 0, none⟩) fl c', .slice la ll lc]) := HY4.out.below hgX HY4.out.lt
    have HOX : Hid (X.ownsRow W1.heap.size 55 4 (.slice (some ⟨g', 0, none⟩) fl c') fl (r.fr.flatMap frI)) := own_below HO4.out hgX
    clear hF hcX hfX hzX hgX z5 zl
    obtain ⟨cur, hcur, hgg, -⟩ := own_blk HOX.out
    have y0 := hcur.frozen (k * 4)
    have y1 := hcur.frozen (k * 4 + 1)
    have yl := hcur.lt
    have yc0 : X.cell? ⟨g', k * 4, none⟩ = some (.int .i64 L) := own_cell2 HOX.out (k * 4 + 0) _ (by rw [flat_get frI 4 frI_len _ _ _ (by omega), HF.out]; rfl)
    have yc1 : X.cell? ⟨g', k * 4 + 1, none⟩ = some (.int .i64 U) := own_cell2 HOX.out (k * 4 + 1) _ (by rw [flat_get frI 4 frI_len _ _ _ (by omega), HF.out]; rfl)
    have hYg : b38 ≠ g' := blk_ne HYX.out hcur (by decide)
    have HCU := Lib.hid hcur
    clear hcur
    go_upto_region 38 with (fail)
    obtain ⟨w5, hw5⟩ : ∃ x, x = (X.setCell ⟨g', k * 4, none⟩ (.int .i64 (n : Nat))).setCell ⟨g', k * 4 + 1, none⟩ (.int .i64 (n : Nat)) := ⟨_, rfl⟩
    have t5 : Turn (fun x => x = g') X w5 := by rw [hw5]; exact (Turn.set (S := fun x => x = g') ⟨g', k * 4, none⟩ _ (fun _ => rfl)).trans (Turn.set (S := fun x => x = g') ⟨g', k * 4 + 1, none⟩ _ (fun _ => rfl))
    have o5 : w5.ownsRow W1.heap.size 55 4 (.slice (some ⟨g', 0, none⟩) fl c') fl ((r.fr.set k ⟨⟨(n : Int), (n : Int)⟩, rs⟩).flatMap frI) := by
     rw [hw5]
     have h1 := own_set (own_set HOX.out (k * 4 + 0) (.int .i64 (n : Nat))) (k * 4 + 1) (.int .i64 (n : Nat))
     rw [flat_set frI_len (i := 0) (x := ⟨⟨(L : Int), (U : Int)⟩, rs⟩) (x' := ⟨⟨(n : Int), (U : Int)⟩, rs⟩) (by omega) HF.out rfl] at h1
     rw [flat_set frI_len (i := 1) (x := ⟨⟨(n : Int), (U : Int)⟩, rs⟩) (x' := ⟨⟨(n : Int), (n : Int)⟩, rs⟩) (by omega) (by rw [List.getElem?_set_self (by rw [HEF.out]; exact hkl)]) rfl, List.set_set] at h1
     exact h1
    have HY5 : Hid (Blk w5 b38 27 #[.int .i64 r.depth.lo, .int .i64 r.depth.hi, .int .i64 r.fall.lo, .int .i64 r.fall.hi, .int .i64 r.days, .slice (some ⟨g', 0, none⟩) fl c', .slice la ll lc]) := HYX.out.turn t5 hYg
    have HB5 : Hid (Below wr.heap.size wr w5) := HBX.out.trans (t5.below HBX.out.size (fun b e => by rw [e]; omega))
    have hP5 := HPR.out.grow HB5.out
    have HP5 : Hid (RvIn w5 w5.heap.size (some ⟨g', 0, none⟩) fl la ll (dayR r k ⟨⟨(L : Int), (U : Int)⟩, rs⟩ (n : Int))) := ⟨by show (r.fr.set k _).length = fl; rw [List.length_set]; exact HEF.out, hP5.ell, RdG.of_own frI_len (by decide) o5 (Nat.le_refl _) rfl, hP5.hlk, hP5.mfl, hP5.mll⟩
    rw [← hw5]
    clear hw5 t5 o5 hP5 y0 y1 yl yc0 yc1 HCU HYX HOX HBX
    have HX := HY5
    have x0 := HX.out.cell 0
    have x1 := HX.out.cell 1
    have x2 := HX.out.cell 2
    have x3 := HX.out.cell 3
    have x4 := HX.out.cell 4
    have x5 := HX.out.cell 5
    have x6 := HX.out.cell 6
    have xl := HX.out.lt
    simp at x0 x1 x2 x3 x4 x5 x6
    go_wp2_with fail
    refine (PClash_any (fa := some ⟨g', 0, none⟩) (fl := fl) (fc := c') (la := la) (ll := ll) (lc := lc) (r := dayR r k ⟨⟨(L : Int), (U : Int)⟩, rs⟩ (n : Int)) (w := w5) (by exact HP5.out)).mono ?_
    rw [HV.out]
    rintro e w6 ⟨rfl, hb⟩
    have HB6 : Hid (Below w1.heap.size w1 w6) := HBR.out.trans ((HB5.out.trans (hb.mono HB5.out.size)).mono HBR.out.size)
    clear hb x0 x1 x2 x3 x4 x5 x6 xl HX
    have HX : Hid (Blk w6 b3 27 #[.int .i64 r.depth.lo, .int .i64 r.depth.hi, .int .i64 r.fall.lo, .int .i64 r.fall.hi, .int .i64 r.days, .slice (some ⟨pb, po, none⟩) fl fc, .slice la ll lc]) := HX1.out.below HB6.out HX1.out.lt
    have x0 := HX.out.cell 0
    have x1 := HX.out.cell 1
    have x2 := HX.out.cell 2
    have x3 := HX.out.cell 3
    have x4 := HX.out.cell 4
    have x5 := HX.out.cell 5
    have x6 := HX.out.cell 6
    have xl := HX.out.lt
    simp at x0 x1 x2 x3 x4 x5 x6
    have hbit := HBIT.out
    have hn64 : (n : Int) < 64 := by omega
    have h2k : 2 ^ n ≤ 1024 := Nat.pow_le_pow_right (n := 2) (by omega) (show n ≤ 10 by omega)
    have h2p : 1 ≤ 2 ^ n := Nat.two_pow_pos n
    have hw2 : IntKind.i64.wrap (2 ^ n) = 2 ^ n := IntWalk.i64_in _ (by have := pow_cast n; omega)
    rcases HCS.out with ⟨rfl, he⟩ | ⟨rfl, he⟩
    ·go_wp2
     go_roundw
     case rel => exact ⟨n + 1, by omega, by omega, by rw [hsub, he], by go_num, HB6⟩
     case measure => simp [intOf]; omega
    ·go_wp2
     go_roundw
     case rel => exact ⟨n + 1, by omega, by omega, by rw [hsub, he], by go_num, HB6⟩
     case measure => simp [intOf]; omega
   ·obtain rfl : n = U + 1 := by omega
    have hno : ¬ ((U : Int) + 1 ≤ U) := by omega
    have hFe : canN r k ⟨⟨(L : Int), (U : Int)⟩, rs⟩ (U + 1 - L) = F := HFC.out.symm
    rw [hFe]
    have hF1 : ((F : Int) == 0) = false := beq_eq_false_iff_ne.2 (by omega)
    have HBF : Hid (Below w.heap.size w wr) := HB1.out.trans (HBR.out.mono HB1.out.size)
    go_wp2
    exact HK.out wr HBF.out _ _ _ _ _ _ _ _ _ _ _ _ _ _ _ _ _ _ _ _ _ _ _ _ _ _ _ _ _ _ _ _ _ _ _ _ _ _ _ _ _ _ _ _ _ _ _ _ _ _ _ _ _ _ _ _ _ _ _ _ _ _ _ _ _ _ _ _ _ _ _ _ _ _ _ _ _ _ _ _ _ _ _ _ _ _ _ _ _ _ _ _ _ _ _ _ _ _ _ _ _ _ _ _ _ _ _ _ _ _ _ _ _ _ _ _ _ _ _ _ _ _ _ _ _ _ _ _ _ _ _ _ _ _ _ _ _ _ _ _ _ _ _ _ _ _ _ _ _ _ _ _ _ _ _ _ _ _ _ _ _ _ _ _ _ _ _ _ _ _ _ _ _ _ _ _ _ _ _ _ _ _ _ _ _ _ _ _ _ _ _ _ _ _ _ _ _ _ _ _ _ _ _ _ _ _ _ _ _ _ _ _ _ _ _ _ _ _ _ _ _ _ _ _ _ _ _ _ _ _ _ _ _ _ _ _ _ _ _ _ _ _ _ _ _ _ _ _ _ _ _ _ _ _ _ _ _ _ _ _ _ _ _ _ _ _ _ _ _ _ _ _ _ _ _ _ _ _ _ _ _ _ _ _ _ _ _ _ _ _ _ _ _ _ _ _ _ _ _ _ _ _ _ _ _ _ _ _ _ _ _ _ _ _ _ _ _ _ _ _ _ _ _ _ _ _ _ _ _ _ _ _ _ _ _ _ _ _ _ _ _ _ _ _ _ _ _ _ _ _ _ _ _ _ _ _ _
end
end Go.Proofs.Ytiodmkokpfgkkaa
