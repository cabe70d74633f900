/- The law RiverEnds: the four depths next to the ends. Conditions: what the frame holds. -/
import Derived.Test.YtiodmkokpfgkkaaLawEndsA
import Derived.Test.YtiodmkokpfgkkaaLawWith
namespace Go.Proofs.Ytiodmkokpfgkkaa
open Go.RowKit Go.Hav Go.Shelf Go.Sq
attribute [local go_sem] Oper.semAt_some
theorem inside_no (v lo hi : Int) (h : ¬ (lo ≤ v ∧ v ≤ hi)) (w : World) : Calls Try.prog 38 #[.int .i64 v, .agg #[.int .i64 lo, .int .i64 hi]] w fun e w' => e = .returned (.bool false) ∧ Below w.heap.size w w' := by
 obtain ⟨W, hW⟩ : ∃ W, W = w.alloc (.cells #[.int .i64 lo, .int .i64 hi] 23) := ⟨_, rfl⟩
 have HX : Hid (Blk W w.heap.size 23 #[.int .i64 lo, .int .i64 hi]) := by rw [hW]; exact Blk.new w 23 _
 have HB : Hid (Below w.heap.size w W) := by rw [hW]; exact (Below.refl _ _).alloc (Nat.le_refl _) _
 go_enter Try.func38, Try.ntmps38
 go_upto_region 1 with (fail)
 rw [← hW]
 clear hW
 have x0 := HX.out.cell 0
 have x1 := HX.out.cell 1
 have xl := HX.out.lt
 simp at x0 x1
 by_cases h1 : lo ≤ v
 ·have h2 : ¬ v ≤ hi := fun h2 => h ⟨h1, h2⟩
  clear h
  go_wp2
  go_ret
  exact ⟨rfl, HB.out⟩
 ·clear h
  go_wp2
  go_ret
  exact ⟨rfl, HB.out⟩
def e49T (BW : Nat) (fa : Option Addr) (fl fc : Nat) (la : Option Addr) (ll lc : Nat) (r : IRiv) (d n lo hi : Nat) (E : Int) (i : Nat) (V : Nat → Value) (w : World) : Prop :=
 match i with
 | 0 => V 0 = .agg #[.int .i64 r.depth.lo, .int .i64 r.depth.hi, .int .i64 r.fall.lo, .int .i64 r.fall.hi, .int .i64 r.days, .slice fa fl fc, .slice la ll lc]
 | 1 => V 1 = .int .i64 d
 | 2 => V 2 = .int .i64 n
 | 3 => V 3 = .int .i64 n
 | 4 => V 4 = (.agg #[.int .i64 d, .int .i64 n, .int .i64 n])
 | 5 => ∃ g cp, V 5 = .agg #[.int .i64 r.depth.lo, .int .i64 r.depth.hi, .int .i64 r.fall.lo, .int .i64 r.fall.hi, .int .i64 r.days, .slice fa fl fc, .slice (some ⟨g, 0, none⟩) (ll + 1) cp] ∧ w.ownsRow BW 58 3 (.slice (some ⟨g, 0, none⟩) (ll + 1) cp) (ll + 1) ((withR r (lookN d n)).lk.flatMap lkI)
 | 6 => V 6 = .int .i64 d
 | 7 => V 7 = (.tuple #[.agg #[.int .i64 lo, .int .i64 hi], .int .i64 E])
 | 8 => V 8 = (.tuple #[.agg #[.int .i64 lo, .int .i64 hi], .int .i64 E])
 | 9 => V 9 = .agg #[.int .i64 lo, .int .i64 hi]
 | 10 => V 10 = .int .i64 E
 | 11 => ∃ g, V 11 = .pointer (some ⟨g, 0, none⟩) ∧ BW ≤ g ∧ ∃ x y, Blk w g 23 #[x, y]
 | 12 => ∃ g, V 11 = .pointer (some ⟨g, 0, none⟩) ∧ BW ≤ g ∧ Blk w g 23 #[.int .i64 lo, .int .i64 hi]
 | 13 => V 13 = .int .i64 E
 | _ => True
def e49S (b3 : Nat) (fa : Option Addr) (fl fc : Nat) (la : Option Addr) (ll lc : Nat) (r : IRiv) (i : Nat) (w : World) : Prop :=
 match i with
 | 0 => Blk w b3 27 #[.int .i64 r.depth.lo, .int .i64 r.depth.hi, .int .i64 r.fall.lo, .int .i64 r.fall.hi, .int .i64 r.days, .slice fa fl fc, .slice la ll lc]
 | _ => True
section
variable {BW b3 fl fc ll lc i d n lo hi g : Nat} {E : Int} {fa la : Option Addr} {r : IRiv} {V : Nat → Value} {w w' : World}
theorem e49_grow (h : e49T BW fa fl fc la ll lc r d n lo hi E i V w) (hb : Below w.heap.size w w') : e49T BW fa fl fc la ll lc r d n lo hi E i V w' := by
 unfold e49T at h ⊢
 split at h
 case h_6 => obtain ⟨g, c, e, h⟩ := h; exact ⟨g, c, e, own_below h hb⟩
 case h_12 => obtain ⟨g, e, h0, x, y, h⟩ := h; exact ⟨g, e, h0, x, y, h.below hb h.lt⟩
 case h_13 => obtain ⟨g, e, h0, h⟩ := h; exact ⟨g, e, h0, h.below hb h.lt⟩
 all_goals exact h
theorem e49_set {cs : Array Value} {o : Nat} {u : Value} (h : e49T BW fa fl fc la ll lc r d n lo hi E i V w) (hg : Blk w g 23 cs) (hi12 : i ≠ 12) : e49T BW fa fl fc la ll lc r d n lo hi E i V (w.setCell ⟨g, o, none⟩ u) := by
 have ht : Turn (fun b => b = g) w (w.setCell ⟨g, o, none⟩ u) := Turn.set (S := fun b => b = g) ⟨g, o, none⟩ u (fun _ => rfl)
 unfold e49T at h ⊢
 split at h
 case h_6 => obtain ⟨g', c, e, h⟩ := h; exact ⟨g', c, e, own_turn h ht (fun q hq e' => by cases hq; exact blk_ne (own_blk h).choose_spec.1 hg (by decide) e')⟩
 case h_12 =>
  obtain ⟨g', e, h0, x, y, h⟩ := h
  refine ⟨g', e, h0, ?_⟩
  by_cases hq : g' = g
  ·subst hq
   rcases o with _ | _ | o
   ·exact ⟨u, y, h.set_ 0 u⟩
   ·exact ⟨x, u, h.set_ 1 u⟩
   ·exact ⟨x, y, h.set_ (o + 2) u⟩
  ·exact ⟨x, y, h.turn ht hq⟩
 case h_13 => exact absurd rfl hi12
 all_goals exact h
theorem e49S_zero (h : Blk w b3 27 #[.int .i64 r.depth.lo, .int .i64 r.depth.hi, .int .i64 r.fall.lo, .int .i64 r.fall.hi, .int .i64 r.days, .slice fa fl fc, .slice la ll lc]) (i : Nat) : e49S b3 fa fl fc la ll lc r i w := by
 unfold e49S
 split
 ·exact h
 ·trivial
theorem e49S_grow (h : e49S b3 fa fl fc la ll lc r i w) (hb : Below w.heap.size w w') : e49S b3 fa fl fc la ll lc r i w' := by
 unfold e49S at h ⊢
 split at h
 ·exact h.below hb h.lt
 ·trivial
theorem e49S_set {o : Nat} {u : Value} (h : e49S b3 fa fl fc la ll lc r i w) (hn : b3 ≠ g) : e49S b3 fa fl fc la ll lc r i (w.setCell ⟨g, o, none⟩ u) := by
 unfold e49S at h ⊢
 split at h
 ·exact h.far hn u
 ·trivial
end
section
variable {fa la : Option Addr} {fl fc ll lc : Nat} {r : IRiv} {b3 b12 b14 : Nat}
set_option maxRecDepth 100000 in
set_option maxHeartbeats 6400000 in
theorem ends17 (hok : okR r = true) (ht : truthsA r.nat ≠ []) {d : Nat} (hd : d ≤ r.nat.days) (h5 : ll < 5) {w0 w : World} (hB : Below w0.heap.size w0 w) (h3 : Blk w b3 27 #[.int .i64 r.depth.lo, .int .i64 r.depth.hi, .int .i64 r.fall.lo, .int .i64 r.fall.hi, .int .i64 r.days, .slice fa fl fc, .slice la ll lc]) (hP : RvIn w w.heap.size fa fl la ll r) (h12 : Blk w b12 23 #[.int .i64 ((depthP r.nat d).1 : Nat), .int .i64 ((depthP r.nat d).2 : Nat)]) (c0 c1 c2 c4 c5 c6 c7 c8 c9 c10 c13 c14 c15 c16 c17 c18 c19 c20 c21 c22 c23 c24 c25 c26 c27 c28 c29 c30 c31 c32 c33 c34 c35 c36 c37 c38 c39 c40 c41 c42 c43 c44 c45 c46 c47 c48 c49 c50 c51 c52 c53 c54 c55 c56 c57 c58 c59 c60 c61 c62 c63 c64 c65 c66 c67 c68 c69 c70 c71 c72 c73 c74 c75 c76 c77 c78 c79 c80 c81 c82 c83 c84 c85 c86 c87 c88 c89 c90 c91 c92 c93 c94 c95 c96 c97 c98 c99 c100 c101 c102 c103 c104 c105 c106 c107 c108 c109 c110 c111 c112 c113 c114 c115 c116 c117 c118 c119 c120 c121 c122 c123 c124 c125 c126 c127 c128 c129 c130 c131 c132 c133 c134 c135 c136 c137 c138 c139 c140 c141 c142 c143 c144 c145 c146 c147 c148 c149 c150 c151 c152 c153 c154 c155 c156 c157 c158 c159 c160 c161 c162 c163 c164 c165 c166 c167 c168 c169 c170 c171 c172 c173 c174 c175 c176 c177 c178 c179 c180 c181 c182 c183 c184 c185 c186 c187 c188 c189 c190 c191 c192 c193 c194 c195 c196 c197 c198 c199 c200 c201 c202 c203 c204 c205 c206 c207 c208 c209 c210 c211 c212 c213 c214 c215 c216 c217 c218 c219 c220 c221 c222 c223 c224 c225 c226 c227 c228 c229 c230 c231 c232 c233 c234 c235 c236 c237 c238 c239 c240 c241 c242 c243 c244 c245 c246 c247 c248 c249 c250 c251 c252 c253 c254 c255 c256 c257 c258 c259 c260 c261 c262 c263 c264 c265 c266 c267 c268 c269 c270 c271 c272 c273 c274 c275 c276 c277 c278 c279 c280 c281 c282 c283 c284 c285 c286 c287 c288 c289 c290 c291 c292 c293 c294 c295 c296 c297 c298 c299 c300 c301 c302 c303 c304 c305 c306 c307 c308 c309 c310 c311 c312 c313 c314 c315 c316 c317 c318 c319 c320 c321 c322 c323 c324 c325 c326 c327 c328 c329 c330 c331 c332 c333 c334 c335 c336 c337 c338 c339 c340 c341 c342 c343 c344 c345 c346 c347 c348 c349 c350 c351 c352 c353 c354 c355 c356 c357 c358 c359 : Value) :
  Code.wp Try.prog (endsK 17) (bodyPost Try.prog Try.f7 (LawTrueT w0)) ⟨(c0::c1::c2::(.pointer (some ⟨b3, 0, none⟩))::c4::c5::c6::c7::c8::c9::c10::(.int .i64 d)::(.pointer (some ⟨b12, 0, none⟩))::c13::c14::c15::c16::c17::c18::c19::c20::c21::c22::c23::c24::c25::c26::c27::c28::c29::c30::c31::c32::c33::c34::c35::c36::c37::c38::c39::c40::c41::c42::c43::c44::c45::c46::c47::c48::c49::c50::c51::c52::c53::c54::c55::c56::c57::c58::c59::c60::c61::c62::c63::c64::c65::c66::c67::c68::c69::c70::c71::c72::c73::c74::c75::c76::c77::c78::c79::c80::c81::c82::c83::c84::c85::c86::c87::c88::c89::c90::c91::c92::c93::c94::c95::c96::c97::c98::c99::c100::c101::c102::c103::c104::c105::c106::c107::c108::c109::c110::c111::c112::c113::c114::c115::c116::c117::c118::c119::c120::c121::c122::c123::c124::c125::c126::c127::c128::c129::c130::c131::c132::c133::c134::c135::c136::c137::c138::c139::c140::c141::c142::c143::c144::c145::c146::c147::c148::c149::c150::c151::c152::c153::c154::c155::c156::c157::c158::c159::c160::c161::c162::c163::c164::c165::c166::c167::c168::c169::c170::c171::c172::c173::c174::c175::c176::c177::c178::c179::c180::c181::c182::c183::c184::c185::c186::c187::c188::c189::c190::c191::c192::c193::c194::c195::c196::c197::c198::c199::c200::c201::c202::c203::c204::c205::c206::c207::c208::c209::c210::c211::c212::c213::c214::c215::c216::c217::c218::c219::c220::c221::c222::c223::c224::c225::c226::c227::c228::c229::c230::c231::c232::c233::c234::c235::c236::c237::c238::c239::c240::c241::c242::c243::c244::c245::c246::c247::c248::c249::c250::c251::c252::c253::c254::c255::c256::c257::c258::c259::c260::c261::c262::c263::c264::c265::c266::c267::c268::c269::c270::c271::c272::c273::c274::c275::c276::c277::c278::c279::c280::c281::c282::c283::c284::c285::c286::c287::c288::c289::c290::c291::c292::c293::c294::c295::c296::c297::c298::c299::c300::c301::c302::c303::c304::c305::c306::c307::c308::c309::c310::c311::c312::c313::c314::c315::c316::c317::c318::c319::c320::c321::c322::c323::c324::c325::c326::c327::c328::c329::c330::c331::c332::c333::c334::c335::c336::c337::c338::c339::c340::c341::c342::c343::c344::c345::c346::c347::c348::c349::c350::c351::c352::c353::c354::c355::c356::c357::c358::c359::[]).toArray, []⟩ w := by
 have HK : Hid (∀ w', Below w.heap.size w w' → ∀ (c0 c1 c2 c3 c4 c5 c6 c7 c8 c9 c10 c11 c12 c13 c14 c15 c16 c17 c18 c19 c20 c21 c22 c23 c24 c25 c26 c27 c28 c29 c30 c31 c32 c33 c34 c35 c36 c37 c38 c39 c40 c41 c42 c43 c44 c45 c46 c47 c48 c49 c50 c51 c52 c53 c54 c55 c56 c57 c58 c59 c60 c61 c62 c63 c64 c65 c66 c67 c68 c69 c70 c71 c72 c73 c74 c75 c76 c77 c78 c79 c80 c81 c82 c83 c84 c85 c86 c87 c88 c89 c90 c91 c92 c93 c94 c95 c96 c97 c98 c99 c100 c101 c102 c103 c104 c105 c106 c107 c108 c109 c110 c111 c112 c113 c114 c115 c116 c117 c118 c119 c120 c121 c122 c123 c124 c125 c126 c127 c128 c129 c130 c131 c132 c133 c134 c135 c136 c137 c138 c139 c140 c141 c142 c143 c144 c145 c146 c147 c148 c149 c150 c151 c152 c153 c154 c155 c156 c157 c158 c159 c160 c161 c162 c163 c164 c165 c166 c167 c168 c169 c170 c171 c172 c173 c174 c175 c176 c177 c178 c179 c180 c181 c182 c183 c184 c185 c186 c187 c188 c189 c190 c191 c192 c193 c194 c195 c196 c197 c198 c199 c200 c201 c202 c203 c204 c205 c206 c207 c208 c209 c210 c211 c212 c213 c214 c215 c216 c217 c218 c219 c220 c221 c222 c223 c224 c225 c226 c227 c228 c229 c230 c231 c232 c233 c234 c235 c236 c237 c238 c239 c240 c241 c242 c243 c244 c245 c246 c247 c248 c249 c250 c251 c252 c253 c254 c255 c256 c257 c258 c259 c260 c261 c262 c263 c264 c265 c266 c267 c268 c269 c270 c271 c272 c273 c274 c275 c276 c277 c278 c279 c280 c281 c282 c283 c284 c285 c286 c287 c288 c289 c290 c291 c292 c293 c294 c295 c296 c297 c298 c299 c300 c301 c302 c303 c304 c305 c306 c307 c308 c309 c310 c311 c312 c313 c314 c315 c316 c317 c318 c319 c320 c321 c322 c323 c324 c325 c326 c327 c328 c329 c330 c331 c332 c333 c334 c335 c336 c337 c338 c339 c340 c341 c342 c343 c344 c345 c346 c347 c348 c349 c350 c351 c352 c353 c354 c355 c356 c357 c358 c359 : Value), Code.wp Try.prog (endsK 18) (bodyPost Try.prog Try.f7 (LawTrueT w0)) ⟨(c0::c1::c2::c3::c4::c5::c6::c7::c8::c9::c10::c11::c12::c13::c14::c15::c16::c17::c18::c19::c20::c21::c22::c23::c24::c25::c26::c27::c28::c29::c30::c31::c32::c33::c34::c35::c36::c37::c38::c39::c40::c41::c42::c43::c44::c45::c46::c47::c48::c49::c50::c51::c52::c53::c54::c55::c56::c57::c58::c59::c60::c61::c62::c63::c64::c65::c66::c67::c68::c69::c70::c71::c72::c73::c74::c75::c76::c77::c78::c79::c80::c81::c82::c83::c84::c85::c86::c87::c88::c89::c90::c91::c92::c93::c94::c95::c96::c97::c98::c99::c100::c101::c102::c103::c104::c105::c106::c107::c108::c109::c110::c111::c112::c113::c114::c115::c116::c117::c118::c119::c120::c121::c122::c123::c124::c125::c126::c127::c128::c129::c130::c131::c132::c133::c134::c135::c136::c137::c138::c139::c140::c141::c142::c143::c144::c145::c146::c147::c148::c149::c150::c151::c152::c153::c154::c155::c156::c157::c158::c159::c160::c161::c162::c163::c164::c165::c166::c167::c168::c169::c170::c171::c172::c173::c174::c175::c176::c177::c178::c179::c180::c181::c182::c183::c184::c185::c186::c187::c188::c189::c190::c191::c192::c193::c194::c195::c196::c197::c198::c199::c200::c201::c202::c203::c204::c205::c206::c207::c208::c209::c210::c211::c212::c213::c214::c215::c216::c217::c218::c219::c220::c221::c222::c223::c224::c225::c226::c227::c228::c229::c230::c231::c232::c233::c234::c235::c236::c237::c238::c239::c240::c241::c242::c243::c244::c245::c246::c247::c248::c249::c250::c251::c252::c253::c254::c255::c256::c257::c258::c259::c260::c261::c262::c263::c264::c265::c266::c267::c268::c269::c270::c271::c272::c273::c274::c275::c276::c277::c278::c279::c280::c281::c282::c283::c284::c285::c286::c287::c288::c289::c290::c291::c292::c293::c294::c295::c296::c297::c298::c299::c300::c301::c302::c303::c304::c305::c306::c307::c308::c309::c310::c311::c312::c313::c314::c315::c316::c317::c318::c319::c320::c321::c322::c323::c324::c325::c326::c327::c328::c329::c330::c331::c332::c333::c334::c335::c336::c337::c338::c339::c340::c341::c342::c343::c344::c345::c346::c347::c348::c349::c350::c351::c352::c353::c354::c355::c356::c357::c358::c359::[]).toArray, []⟩ w') := fun w' hb => ends18 (hB.trans (hb.mono hB.size))
 have HOK := Lib.hid hok
 have h5' : r.lk.length < 5 := by rw [hP.ell]; exact h5
 have HOV : Hid (∀ n : Nat, _ → _) := fun n he => own_vals hok ht (d := d) (n := n) h5' hd he
 have hle := depth_le120 hok ht d
 obtain ⟨lo0, hlo⟩ : ∃ x, (depthP r.nat d).1 = x := ⟨_, rfl⟩
 obtain ⟨hi0, hhi⟩ : ∃ x, (depthP r.nat d).2 = x := ⟨_, rfl⟩
 rw [hlo, hhi] at h12 HOV hle
 obtain ⟨hle1, hle2⟩ := hle
 have H3 := Lib.hid h3
 have H12 := Lib.hid h12
 have HP0 := Lib.hid hP
 obtain ⟨W, hW⟩ : ∃ W, W = w.alloc (.cells #[.int .i64 ((lo0 : Int) - 1), .int .i64 lo0, .int .i64 hi0, .int .i64 ((hi0 : Int) + 1)] 3) := ⟨_, rfl⟩
 obtain ⟨bs, hbs⟩ : ∃ g, g = w.heap.size := ⟨_, rfl⟩
 have HS : Hid (Blk W bs 3 #[.int .i64 ((lo0 : Int) - 1), .int .i64 lo0, .int .i64 hi0, .int .i64 ((hi0 : Int) + 1)]) := by rw [hW, hbs]; exact Blk.new w 3 _
 have HB1 : Hid (Below w.heap.size w W) := by rw [hW]; exact (Below.refl _ _).alloc (Nat.le_refl _) _
 have HM : Hid (∀ k, k < 4 → ∃ m : Int, (#[Value.int .i64 ((lo0 : Int) - 1), .int .i64 lo0, .int .i64 hi0, .int .i64 ((hi0 : Int) + 1)] : Array Value)[k]? = some (.int .i64 m) ∧ (m < 0 ∨ ∃ n : Nat, m = n ∧ n ≤ 121 ∧ (n + 1 = lo0 ∨ n = lo0 ∨ n = hi0 ∨ n = hi0 + 1))) := fun k hk => by
  obtain rfl | rfl | rfl | rfl : k = 0 ∨ k = 1 ∨ k = 2 ∨ k = 3 := by omega
  ·refine ⟨_, rfl, ?_⟩
   by_cases h : lo0 = 0
   ·left; omega
   ·right; exact ⟨lo0 - 1, by omega, by omega, by omega⟩
  ·exact ⟨_, rfl, .inr ⟨lo0, rfl, by omega, by omega⟩⟩
  ·exact ⟨_, rfl, .inr ⟨hi0, rfl, by omega, by omega⟩⟩
  ·exact ⟨_, rfl, .inr ⟨hi0 + 1, by omega, by omega, by omega⟩⟩
 conv => arg 2; whnf
 conv => arg 2; arg 2; change endsK 18
 have y0 := H12.out.cell 0
 have y1 := H12.out.cell 1
 have yl := H12.out.lt
 simp at y0 y1
 clear hok ht h3 hP h12 hlo hhi h5' hd hB
 go_upto_region 46 with (fail)
 rw [← hW, ← hbs]
 clear hW hbs y0 y1 yl
 go_loopw [316] (fun i wr => ∃ k : Nat, k ≤ 4 ∧ i = .int .i64 k ∧ Hid (Below W.heap.size W wr)) (fun i _ => 4 - (intOf i).toNat)
 case atStart => exact ⟨0, by omega, rfl, Below.refl _ _⟩
 case round =>
  obtain ⟨k, hk, rfl, HBR⟩ := hrel
  have HSR : Hid (Blk wr bs 3 #[.int .i64 ((lo0 : Int) - 1), .int .i64 lo0, .int .i64 hi0, .int .i64 ((hi0 : Int) + 1)]) := HS.out.below HBR.out HS.out.lt
  have HBW : Hid (Below w.heap.size w wr) := HB1.out.trans (HBR.out.mono HB1.out.size)
  by_cases hlt : k < 4
  ·obtain ⟨m, hm, hmm⟩ := HM.out k hlt
   have hcell := HSR.out.cell k
   rw [hm] at hcell
   have hki : (k : Int) < 4 := by omega
   have hsl := HSR.out.lt
   rcases hmm with hneg | ⟨n, rfl, hn121, hnn⟩
   ·go_wp2
    go_roundw
    case rel => exact ⟨k + 1, by omega, by go_num, HBR⟩
    case measure => simp [intOf]; omega
   ·have hpos : ¬ ((n : Int) < 0) := by omega
    obtain ⟨oa, ob, E, hV, hE⟩ := HOV.out n hnn
    have HV := Lib.hid hV
    have HE := Lib.hid hE
    have HX : Hid (Blk wr b3 27 #[.int .i64 r.depth.lo, .int .i64 r.depth.hi, .int .i64 r.fall.lo, .int .i64 r.fall.hi, .int .i64 r.days, .slice fa fl fc, .slice la ll lc]) := H3.out.below HBW.out H3.out.lt
    have HP := Lib.hid (HP0.out.grow HBW.out)
    have HL3 : Hid (b3 < wr.heap.size) := HX.out.lt
    have HY : Hid (Blk wr b12 23 #[.int .i64 lo0, .int .i64 hi0]) := H12.out.below HBW.out H12.out.lt
    have hBW := HBW.out.size
    clear hV hE hm
    go_upto_region 49 with (fail)
    refine HavG.wp_region_tabY (R := (TP (ι := Empty) (fun b => wr.heap.size ≤ b) (fun i _ => i.elim) (fun i => i.elim))) (fun i V wx => e49T wr.heap.size fa fl fc la ll lc r d n oa ob E i V wx) (fun i wx => e49S b3 fa fl fc la ll lc r i wx) (fun _ _ _ => True) (fun _ _ => False) [] [some 323, some 324, some 325, some 326, some 327, some 328, some 329, some 330, some 322, some 331, some 332, some 43, none, some 44] (by kernel_rfl) (by kernel_rfl) (by rfl) (fun i _ => e49S_grow (e49S_zero HX.out i) (Below.drew (Below.refl _ _))) trivial (fun _ _ h => h.elim) (fun _ _ _ _ h => h.elim) (fun h => h.1.size) ?_ (fun i hi => by cases hi) ?_ ?_
    ·intro i hi V V' w h hV
     match i, hi, h, hV with
     | 0, _, h, hV => exact (hV _ (.inl rfl)).symm.trans h
     | 1, _, h, hV => exact (hV _ (.inl rfl)).symm.trans h
     | 2, _, h, hV => exact (hV _ (.inl rfl)).symm.trans h
     | 3, _, h, hV => exact (hV _ (.inl rfl)).symm.trans h
     | 4, _, h, hV => exact (hV _ (.inl rfl)).symm.trans h
     | 5, _, h, hV => (obtain ⟨g, c, e, h⟩ := h; exact ⟨g, c, (hV 5 (.inl rfl)).symm.trans e, h⟩)
     | 6, _, h, hV => exact (hV _ (.inl rfl)).symm.trans h
     | 7, _, h, hV => exact (hV _ (.inl rfl)).symm.trans h
     | 8, _, h, hV => exact (hV _ (.inl rfl)).symm.trans h
     | 9, _, h, hV => exact (hV _ (.inl rfl)).symm.trans h
     | 10, _, h, hV => exact (hV _ (.inl rfl)).symm.trans h
     | 11, _, h, hV => (obtain ⟨g, e, h⟩ := h; exact ⟨g, (hV 11 (.inl rfl)).symm.trans e, h⟩)
     | 12, _, h, hV => (obtain ⟨g, e, h⟩ := h; exact ⟨g, (hV 11 (.inr (by kernel_rfl))).symm.trans e, h⟩)
     | 13, _, h, hV => exact (hV _ (.inl rfl)).symm.trans h
     | j + 14, hj, _, _ => exact absurd hj (by simp)
    ·intro i hi oo a' w' ho hag hg hd hps hsl rem him hnd hj
     match i, hi, ho, hd, hps, hsl, him with
     | 0, _, ho, hd, hps, hsl, him =>
      (simp only [List.getElem?_toArray, List.getElem?_cons_zero, Option.some.injEq] at ho; subst ho)
      have s3 : a'.tmps[3]?.getD undef = (.pointer (some ⟨b3, 0, none⟩)) := by rw [← Array.getD_eq_getD_getElem?]; exact hag.slot 3 (by kernel_rfl)
      have r3 : a'.tmps.getD 3 undef = (.pointer (some ⟨b3, 0, none⟩)) := hag.slot 3 (by kernel_rfl)
      have hps' : Blk w' b3 27 #[.int .i64 r.depth.lo, .int .i64 r.depth.hi, .int .i64 r.fall.lo, .int .i64 r.fall.hi, .int .i64 r.days, .slice fa fl fc, .slice la ll lc] := hps
      have z0 := hps'.cell 0
      have z1 := hps'.cell 1
      have z2 := hps'.cell 2
      have z3 := hps'.cell 3
      have z4 := hps'.cell 4
      have z5 := hps'.cell 5
      have z6 := hps'.cell 6
      have zl := hps'.lt
      simp at z0 z1 z2 z3 z4 z5 z6
      clear hps hps'
      refine HavG.tabY_val rfl (by simp) ⟨.agg #[.int .i64 r.depth.lo, .int .i64 r.depth.hi, .int .i64 r.fall.lo, .int .i64 r.fall.hi, .int .i64 r.days, .slice fa fl fc, .slice la ll lc], w', ?_, ⟨HavG.Rel.refl _ _, trivial⟩, fun _ _ _ _ _ h => h, fun _ _ _ _ h => h, fun V _ hv => hv, fun h => by simp at h⟩
      go_simp
      try rfl
     | 1, _, ho, hd, hps, hsl, him =>
      (simp only [List.getElem?_toArray, List.getElem?_cons_succ, List.getElem?_cons_zero, Option.some.injEq] at ho; subst ho)
      have s11 : a'.tmps[11]?.getD undef = (.int .i64 d) := by rw [← Array.getD_eq_getD_getElem?]; exact hag.slot 11 (by kernel_rfl)
      have r11 : a'.tmps.getD 11 undef = (.int .i64 d) := hag.slot 11 (by kernel_rfl)
      refine HavG.tabY_val rfl (by simp) ⟨.int .i64 d, w', ?_, ⟨HavG.Rel.refl _ _, trivial⟩, fun _ _ _ _ _ h => h, fun _ _ _ _ h => h, fun V _ hv => hv, fun h => by simp at h⟩
      go_simp
      try rfl
     | 2, _, ho, hd, hps, hsl, him =>
      (simp only [List.getElem?_toArray, List.getElem?_cons_succ, List.getElem?_cons_zero, Option.some.injEq] at ho; subst ho)
      have s42 : a'.tmps[42]?.getD undef = (.int .i64 n) := by rw [← Array.getD_eq_getD_getElem?]; exact hag.slot 42 (by kernel_rfl)
      have r42 : a'.tmps.getD 42 undef = (.int .i64 n) := hag.slot 42 (by kernel_rfl)
      refine HavG.tabY_val rfl (by simp) ⟨.int .i64 n, w', ?_, ⟨HavG.Rel.refl _ _, trivial⟩, fun _ _ _ _ _ h => h, fun _ _ _ _ h => h, fun V _ hv => hv, fun h => by simp at h⟩
      go_simp
      try rfl
     | 3, _, ho, hd, hps, hsl, him =>
      (simp only [List.getElem?_toArray, List.getElem?_cons_succ, List.getElem?_cons_zero, Option.some.injEq] at ho; subst ho)
      have s42 : a'.tmps[42]?.getD undef = (.int .i64 n) := by rw [← Array.getD_eq_getD_getElem?]; exact hag.slot 42 (by kernel_rfl)
      have r42 : a'.tmps.getD 42 undef = (.int .i64 n) := hag.slot 42 (by kernel_rfl)
      refine HavG.tabY_val rfl (by simp) ⟨.int .i64 n, w', ?_, ⟨HavG.Rel.refl _ _, trivial⟩, fun _ _ _ _ _ h => h, fun _ _ _ _ h => h, fun V _ hv => hv, fun h => by simp at h⟩
      go_simp
      try rfl
     | 4, _, ho, hd, hps, hsl, him =>
      (simp only [List.getElem?_toArray, List.getElem?_cons_succ, List.getElem?_cons_zero, Option.some.injEq] at ho; subst ho)
      have d324 : a'.tmps.getD 324 undef = (.int .i64 d) := hd 1 (by kernel_rfl) (by decide)
      have c324 : a'.tmps[324]?.getD undef = (.int .i64 d) := by rw [← Array.getD_eq_getD_getElem?]; exact d324
      have d325 : a'.tmps.getD 325 undef = (.int .i64 n) := hd 2 (by kernel_rfl) (by decide)
      have c325 : a'.tmps[325]?.getD undef = (.int .i64 n) := by rw [← Array.getD_eq_getD_getElem?]; exact d325
      have d326 : a'.tmps.getD 326 undef = (.int .i64 n) := hd 3 (by kernel_rfl) (by decide)
      have c326 : a'.tmps[326]?.getD undef = (.int .i64 n) := by rw [← Array.getD_eq_getD_getElem?]; exact d326
      refine HavG.tabY_call rfl (by simp) (f := 40) (args := #[.int .i64 d, .int .i64 n, .int .i64 n]) (by go_simp; try rfl) ((look_any d n n w').mono ?_)
      rintro e w2 ⟨rfl, HB⟩
      exact ⟨_, rfl, ⟨⟨Turn.of_below HB, fun i => i.elim⟩, trivial⟩, fun j V _ _ _ h => e49_grow h HB, fun j _ _ _ h => e49S_grow h HB, fun V _ hv => hv, fun h => by simp at h⟩
     | 5, _, ho, hd, hps, hsl, him =>
      (simp only [List.getElem?_toArray, List.getElem?_cons_succ, List.getElem?_cons_zero, Option.some.injEq] at ho; subst ho)
      have d323 : a'.tmps.getD 323 undef = (.agg #[.int .i64 r.depth.lo, .int .i64 r.depth.hi, .int .i64 r.fall.lo, .int .i64 r.fall.hi, .int .i64 r.days, .slice fa fl fc, .slice la ll lc]) := hd 0 (by kernel_rfl) (by decide)
      have c323 : a'.tmps[323]?.getD undef = (.agg #[.int .i64 r.depth.lo, .int .i64 r.depth.hi, .int .i64 r.fall.lo, .int .i64 r.fall.hi, .int .i64 r.days, .slice fa fl fc, .slice la ll lc]) := by rw [← Array.getD_eq_getD_getElem?]; exact d323
      have d327 : a'.tmps.getD 327 undef = (.agg #[.int .i64 d, .int .i64 n, .int .i64 n]) := hd 4 (by kernel_rfl) (by decide)
      have c327 : a'.tmps[327]?.getD undef = (.agg #[.int .i64 d, .int .i64 n, .int .i64 n]) := by rw [← Array.getD_eq_getD_getElem?]; exact d327
      have HBE : Below wr.heap.size wr w' := hg.1.below (Nat.le_refl _) (fun b h => h)
      refine HavG.tabY_call rfl (by simp) (f := 39) (args := #[.agg #[.int .i64 r.depth.lo, .int .i64 r.depth.hi, .int .i64 r.fall.lo, .int .i64 r.fall.hi, .int .i64 r.days, .slice fa fl fc, .slice la ll lc], (.agg #[.int .i64 d, .int .i64 n, .int .i64 n])]) (by go_simp; try rfl) ((with_any (l := lookN d n) HOK.out w' (HP.out.grow HBE)).mono ?_)
      rintro e w2 ⟨⟨g, cp, rfl, ho⟩, HB⟩
      exact ⟨_, rfl, ⟨⟨Turn.of_below HB, fun i => i.elim⟩, trivial⟩, fun j V _ _ _ h => e49_grow h HB, fun j _ _ _ h => e49S_grow h HB, fun V _ hv => ⟨g, cp, hv, own_base ho HBE.size⟩, fun h => by simp at h⟩
     | 6, _, ho, hd, hps, hsl, him =>
      (simp only [List.getElem?_toArray, List.getElem?_cons_succ, List.getElem?_cons_zero, Option.some.injEq] at ho; subst ho)
      have s11 : a'.tmps[11]?.getD undef = (.int .i64 d) := by rw [← Array.getD_eq_getD_getElem?]; exact hag.slot 11 (by kernel_rfl)
      have r11 : a'.tmps.getD 11 undef = (.int .i64 d) := hag.slot 11 (by kernel_rfl)
      refine HavG.tabY_val rfl (by simp) ⟨.int .i64 d, w', ?_, ⟨HavG.Rel.refl _ _, trivial⟩, fun _ _ _ _ _ h => h, fun _ _ _ _ h => h, fun V _ hv => hv, fun h => by simp at h⟩
      go_simp
      try rfl
     | 7, _, ho, hd, hps, hsl, him =>
      (simp only [List.getElem?_toArray, List.getElem?_cons_succ, List.getElem?_cons_zero, Option.some.injEq] at ho; subst ho)
      obtain ⟨g, cp, d328, ho⟩ : ∃ g cp, HavG.slot a' 328 = .agg #[.int .i64 r.depth.lo, .int .i64 r.depth.hi, .int .i64 r.fall.lo, .int .i64 r.fall.hi, .int .i64 r.days, .slice fa fl fc, .slice (some ⟨g, 0, none⟩) (ll + 1) cp] ∧ w'.ownsRow wr.heap.size 58 3 (.slice (some ⟨g, 0, none⟩) (ll + 1) cp) (ll + 1) ((withR r (lookN d n)).lk.flatMap lkI) := hd 5 (by kernel_rfl) (by decide)
      have c328 : a'.tmps[328]?.getD undef = .agg #[.int .i64 r.depth.lo, .int .i64 r.depth.hi, .int .i64 r.fall.lo, .int .i64 r.fall.hi, .int .i64 r.days, .slice fa fl fc, .slice (some ⟨g, 0, none⟩) (ll + 1) cp] := by rw [← Array.getD_eq_getD_getElem?]; exact d328
      have c328' : a'.tmps.getD 328 undef = .agg #[.int .i64 r.depth.lo, .int .i64 r.depth.hi, .int .i64 r.fall.lo, .int .i64 r.fall.hi, .int .i64 r.days, .slice fa fl fc, .slice (some ⟨g, 0, none⟩) (ll + 1) cp] := d328
      have d329 : a'.tmps.getD 329 undef = (.int .i64 d) := hd 6 (by kernel_rfl) (by decide)
      have c329 : a'.tmps[329]?.getD undef = (.int .i64 d) := by rw [← Array.getD_eq_getD_getElem?]; exact d329
      have HBE : Below wr.heap.size wr w' := hg.1.below (Nat.le_refl _) (fun b h => h)
      refine HavG.tabY_call rfl (by simp) (f := 14) (args := #[.agg #[.int .i64 r.depth.lo, .int .i64 r.depth.hi, .int .i64 r.fall.lo, .int .i64 r.fall.hi, .int .i64 r.days, .slice fa fl fc, .slice (some ⟨g, 0, none⟩) (ll + 1) cp], .int .i64 d]) (by go_simp; try rfl) ((PDepth_any (fa := fa) (fl := fl) (fc := fc) (la := some ⟨g, 0, none⟩) (ll := ll + 1) (lc := cp) (r := withR r (lookN d n)) (w := w') (d : Int) (rv_with (HP.out.grow HBE) ho (by omega))).mono ?_)
      rw [HV.out]
      rintro e w2 ⟨rfl, HB⟩
      exact ⟨_, rfl, ⟨⟨Turn.of_below HB, fun i => i.elim⟩, trivial⟩, fun j V _ _ _ h => e49_grow h HB, fun j _ _ _ h => e49S_grow h HB, fun V _ hv => hv, fun h => by simp at h⟩
     | 8, _, ho, hd, hps, hsl, him =>
      (simp only [List.getElem?_toArray, List.getElem?_cons_succ, List.getElem?_cons_zero, Option.some.injEq] at ho; subst ho)
      have d330 : a'.tmps.getD 330 undef = (.tuple #[.agg #[.int .i64 oa, .int .i64 ob], .int .i64 E]) := hd 7 (by kernel_rfl) (by decide)
      have c330 : a'.tmps[330]?.getD undef = (.tuple #[.agg #[.int .i64 oa, .int .i64 ob], .int .i64 E]) := by rw [← Array.getD_eq_getD_getElem?]; exact d330
      refine HavG.tabY_val rfl (by simp) ⟨(.tuple #[.agg #[.int .i64 oa, .int .i64 ob], .int .i64 E]), w', ?_, ⟨HavG.Rel.refl _ _, trivial⟩, fun _ _ _ _ _ h => h, fun _ _ _ _ h => h, fun V _ hv => hv, fun h => by simp at h⟩
      go_simp
      try rfl
     | 9, _, ho, hd, hps, hsl, him =>
      (simp only [List.getElem?_toArray, List.getElem?_cons_succ, List.getElem?_cons_zero, Option.some.injEq] at ho; subst ho)
      have d322 : a'.tmps.getD 322 undef = (.tuple #[.agg #[.int .i64 oa, .int .i64 ob], .int .i64 E]) := hd 8 (by kernel_rfl) (by decide)
      have c322 : a'.tmps[322]?.getD undef = (.tuple #[.agg #[.int .i64 oa, .int .i64 ob], .int .i64 E]) := by rw [← Array.getD_eq_getD_getElem?]; exact d322
      refine HavG.tabY_val rfl (by simp) ⟨.agg #[.int .i64 oa, .int .i64 ob], w', ?_, ⟨HavG.Rel.refl _ _, trivial⟩, fun _ _ _ _ _ h => h, fun _ _ _ _ h => h, fun V _ hv => hv, fun h => by simp at h⟩
      go_simp
      try rfl
     | 10, _, ho, hd, hps, hsl, him =>
      (simp only [List.getElem?_toArray, List.getElem?_cons_succ, List.getElem?_cons_zero, Option.some.injEq] at ho; subst ho)
      have d322 : a'.tmps.getD 322 undef = (.tuple #[.agg #[.int .i64 oa, .int .i64 ob], .int .i64 E]) := hd 8 (by kernel_rfl) (by decide)
      have c322 : a'.tmps[322]?.getD undef = (.tuple #[.agg #[.int .i64 oa, .int .i64 ob], .int .i64 E]) := by rw [← Array.getD_eq_getD_getElem?]; exact d322
      refine HavG.tabY_val rfl (by simp) ⟨.int .i64 E, w', ?_, ⟨HavG.Rel.refl _ _, trivial⟩, fun _ _ _ _ _ h => h, fun _ _ _ _ h => h, fun V _ hv => hv, fun h => by simp at h⟩
      go_simp
      try rfl
     | 11, _, ho, hd, hps, hsl, him =>
      (simp only [List.getElem?_toArray, List.getElem?_cons_succ, List.getElem?_cons_zero, Option.some.injEq] at ho; subst ho)
      have HB : Below w'.heap.size w' (w'.alloc (.cells #[.int .i64 0, .int .i64 0] 23)) := (Below.refl _ _).alloc (Nat.le_refl _) _
      refine HavG.tabY_val rfl (by simp) ⟨.pointer (some ⟨w'.heap.size, 0, none⟩), w'.alloc (.cells #[.int .i64 0, .int .i64 0] 23), ?_, ⟨⟨Turn.of_below HB, fun i => i.elim⟩, trivial⟩, fun j V _ _ _ h => e49_grow h HB, fun j _ _ _ h => e49S_grow h HB, fun V _ hv => ⟨_, hv, hg.1.size, _, _, Blk.new w' 23 _⟩, fun h => by simp at h⟩
      go_simp
      try rfl
     | 12, _, ho, hd, hps, hsl, him =>
      (simp only [List.getElem?_toArray, List.getElem?_cons_succ, List.getElem?_cons_zero, Option.some.injEq] at ho; subst ho)
      obtain ⟨g, d43, hgK, x, y, hbk⟩ : ∃ g, HavG.slot a' 43 = .pointer (some ⟨g, 0, none⟩) ∧ wr.heap.size ≤ g ∧ ∃ x y, Blk w' g 23 #[x, y] := hd 11 (by kernel_rfl) (by decide)
      have c43 : a'.tmps[43]?.getD undef = .pointer (some ⟨g, 0, none⟩) := by rw [← Array.getD_eq_getD_getElem?]; exact d43
      have c43' : a'.tmps.getD 43 undef = .pointer (some ⟨g, 0, none⟩) := d43
      have d331 : a'.tmps.getD 331 undef = (.agg #[.int .i64 oa, .int .i64 ob]) := hd 9 (by kernel_rfl) (by decide)
      have c331 : a'.tmps[331]?.getD undef = (.agg #[.int .i64 oa, .int .i64 ob]) := by rw [← Array.getD_eq_getD_getElem?]; exact d331
      have z0 := hbk.cell 0
      have z1 := hbk.cell 1
      have f0 := hbk.frozen 0
      have f1 := hbk.frozen 1
      have zl := hbk.lt
      simp at z0 z1
      refine HavG.tabY_store rfl rfl (by simp) ⟨(w'.setCell ⟨g, 0, none⟩ (.int .i64 oa)).setCell ⟨g, 1, none⟩ (.int .i64 ob), ?_, ⟨⟨(Turn.set (S := fun b => wr.heap.size ≤ b) ⟨g, 0, none⟩ _ (fun _ => hgK)).trans (Turn.set (S := fun b => wr.heap.size ≤ b) ⟨g, 1, none⟩ _ (fun _ => hgK)), fun i => i.elim⟩, trivial⟩, fun j V _ hji _ h => e49_set (e49_set h hbk hji) (hbk.set_ 0 _) hji, fun j _ _ _ h => e49S_set (e49S_set h (fun e => by have := HL3.out; omega)) (fun e => by have := HL3.out; omega), fun V hV => ⟨g, (hV 11 (by decide)).trans d43, hgK, (hbk.set_ 0 (.int .i64 oa)).set_ 1 (.int .i64 ob)⟩⟩
      go_simp
      try rfl
     | 13, _, ho, hd, hps, hsl, him =>
      (simp only [List.getElem?_toArray, List.getElem?_cons_succ, List.getElem?_cons_zero, Option.some.injEq] at ho; subst ho)
      have d332 : a'.tmps.getD 332 undef = (.int .i64 E) := hd 10 (by kernel_rfl) (by decide)
      have c332 : a'.tmps[332]?.getD undef = (.int .i64 E) := by rw [← Array.getD_eq_getD_getElem?]; exact d332
      refine HavG.tabY_val rfl (by simp) ⟨.int .i64 E, w', ?_, ⟨HavG.Rel.refl _ _, trivial⟩, fun _ _ _ _ _ h => h, fun _ _ _ _ h => h, fun V _ hv => hv, fun h => by simp at h⟩
      go_simp
      try rfl
     | j + 14, hj, _, _, _, _, _ => exact absurd hj (by simp)
    intro f w2 hg hjj hf hap
    have q323 : f 323 = .agg #[.int .i64 r.depth.lo, .int .i64 r.depth.hi, .int .i64 r.fall.lo, .int .i64 r.fall.hi, .int .i64 r.days, .slice fa fl fc, .slice la ll lc] := hf 0 (by decide)
    have q324 : f 324 = .int .i64 d := hf 1 (by decide)
    have q325 : f 325 = .int .i64 n := hf 2 (by decide)
    have q326 : f 326 = .int .i64 n := hf 3 (by decide)
    have q327 : f 327 = (.agg #[.int .i64 d, .int .i64 n, .int .i64 n]) := hf 4 (by decide)
    obtain ⟨g5, c5, q328, -⟩ : ∃ g cp, f 328 = .agg #[.int .i64 r.depth.lo, .int .i64 r.depth.hi, .int .i64 r.fall.lo, .int .i64 r.fall.hi, .int .i64 r.days, .slice fa fl fc, .slice (some ⟨g, 0, none⟩) (ll + 1) cp] ∧ w2.ownsRow wr.heap.size 58 3 (.slice (some ⟨g, 0, none⟩) (ll + 1) cp) (ll + 1) ((withR r (lookN d n)).lk.flatMap lkI) := hf 5 (by decide)
    have q329 : f 329 = .int .i64 d := hf 6 (by decide)
    have q330 : f 330 = (.tuple #[.agg #[.int .i64 oa, .int .i64 ob], .int .i64 E]) := hf 7 (by decide)
    have q322 : f 322 = (.tuple #[.agg #[.int .i64 oa, .int .i64 ob], .int .i64 E]) := hf 8 (by decide)
    have q331 : f 331 = .agg #[.int .i64 oa, .int .i64 ob] := hf 9 (by decide)
    have q332 : f 332 = .int .i64 E := hf 10 (by decide)
    obtain ⟨b43, q43, hb43, hk43⟩ : ∃ g, f 43 = .pointer (some ⟨g, 0, none⟩) ∧ wr.heap.size ≤ g ∧ Blk w2 g 23 #[.int .i64 oa, .int .i64 ob] := hf 12 (by decide)
    have q44 : f 44 = .int .i64 E := hf 13 (by decide)
    have tg := hg.1
    simp only [List.filterMap, HavG.puts, List.foldl_cons, List.foldl_nil, Act.put, List.setIfInBounds_toArray, List.set_cons_succ, List.set_cons_zero]
    rw [q323, q324, q325, q326, q327, q328, q329, q330, q322, q331, q332, q43, q44]
    clear hf hap hjj q323 q324 q325 q326 q327 q328 q329 q330 q322 q331 q332 q43 q44 hg
    have HZ : Hid (Blk w2 b12 23 #[.int .i64 lo0, .int .i64 hi0]) := HY.out.turn tg (fun h => by have := HY.out.lt; omega)
    have HF43 := Lib.hid hk43
    have HB2 : Hid (Below W.heap.size W w2) := HBR.out.trans (tg.below HBR.out.size (fun b e => Nat.le_trans HBR.out.size e))
    clear hk43 tg hb43
    have y0 := HZ.out.cell 0
    have y1 := HZ.out.cell 1
    have yl := HZ.out.lt
    simp at y0 y1
    have v0 := HF43.out.cell 0
    have v1 := HF43.out.cell 1
    have vl := HF43.out.lt
    simp at v0 v1
    rcases HE.out with ⟨rfl, rfl, rfl, e1, e2⟩ | ⟨rfl, e1⟩
    ·clear HV HE
     go_upto_region 50 with (fail)
     refine wp_region_havoc [(0,false),(1,false),(2,false),(3,false),(4,false),(5,false),(6,false),(7,false),(8,false),(9,false),(10,false),(11,false),(12,false),(13,false),(14,false),(15,false),(16,false),(17,false),(18,false),(19,false),(20,false),(21,false),(22,false),(23,false),(24,false)] [] (fun _ _ => False) (by kernel_rfl) (by kernel_rfl) (fun _ _ _ _ h => h.elim) ?_
     iterate 3 (apply hav_same (by simp only [List.getElem?_toArray]; rfl) (by kernel_rfl); (focus (intro wv hgv _; have hcv : ∀ b o, b < _ → wv.cell? ⟨b, o, none⟩ = _ := fun b o hb => Below.cell hgv (p := ⟨b, o, none⟩) hb; (try go_simp); try rfl; done)); simp only [Act.put, List.setIfInBounds_toArray, List.set_cons_succ, List.set_cons_zero])
     iterate 2 (refine hav_skip (by simp only [List.getElem?_toArray]; rfl) (by rfl) ?_; simp only [Act.put, List.setIfInBounds_toArray, List.set_cons_succ, List.set_cons_zero])
     iterate 6 (apply hav_same (by simp only [List.getElem?_toArray]; rfl) (by kernel_rfl); (focus (intro wv hgv _; have hcv : ∀ b o, b < _ → wv.cell? ⟨b, o, none⟩ = _ := fun b o hb => Below.cell hgv (p := ⟨b, o, none⟩) hb; (try go_simp); try rfl; done)); simp only [Act.put, List.setIfInBounds_toArray, List.set_cons_succ, List.set_cons_zero])
     (apply hav_call (by simp only [List.getElem?_toArray]; rfl) (by kernel_rfl); (focus (intro wv; go_simp; try exact ⟨rfl, rfl⟩; done)); (focus (intro wv hgv _; exact inside_any _ _ _ (by omega) (by omega) wv; done)); simp only [Act.put, List.setIfInBounds_toArray, List.set_cons_succ, List.set_cons_zero])
     iterate 9 (apply hav_same (by simp only [List.getElem?_toArray]; rfl) (by kernel_rfl); (focus (intro wv hgv _; have hcv : ∀ b o, b < _ → wv.cell? ⟨b, o, none⟩ = _ := fun b o hb => Below.cell hgv (p := ⟨b, o, none⟩) hb; (try go_simp); try rfl; done)); simp only [Act.put, List.setIfInBounds_toArray, List.set_cons_succ, List.set_cons_zero])
     (apply hav_call (by simp only [List.getElem?_toArray, List.getElem?_cons_succ, List.getElem?_cons_zero]; rfl) (by kernel_rfl); (focus (intro wv; go_simp; try exact ⟨rfl, rfl⟩; done)); (focus (intro wv hgv _; exact lspan_any _ _ wv; done)); simp only [Act.put, List.setIfInBounds_toArray, List.set_cons_succ, List.set_cons_zero])
     iterate 3 (apply hav_same (by simp only [List.getElem?_toArray]; rfl) (by kernel_rfl); (focus (intro wv hgv _; have hcv : ∀ b o, b < _ → wv.cell? ⟨b, o, none⟩ = _ := fun b o hb => Below.cell hgv (p := ⟨b, o, none⟩) hb; (try go_simp); try rfl; done)); simp only [Act.put, List.setIfInBounds_toArray, List.set_cons_succ, List.set_cons_zero])
     refine hav_end (fun X hgX hF => ?_); simp only [List.filterMap]; have hcX : ∀ b o, b < _ → X.cell? ⟨b, o, none⟩ = _ := fun b o hb => Below.cell hgX (p := ⟨b, o, none⟩) hb; have hfX : ∀ b o, b < _ → X.frozen? ⟨b, o, none⟩ = _ := fun b o hb => Below.frozen hgX (p := ⟨b, o, none⟩) hb; have hzX := Below.size hgX; (try simp at hzX)
     have HBX : Hid (Below W.heap.size W X) := HB2.out.trans (Below.mono hgX HB2.out.size)
     clear hF hcX hfX hzX hgX y0 y1 yl v0 v1 vl
     go_wp2
     go_roundw
     case rel => exact ⟨k + 1, by omega, by go_num, HBX⟩
     case measure => simp [intOf]; omega
    ·clear HV HE
     go_upto_region 50 with (fail)
     refine wp_region_havoc [(0,false),(1,false),(2,false),(3,false),(4,false),(5,false),(6,false),(7,false),(8,false),(9,false),(10,false),(11,false),(12,false),(13,false),(14,false),(15,false),(16,false),(17,false),(18,false),(19,false),(20,false),(21,false),(22,false),(23,false),(24,false)] [] (fun _ _ => False) (by kernel_rfl) (by kernel_rfl) (fun _ _ _ _ h => h.elim) ?_
     iterate 11 (apply hav_same (by simp only [List.getElem?_toArray]; rfl) (by kernel_rfl); (focus (intro wv hgv _; have hcv : ∀ b o, b < _ → wv.cell? ⟨b, o, none⟩ = _ := fun b o hb => Below.cell hgv (p := ⟨b, o, none⟩) hb; (try go_simp); try rfl; done)); simp only [Act.put, List.setIfInBounds_toArray, List.set_cons_succ, List.set_cons_zero])
     (apply hav_call (by simp only [List.getElem?_toArray]; rfl) (by kernel_rfl); (focus (intro wv; go_simp; try exact ⟨rfl, rfl⟩; done)); (focus (intro wv hgv _; exact inside_no _ _ _ (by omega) wv; done)); simp only [Act.put, List.setIfInBounds_toArray, List.set_cons_succ, List.set_cons_zero])
     iterate 6 (apply hav_same (by simp only [List.getElem?_toArray]; rfl) (by kernel_rfl); (focus (intro wv hgv _; have hcv : ∀ b o, b < _ → wv.cell? ⟨b, o, none⟩ = _ := fun b o hb => Below.cell hgv (p := ⟨b, o, none⟩) hb; (try go_simp); try rfl; done)); simp only [Act.put, List.setIfInBounds_toArray, List.set_cons_succ, List.set_cons_zero])
     iterate 5 (refine hav_skip (by simp only [List.getElem?_toArray]; rfl) (by rfl) ?_; simp only [Act.put, List.setIfInBounds_toArray, List.set_cons_succ, List.set_cons_zero])
     iterate 2 (apply hav_same (by simp only [List.getElem?_toArray]; rfl) (by kernel_rfl); (focus (intro wv hgv _; have hcv : ∀ b o, b < _ → wv.cell? ⟨b, o, none⟩ = _ := fun b o hb => Below.cell hgv (p := ⟨b, o, none⟩) hb; (try go_simp); try rfl; done)); simp only [Act.put, List.setIfInBounds_toArray, List.set_cons_succ, List.set_cons_zero])
     refine hav_end (fun X hgX hF => ?_); simp only [List.filterMap]; have hcX : ∀ b o, b < _ → X.cell? ⟨b, o, none⟩ = _ := fun b o hb => Below.cell hgX (p := ⟨b, o, none⟩) hb; have hfX : ∀ b o, b < _ → X.frozen? ⟨b, o, none⟩ = _ := fun b o hb => Below.frozen hgX (p := ⟨b, o, none⟩) hb; have hzX := Below.size hgX; (try simp at hzX)
     have HBX : Hid (Below W.heap.size W X) := HB2.out.trans (Below.mono hgX HB2.out.size)
     clear hF hcX hfX hzX hgX y0 y1 yl v0 v1 vl
     go_wp2
     go_roundw
     case rel => exact ⟨k + 1, by omega, by go_num, HBX⟩
     case measure => simp [intOf]; omega
  ·obtain rfl : k = 4 := by omega
   go_wp2
   exact HK.out wr HBW.out _ _ _ _ _ _ _ _ _ _ _ _ _ _ _ _ _ _ _ _ _ _ _ _ _ _ _ _ _ _ _ _ _ _ _ _ _ _ _ _ _ _ _ _ _ _ _ _ _ _ _ _ _ _ _ _ _ _ _ _ _ _ _ _ _ _ _ _ _ _ _ _ _ _ _ _ _ _ _ _ _ _ _ _ _ _ _ _ _ _ _ _ _ _ _ _ _ _ _ _ _ _ _ _ _ _ _ _ _ _ _ _ _ _ _ _ _ _ _ _ _ _ _ _ _ _ _ _ _ _ _ _ _ _ _ _ _ _ _ _ _ _ _ _ _ _ _ _ _ _ _ _ _ _ _ _ _ _ _ _ _ _ _ _ _ _ _ _ _ _ _ _ _ _ _ _ _ _ _ _ _ _ _ _ _ _ _ _ _ _ _ _ _ _ _ _ _ _ _ _ _ _ _ _ _ _ _ _ _ _ _ _ _ _ _ _ _ _ _ _ _ _ _ _ _ _ _ _ _ _ _ _ _ _ _ _ _ _ _ _ _ _ _ _ _ _ _ _ _ _ _ _ _ _ _ _ _ _ _ _ _ _ _ _ _ _ _ _ _ _ _ _ _ _ _ _ _ _ _ _ _ _ _ _ _ _ _ _ _ _ _ _ _ _ _ _ _ _ _ _ _ _ _ _ _ _ _ _ _ _ _ _ _ _ _ _ _ _ _ _ _ _ _ _ _ _ _ _ _ _ _ _ _ _ _ _ _ _ _ _ _ _ _ _ _ _ _ _ _ _ _ _ _ _ _ _ _ _ _ _
end
end Go.Proofs.Ytiodmkokpfgkkaa
