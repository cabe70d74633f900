/- The law RiverTrue: whatever is true, by remainders, lies within what is returned. Conditions: numbers are of 16 and 8 bits. -/
import Derived.Test.YtiodmkokpfgkkaaLawTrueD
import Derived.Test.YtiodmkokpfgkkaaLawTrulyE
namespace Go.Proofs.Ytiodmkokpfgkkaa
open Go.RowKit Go.Hav Go.Shelf Go.Sq
attribute [local go_sem] Oper.semAt_some
def tupAt (v : Value) (i : Nat) : Value := match v with | .tuple cs => cs.getD i undef | _ => undef
def PostV (BW : Nat) (fa : Option Addr) (fl fc : Nat) (r : IRiv) (v : Value) (w : World) : Prop :=
 ∃ (t : Tr) (lk : List ILk) (lv dv pv : Value), v = .tuple #[.agg #[.int .i64 r.depth.lo, .int .i64 r.depth.hi, .int .i64 r.fall.lo, .int .i64 r.fall.hi, .int .i64 r.days, .slice fa fl fc, lv], .int .i64 t.by_, dv, pv] ∧ TrueIn r t lk ∧ w.ownsRow BW 58 3 lv r.lk.length (lk.flatMap lkI) ∧
  w.ownsRow BW 3 1 dv fl (t.ds.map nV) ∧ w.ownsRow BW 3 1 pv (r.nat.days + 1) ((List.range (r.nat.days + 1)).map fun d => nV (t.at_ d))
def t3T (BW : Nat) (ua : Option Addr) (ul uc : Nat) (fa : Option Addr) (fl fc : Nat) (la : Option Addr) (ll lc : Nat) (r : IRiv) (i : Nat) (V : Nat → Value) (w : World) : Prop :=
 match i with
 | 0 => V 0 = .agg #[.int .i64 r.depth.lo, .int .i64 r.depth.hi, .int .i64 r.fall.lo, .int .i64 r.fall.hi, .int .i64 r.days, .slice fa fl fc, .slice la ll lc]
 | 1 => V 1 = .slice ua ul uc
 | 2 => ∃ c s, V 2 = (.func (.func 98) #[] #[.pointer (some ⟨c, 0, none⟩), .pointer (some ⟨s, 0, none⟩)])
 | 3 => PostV BW fa fl fc r (V 3) w
 | 4 => V 4 = V 3
 | 5 => V 5 = tupAt (V 3) 0
 | 6 => V 6 = tupAt (V 3) 1
 | 7 => V 7 = tupAt (V 3) 2
 | 8 => V 8 = tupAt (V 3) 3
 | 9 => ∃ g, V 9 = .pointer (some ⟨g, 0, none⟩) ∧ BW ≤ g ∧ ∃ u0 u1 u2 u3 u4 u5 u6, Blk w g 27 #[u0, u1, u2, u3, u4, u5, u6]
 | 10 => ∃ g cs, V 9 = .pointer (some ⟨g, 0, none⟩) ∧ BW ≤ g ∧ tupAt (V 3) 0 = .agg cs ∧ Blk w g 27 cs
 | 11 => V 11 = V 6
 | 12 => V 12 = V 7
 | 13 => V 13 = V 8
 | _ => True
/-- As long as truly is not called, the counter is new. -/
def j3 (BW : Nat) (ua : Option Addr) (ul uc : Nat) (rem : List Nat) (a : Act) (w : World) : Prop :=
 3 ∈ rem → ∀ c s, HavG.slot a 45 = (.func (.func 98) #[] #[.pointer (some ⟨c, 0, none⟩), .pointer (some ⟨s, 0, none⟩)]) → BW ≤ c ∧ BW ≤ s ∧ Blk w c 3 #[.int .i64 0] ∧ Blk w s 45 #[.slice ua ul uc]
section
variable {BW ul uc fl fc ll lc i : Nat} {ua fa la : Option Addr} {r : IRiv} {V : Nat → Value} {w w' : World} {S : Nat → Prop} {rem : List Nat} {a : Act}
theorem j3_skip {d i : Nat} {v : Value} (hd : d ≠ 45) (_hi : i ≠ 3) (h : j3 BW ua ul uc rem a w) (k1 : ∀ g t cs, Blk w g t cs → Blk w' g t cs) (_k2 : ∀ g t cs, Blk w g t cs → Blk w' g t cs) : j3 BW ua ul uc (rem.erase i) (a.put (some d) v) w' := fun h3 c s e => by
 rw [HavG.slot_put _ (by simpa using hd)] at e
 obtain ⟨h1, h2, h4, h5⟩ := h (List.mem_of_mem_erase h3) c s e
 exact ⟨h1, h2, k1 _ _ _ h4, k1 _ _ _ h5⟩
theorem j3_store {i : Nat} {v : Value} (h : j3 BW ua ul uc rem a w) (k1 : ∀ g cs, Blk w g 3 cs → Blk w' g 3 cs) (k2 : ∀ g cs, Blk w g 45 cs → Blk w' g 45 cs) : j3 BW ua ul uc (rem.erase i) (a.put none v) w' := fun h3 c s e => by
 obtain ⟨h1, h2, h4, h5⟩ := h (List.mem_of_mem_erase h3) c s e
 exact ⟨h1, h2, k1 _ _ h4, k2 _ _ h5⟩
theorem j3_new {c s : Nat} (hc : BW ≤ c) (hs : BW ≤ s) (hk : Blk w' c 3 #[.int .i64 0]) (hz : Blk w' s 45 #[.slice ua ul uc]) (hsz : 45 < a.tmps.size) : j3 BW ua ul uc (rem.erase 2) (a.put (some 45) (.func (.func 98) #[] #[.pointer (some ⟨c, 0, none⟩), .pointer (some ⟨s, 0, none⟩)])) w' := fun _ c' s' e => by
 rw [HavG.slot_self _ hsz] at e
 cases e
 exact ⟨hc, hs, hk, hz⟩
theorem PostV.keep {v : Value} (h : PostV BW fa fl fc r v w) (t : Turn S w w') (hs : ∀ g t cs, Blk w g t cs → t ≠ 27 → ¬ S g) : PostV BW fa fl fc r v w' := by
 obtain ⟨t0, lk, lv, dv, pv, e, h1, h2, h3, h4⟩ := h
 have far : ∀ {v : Value} {e sz n : Nat} {xs : List Value}, e ≠ 27 → w.ownsRow BW e sz v n xs → w'.ownsRow BW e sz v n xs := fun hne ho => own_turn ho t (fun g hg => by
  obtain ⟨-, cs, hcs⟩ := own_block ho hg
  exact hs g _ cs hcs hne)
 exact ⟨t0, lk, lv, dv, pv, e, h1, far (by decide) h2, far (by decide) h3, far (by decide) h4⟩
theorem t3_keep (h : t3T BW ua ul uc fa fl fc la ll lc r i V w) (t : Turn S w w') (h3 : i = 3 → ∀ g t cs, Blk w g t cs → t ≠ 27 → ¬ S g) (h9 : i = 9 → ∀ g, (∃ u0 u1 u2 u3 u4 u5 u6, Blk w g 27 #[u0, u1, u2, u3, u4, u5, u6]) → ∃ u0 u1 u2 u3 u4 u5 u6, Blk w' g 27 #[u0, u1, u2, u3, u4, u5, u6]) (h10 : i = 10 → ∀ g cs, Blk w g 27 cs → Blk w' g 27 cs) : t3T BW ua ul uc fa fl fc la ll lc r i V w' := by
 unfold t3T at h ⊢
 split at h
 case h_4 => exact h.keep t (h3 rfl)
 case h_10 => obtain ⟨g, e, hg, h⟩ := h; exact ⟨g, e, hg, h9 rfl g h⟩
 case h_11 => obtain ⟨g, cs, e, hg, e2, h⟩ := h; exact ⟨g, cs, e, hg, e2, h10 rfl g cs h⟩
 all_goals exact h
theorem t3_grow (h : t3T BW ua ul uc fa fl fc la ll lc r i V w) (hb : Below w.heap.size w w') : t3T BW ua ul uc fa fl fc la ll lc r i V w' := t3_keep (S := fun _ => False) h (Turn.of_below hb) (fun _ _ _ _ _ _ h => h) (fun _ g hg => by obtain ⟨u0, u1, u2, u3, u4, u5, u6, h⟩ := hg; exact ⟨u0, u1, u2, u3, u4, u5, u6, h.below hb h.lt⟩) (fun _ g cs h => h.below hb h.lt)
/-- A river, stored in a box. -/
theorem storeT {a : Act} {o : Oper} {d e g : Nat} {u0 u1 u2 u3 u4 u5 u6 : Value} {i0 i1 i2 i3 i4 : Int} {A A' : Option Addr} {n c n' c' : Nat} (ho : o.op = .store 27 (.tmp d) (.tmp e)) (h1 : a.tmps[d]?.getD undef = .pointer (some ⟨g, 0, none⟩)) (h2 : a.tmps[e]?.getD undef = .agg #[.int .i64 i0, .int .i64 i1, .int .i64 i2, .int .i64 i3, .int .i64 i4, .slice A n c, .slice A' n' c']) (hb : Blk w g 27 #[u0, u1, u2, u3, u4, u5, u6]) :
  (execOp a.eval o).run Try.prog w = .ok .skip (set7 w g (.int .i64 i0) (.int .i64 i1) (.int .i64 i2) (.int .i64 i3) (.int .i64 i4) (.slice A n c) (.slice A' n' c')) := by
 have c0 := hb.cell 0
 have c1 := hb.cell 1
 have c2 := hb.cell 2
 have c3 := hb.cell 3
 have c4 := hb.cell 4
 have c5 := hb.cell 5
 have c6 := hb.cell 6
 have f0 := hb.frozen 0
 have f1 := hb.frozen 1
 have f2 := hb.frozen 2
 have f3 := hb.frozen 3
 have f4 := hb.frozen 4
 have f5 := hb.frozen 5
 have f6 := hb.frozen 6
 have hl := hb.lt
 simp at c0 c1 c2 c3 c4 c5 c6
 unfold execOp set7
 rw [ho]
 go_simp
end
section
variable {fa la ua : Option Addr} {fl fc ll lc ul uc b3 : Nat} {r : IRiv} {U : List Nat}
set_option maxRecDepth 100000 in
set_option maxHeartbeats 6400000 in
theorem true2 (hok : okR r = true) {w0 K : World} (hB : Below w0.heap.size w0 K) (hP : RvIn K K.heap.size fa fl la ll r) (hU : UIn K K.heap.size ua ul U) (hR : Blk K b3 27 #[.int .i64 r.depth.lo, .int .i64 r.depth.hi, .int .i64 r.fall.lo, .int .i64 r.fall.hi, .int .i64 r.days, .slice fa fl fc, .slice la ll lc]) (boat : Nat) (hboat : boat ≤ 255) (c0 c4 c5 c6 c7 c8 c9 c10 c11 c12 c13 c14 c15 c16 c17 c18 c19 c20 c21 c22 c23 c24 c25 c26 c27 c28 c29 c30 c31 c32 c33 c34 c35 c36 c37 c38 c39 c40 c41 c42 c43 c44 c46 c47 c48 c49 c50 c51 c52 c53 c54 c55 c56 c57 c58 c59 c60 c61 c62 c63 c64 c65 c66 c67 c68 c69 c70 c71 c72 c73 c74 c75 c76 c77 c78 c79 c80 c81 c82 c83 c84 c85 c86 c87 c88 c89 c90 c91 c92 c93 c94 c95 c96 c97 c98 c99 c100 c101 c102 c103 c104 c105 c106 c107 c108 c109 c110 c111 c112 c113 c114 c115 c116 c117 c118 c119 c120 c121 c122 c123 c124 c125 c126 c127 c128 c129 c130 c131 c132 c133 c134 c135 c136 c137 c138 c139 c140 c141 c142 c143 c144 c145 c146 c147 c148 c149 c150 c151 c152 c153 c154 c155 c156 c157 c158 c159 c160 c161 c162 c163 c164 c165 c166 c167 c168 c169 c170 c171 c172 c173 c174 c175 c176 c177 c178 c179 c180 c181 c182 c183 c184 c185 c186 c187 c188 c189 c190 c191 c192 c193 c194 c195 c196 c197 c198 c199 c200 c201 c202 c203 c204 c205 c206 c207 c208 c209 c210 c211 c212 c213 c214 c215 c216 c217 c218 c219 c220 c221 c222 c223 c224 c225 c226 c227 c228 c229 c230 c231 c232 c233 c234 c235 c236 c237 c238 c239 c240 c241 c242 c243 c244 c245 c246 c247 c248 : Value) :
  Code.wp Try.prog (trueK 2) (bodyPost Try.prog Try.f6 (LawTrueT w0)) ⟨(c0::(.slice ua ul uc)::(.int .u8 boat)::(.pointer (some ⟨b3, 0, none⟩))::c4::c5::c6::c7::c8::c9::c10::c11::c12::c13::c14::c15::c16::c17::c18::c19::c20::c21::c22::c23::c24::c25::c26::c27::c28::c29::c30::c31::c32::c33::c34::c35::c36::c37::c38::c39::c40::c41::c42::c43::c44::undef::c46::c47::c48::c49::c50::c51::c52::c53::c54::c55::c56::c57::c58::c59::c60::c61::c62::c63::c64::c65::c66::c67::c68::c69::c70::c71::c72::c73::c74::c75::c76::c77::c78::c79::c80::c81::c82::c83::c84::c85::c86::c87::c88::c89::c90::c91::c92::c93::c94::c95::c96::c97::c98::c99::c100::c101::c102::c103::c104::c105::c106::c107::c108::c109::c110::c111::c112::c113::c114::c115::c116::c117::c118::c119::c120::c121::c122::c123::c124::c125::c126::c127::c128::c129::c130::c131::c132::c133::c134::c135::c136::c137::c138::c139::c140::c141::c142::c143::c144::c145::c146::c147::c148::c149::c150::c151::c152::c153::c154::c155::c156::c157::c158::c159::c160::c161::c162::c163::c164::c165::c166::c167::c168::c169::c170::c171::c172::c173::c174::c175::c176::c177::c178::c179::c180::c181::c182::c183::c184::c185::c186::c187::c188::c189::c190::c191::c192::c193::c194::c195::c196::c197::c198::c199::c200::c201::c202::c203::c204::c205::c206::c207::c208::c209::c210::c211::c212::c213::c214::c215::c216::c217::c218::c219::c220::c221::c222::c223::c224::c225::c226::c227::c228::c229::c230::c231::c232::c233::c234::c235::c236::c237::c238::c239::c240::c241::c242::c243::c244::c245::c246::c247::c248::[]).toArray, []⟩ K := by
 have HOK := Lib.hid hok
 have HB := Lib.hid hB
 have HP := Lib.hid hP
 have HU := Lib.hid hU
 have HR := Lib.hid hR
 have HRS : Hid (¬ K.heap.size ≤ b3) := by have := hR.lt; show ¬ _; omega
 have HFL := Lib.hid hP.efl
 have HLL := Lib.hid hP.ell
 have HMF := Lib.hid (And.intro hP.mfl hP.mll)
 have f36 := enters_of Try.func36 (by kernel_rfl) rfl
 have f37 := enters_of Try.func37 (by kernel_rfl) rfl
 conv => arg 2; whnf
 conv => arg 2; arg 2; change trueK 3
 clear hok hB hP hU hR
 go_upto_region 3 with fail
 refine HavG.wp_region_tabY (R := (TP (ι := Empty) (fun b => K.heap.size ≤ b) (fun i _ => i.elim) (fun i => i.elim))) (fun i V wx => t3T K.heap.size ua ul uc fa fl fc la ll lc r i V wx) (fun i wx => True) (j3 K.heap.size ua ul uc) (fun _ _ => False) [] [some 43, some 44, some 45, some 46, some 42, some 47, some 48, some 49, some 50, some 7, none, some 8, some 9, some 10] (by kernel_rfl) (by kernel_rfl) (by rfl) (fun _ _ => trivial) (fun _ c s e => by cases e) (fun _ _ h => h.elim) (fun _ _ _ _ h => h.elim) (fun h => h.1.size) ?_ (fun i hi => by cases hi) ?_ ?_
 ·intro i hi V V' w h hV
  match i, hi, h, hV with
  | 0, _, h, hV => exact (hV _ (.inl rfl)).symm.trans h
  | 1, _, h, hV => exact (hV _ (.inl rfl)).symm.trans h
  | 2, _, h, hV => (obtain ⟨c, s, e⟩ := h; exact ⟨c, s, (hV 2 (.inl rfl)).symm.trans e⟩)
  | 3, _, h, hV => (show PostV _ _ _ _ _ (V' 3) _; rw [← hV 3 (.inl rfl)]; exact h)
  | 4, _, h, hV => exact ((hV 4 (.inl rfl)).symm.trans h).trans (by rw [hV 3 (.inr (by kernel_rfl))])
  | 5, _, h, hV => exact ((hV 5 (.inl rfl)).symm.trans h).trans (by rw [hV 3 (.inr (by kernel_rfl))])
  | 6, _, h, hV => exact ((hV 6 (.inl rfl)).symm.trans h).trans (by rw [hV 3 (.inr (by kernel_rfl))])
  | 7, _, h, hV => exact ((hV 7 (.inl rfl)).symm.trans h).trans (by rw [hV 3 (.inr (by kernel_rfl))])
  | 8, _, h, hV => exact ((hV 8 (.inl rfl)).symm.trans h).trans (by rw [hV 3 (.inr (by kernel_rfl))])
  | 9, _, h, hV => (obtain ⟨g, e, h⟩ := h; exact ⟨g, (hV 9 (.inl rfl)).symm.trans e, h⟩)
  | 10, _, h, hV => (obtain ⟨g, cs, e, h1, h2, h3⟩ := h; exact ⟨g, cs, (hV 9 (.inr (by kernel_rfl))).symm.trans e, h1, by rw [← hV 3 (.inr (by kernel_rfl))]; exact h2, h3⟩)
  | 11, _, h, hV => exact ((hV 11 (.inl rfl)).symm.trans h).trans (by rw [hV 6 (.inr (by kernel_rfl))])
  | 12, _, h, hV => exact ((hV 12 (.inl rfl)).symm.trans h).trans (by rw [hV 7 (.inr (by kernel_rfl))])
  | 13, _, h, hV => exact ((hV 13 (.inl rfl)).symm.trans h).trans (by rw [hV 8 (.inr (by kernel_rfl))])
  | j + 14, hj, _, _ => exact absurd hj (by simp)
 ·intro i hi oo a' w' ho hag hg hd hps hsl rem him hnd hj
  match i, hi, ho, hd, hps, hsl, him with
  | 0, _, ho, hd, hps, hsl, him =>
   (simp only [List.getElem?_toArray, List.getElem?_cons_zero, Option.some.injEq] at ho; subst ho)
   have s3 : a'.tmps[3]?.getD undef = (.pointer (some ⟨b3, 0, none⟩)) := by rw [← Array.getD_eq_getD_getElem?]; exact hag.slot 3 (by kernel_rfl)
   have r3 : a'.tmps.getD 3 undef = (.pointer (some ⟨b3, 0, none⟩)) := hag.slot 3 (by kernel_rfl)
   have hx := HR.out.turn hg.1 HRS.out
   have z0 := hx.cell 0
   have z1 := hx.cell 1
   have z2 := hx.cell 2
   have z3 := hx.cell 3
   have z4 := hx.cell 4
   have z5 := hx.cell 5
   have z6 := hx.cell 6
   have zl := hx.lt
   simp at z0 z1 z2 z3 z4 z5 z6
   clear hx
   refine HavG.tabY_val rfl (by simp) ⟨.agg #[.int .i64 r.depth.lo, .int .i64 r.depth.hi, .int .i64 r.fall.lo, .int .i64 r.fall.hi, .int .i64 r.days, .slice fa fl fc, .slice la ll lc], w', ?_, ⟨HavG.Rel.refl _ _, j3_skip (by decide) (by decide) hj (fun _ _ _ h => h) (fun _ _ _ h => h)⟩, fun _ _ _ _ _ h => h, fun _ _ _ _ h => h, fun V hV hv => hv, fun h => by simp at h⟩
   go_simp
   try rfl
  | 1, _, ho, hd, hps, hsl, him =>
   (simp only [List.getElem?_toArray, List.getElem?_cons_succ, List.getElem?_cons_zero, Option.some.injEq] at ho; subst ho)
   have s1 : a'.tmps[1]?.getD undef = (.slice ua ul uc) := by rw [← Array.getD_eq_getD_getElem?]; exact hag.slot 1 (by kernel_rfl)
   have r1 : a'.tmps.getD 1 undef = (.slice ua ul uc) := hag.slot 1 (by kernel_rfl)
   refine HavG.tabY_val rfl (by simp) ⟨.slice ua ul uc, w', ?_, ⟨HavG.Rel.refl _ _, j3_skip (by decide) (by decide) hj (fun _ _ _ h => h) (fun _ _ _ h => h)⟩, fun _ _ _ _ _ h => h, fun _ _ _ _ h => h, fun V hV hv => hv, fun h => by simp at h⟩
   go_simp
   try rfl
  | 2, _, ho, hd, hps, hsl, him =>
   (simp only [List.getElem?_toArray, List.getElem?_cons_succ, List.getElem?_cons_zero, Option.some.injEq] at ho; subst ho)
   have d44 : a'.tmps.getD 44 undef = (.slice ua ul uc) := hd 1 (by kernel_rfl) (by decide)
   have c44 : a'.tmps[44]?.getD undef = (.slice ua ul uc) := by rw [← Array.getD_eq_getD_getElem?]; exact d44
   refine HavG.tabY_call rfl (by simp) (f := 37) (args := #[.slice ua ul uc]) (by go_simp; try rfl) ((draws37_any w').mono ?_)
   rintro e w2 ⟨⟨c, s, hc, hs, rfl, hk, hz⟩, HB⟩
   exact ⟨_, rfl, ⟨⟨Turn.of_below HB, fun i => i.elim⟩, j3_new (Nat.le_trans hg.1.size hc) (Nat.le_trans hg.1.size hs) hk hz (by have := hag.2.1; rw [this]; simp)⟩, fun j V _ _ _ h => t3_grow h HB, fun _ _ _ _ h => h, fun V hV hv => ⟨c, s, hv⟩, fun h => by simp at h⟩
  | 3, _, ho, hd, hps, hsl, him =>
   (simp only [List.getElem?_toArray, List.getElem?_cons_succ, List.getElem?_cons_zero, Option.some.injEq] at ho; subst ho)
   obtain ⟨c, s, e2⟩ : ∃ c s, HavG.slot a' 45 = (.func (.func 98) #[] #[.pointer (some ⟨c, 0, none⟩), .pointer (some ⟨s, 0, none⟩)]) := hd 2 (by kernel_rfl) (by decide)
   obtain ⟨hc, hs, hk, hz⟩ := hj him c s e2
   have d45 : a'.tmps.getD 45 undef = (.func (.func 98) #[] #[.pointer (some ⟨c, 0, none⟩), .pointer (some ⟨s, 0, none⟩)]) := e2
   have c45 : a'.tmps[45]?.getD undef = (.func (.func 98) #[] #[.pointer (some ⟨c, 0, none⟩), .pointer (some ⟨s, 0, none⟩)]) := by rw [← Array.getD_eq_getD_getElem?]; exact d45
   have d43 : a'.tmps.getD 43 undef = .agg #[.int .i64 r.depth.lo, .int .i64 r.depth.hi, .int .i64 r.fall.lo, .int .i64 r.fall.hi, .int .i64 r.days, .slice fa fl fc, .slice la ll lc] := hd 0 (by kernel_rfl) (by decide)
   have c43 : a'.tmps[43]?.getD undef = .agg #[.int .i64 r.depth.lo, .int .i64 r.depth.hi, .int .i64 r.fall.lo, .int .i64 r.fall.hi, .int .i64 r.days, .slice fa fl fc, .slice la ll lc] := by rw [← Array.getD_eq_getD_getElem?]; exact d43
   have hb : Below K.heap.size K w' := hg.1.below (Nat.le_refl _) (fun b e => e)
   refine HavG.tabY_call rfl (by simp) (f := 36) (args := #[.agg #[.int .i64 r.depth.lo, .int .i64 r.depth.hi, .int .i64 r.fall.lo, .int .i64 r.fall.hi, .int .i64 r.days, .slice fa fl fc, .slice la ll lc], (.func (.func 98) #[] #[.pointer (some ⟨c, 0, none⟩), .pointer (some ⟨s, 0, none⟩)])]) (by go_simp; try rfl) ((truly36_any (N := 0) (B := K.heap.size) (ul := ul) HOK.out (HP.out.below hb) (HU.out.turn (Nat.le_refl _) hg.1 (fun b hb e => by have e' : K.heap.size ≤ b := e; omega)) hz hc hg.1.size hk.lt (blk_ne hz hk (by decide)) ⟨0, Nat.zero_le _, hk⟩ (by omega)).mono ?_)
   rintro e w2 ⟨t, lk, lv, dv, pv, rfl, h1, h2, h3, h4, ht⟩
   exact ⟨_, rfl, ⟨⟨ht.mono (fun b e => by rw [e]; exact hc), fun i => i.elim⟩, fun h => absurd h (fun h => (hnd.mem_erase_iff.1 h).1 rfl)⟩, fun j V _ hji _ h => t3_keep h ht (fun e => absurd e hji) (fun _ g hg => (by obtain ⟨u0, u1, u2, u3, u4, u5, u6, hb⟩ := hg; exact ⟨u0, u1, u2, u3, u4, u5, u6, hb.turn ht (fun e => by have e' : g = c := e; subst e'; exact blk_ne hk hb (by decide) rfl)⟩)) (fun _ g cs hb => hb.turn ht (fun e => by have e' : g = c := e; subst e'; exact blk_ne hk hb (by decide) rfl)), fun _ _ _ _ h => h, fun V hV hv => ⟨t, lk, lv, dv, pv, hv, h1, own_base h2 hg.1.size, own_base h3 hg.1.size, own_base h4 hg.1.size⟩, fun h => by simp at h⟩
  | 4, _, ho, hd, hps, hsl, him =>
   (simp only [List.getElem?_toArray, List.getElem?_cons_succ, List.getElem?_cons_zero, Option.some.injEq] at ho; subst ho)
   obtain ⟨vv, hvv⟩ : ∃ v, HavG.slot a' 46 = v := ⟨_, rfl⟩
   have d46 : a'.tmps.getD 46 undef = vv := hvv
   have c46 : a'.tmps[46]?.getD undef = vv := by rw [← Array.getD_eq_getD_getElem?]; exact d46
   refine HavG.tabY_val rfl (by simp) ⟨vv, w', ?_, ⟨HavG.Rel.refl _ _, j3_skip (by decide) (by decide) hj (fun _ _ _ h => h) (fun _ _ _ h => h)⟩, fun _ _ _ _ _ h => h, fun _ _ _ _ h => h, fun V hV hv => by show V 4 = V 3; rw [hv, hV 3 (by decide)]; exact hvv.symm, fun h => by simp at h⟩
   go_simp
  | 5, _, ho, hd, hps, hsl, him =>
   (simp only [List.getElem?_toArray, List.getElem?_cons_succ, List.getElem?_cons_zero, Option.some.injEq] at ho; subst ho)
   obtain ⟨t, lk, lv, dv, pv, e3, -⟩ : PostV K.heap.size fa fl fc r (HavG.slot a' 46) w' := hd 3 (by kernel_rfl) (by decide)
   have e4 : HavG.slot a' 42 = HavG.slot a' 46 := hd 4 (by kernel_rfl) (by decide)
   rw [e3] at e4
   have d42 : a'.tmps.getD 42 undef = .tuple #[.agg #[.int .i64 r.depth.lo, .int .i64 r.depth.hi, .int .i64 r.fall.lo, .int .i64 r.fall.hi, .int .i64 r.days, .slice fa fl fc, lv], .int .i64 t.by_, dv, pv] := e4
   have c42 : a'.tmps[42]?.getD undef = .tuple #[.agg #[.int .i64 r.depth.lo, .int .i64 r.depth.hi, .int .i64 r.fall.lo, .int .i64 r.fall.hi, .int .i64 r.days, .slice fa fl fc, lv], .int .i64 t.by_, dv, pv] := by rw [← Array.getD_eq_getD_getElem?]; exact d42
   refine HavG.tabY_val rfl (by simp) ⟨.agg #[.int .i64 r.depth.lo, .int .i64 r.depth.hi, .int .i64 r.fall.lo, .int .i64 r.fall.hi, .int .i64 r.days, .slice fa fl fc, lv], w', ?_, ⟨HavG.Rel.refl _ _, j3_skip (by decide) (by decide) hj (fun _ _ _ h => h) (fun _ _ _ h => h)⟩, fun _ _ _ _ _ h => h, fun _ _ _ _ h => h, fun V hV hv => by show V 5 = tupAt (V 3) 0; rw [hv, hV 3 (by decide)]; show _ = tupAt (HavG.slot a' 46) 0; rw [e3]; rfl, fun h => by simp at h⟩
   go_simp
   try rfl
  | 6, _, ho, hd, hps, hsl, him =>
   (simp only [List.getElem?_toArray, List.getElem?_cons_succ, List.getElem?_cons_zero, Option.some.injEq] at ho; subst ho)
   obtain ⟨t, lk, lv, dv, pv, e3, -⟩ : PostV K.heap.size fa fl fc r (HavG.slot a' 46) w' := hd 3 (by kernel_rfl) (by decide)
   have e4 : HavG.slot a' 42 = HavG.slot a' 46 := hd 4 (by kernel_rfl) (by decide)
   rw [e3] at e4
   have d42 : a'.tmps.getD 42 undef = .tuple #[.agg #[.int .i64 r.depth.lo, .int .i64 r.depth.hi, .int .i64 r.fall.lo, .int .i64 r.fall.hi, .int .i64 r.days, .slice fa fl fc, lv], .int .i64 t.by_, dv, pv] := e4
   have c42 : a'.tmps[42]?.getD undef = .tuple #[.agg #[.int .i64 r.depth.lo, .int .i64 r.depth.hi, .int .i64 r.fall.lo, .int .i64 r.fall.hi, .int .i64 r.days, .slice fa fl fc, lv], .int .i64 t.by_, dv, pv] := by rw [← Array.getD_eq_getD_getElem?]; exact d42
   refine HavG.tabY_val rfl (by simp) ⟨.int .i64 t.by_, w', ?_, ⟨HavG.Rel.refl _ _, j3_skip (by decide) (by decide) hj (fun _ _ _ h => h) (fun _ _ _ h => h)⟩, fun _ _ _ _ _ h => h, fun _ _ _ _ h => h, fun V hV hv => by show V 6 = tupAt (V 3) 1; rw [hv, hV 3 (by decide)]; show _ = tupAt (HavG.slot a' 46) 1; rw [e3]; rfl, fun h => by simp at h⟩
   go_simp
   try rfl
  | 7, _, ho, hd, hps, hsl, him =>
   (simp only [List.getElem?_toArray, List.getElem?_cons_succ, List.getElem?_cons_zero, Option.some.injEq] at ho; subst ho)
   obtain ⟨t, lk, lv, dv, pv, e3, -⟩ : PostV K.heap.size fa fl fc r (HavG.slot a' 46) w' := hd 3 (by kernel_rfl) (by decide)
   have e4 : HavG.slot a' 42 = HavG.slot a' 46 := hd 4 (by kernel_rfl) (by decide)
   rw [e3] at e4
   have d42 : a'.tmps.getD 42 undef = .tuple #[.agg #[.int .i64 r.depth.lo, .int .i64 r.depth.hi, .int .i64 r.fall.lo, .int .i64 r.fall.hi, .int .i64 r.days, .slice fa fl fc, lv], .int .i64 t.by_, dv, pv] := e4
   have c42 : a'.tmps[42]?.getD undef = .tuple #[.agg #[.int .i64 r.depth.lo, .int .i64 r.depth.hi, .int .i64 r.fall.lo, .int .i64 r.fall.hi, .int .i64 r.days, .slice fa fl fc, lv], .int .i64 t.by_, dv, pv] := by rw [← Array.getD_eq_getD_getElem?]; exact d42
   refine HavG.tabY_val rfl (by simp) ⟨dv, w', ?_, ⟨HavG.Rel.refl _ _, j3_skip (by decide) (by decide) hj (fun _ _ _ h => h) (fun _ _ _ h => h)⟩, fun _ _ _ _ _ h => h, fun _ _ _ _ h => h, fun V hV hv => by show V 7 = tupAt (V 3) 2; rw [hv, hV 3 (by decide)]; show _ = tupAt (HavG.slot a' 46) 2; rw [e3]; rfl, fun h => by simp at h⟩
   go_simp
   try rfl
  | 8, _, ho, hd, hps, hsl, him =>
   (simp only [List.getElem?_toArray, List.getElem?_cons_succ, List.getElem?_cons_zero, Option.some.injEq] at ho; subst ho)
   obtain ⟨t, lk, lv, dv, pv, e3, -⟩ : PostV K.heap.size fa fl fc r (HavG.slot a' 46) w' := hd 3 (by kernel_rfl) (by decide)
   have e4 : HavG.slot a' 42 = HavG.slot a' 46 := hd 4 (by kernel_rfl) (by decide)
   rw [e3] at e4
   have d42 : a'.tmps.getD 42 undef = .tuple #[.agg #[.int .i64 r.depth.lo, .int .i64 r.depth.hi, .int .i64 r.fall.lo, .int .i64 r.fall.hi, .int .i64 r.days, .slice fa fl fc, lv], .int .i64 t.by_, dv, pv] := e4
   have c42 : a'.tmps[42]?.getD undef = .tuple #[.agg #[.int .i64 r.depth.lo, .int .i64 r.depth.hi, .int .i64 r.fall.lo, .int .i64 r.fall.hi, .int .i64 r.days, .slice fa fl fc, lv], .int .i64 t.by_, dv, pv] := by rw [← Array.getD_eq_getD_getElem?]; exact d42
   refine HavG.tabY_val rfl (by simp) ⟨pv, w', ?_, ⟨HavG.Rel.refl _ _, j3_skip (by decide) (by decide) hj (fun _ _ _ h => h) (fun _ _ _ h => h)⟩, fun _ _ _ _ _ h => h, fun _ _ _ _ h => h, fun V hV hv => by show V 8 = tupAt (V 3) 3; rw [hv, hV 3 (by decide)]; show _ = tupAt (HavG.slot a' 46) 3; rw [e3]; rfl, fun h => by simp at h⟩
   go_simp
   try rfl
  | 9, _, ho, hd, hps, hsl, him =>
   (simp only [List.getElem?_toArray, List.getElem?_cons_succ, List.getElem?_cons_zero, Option.some.injEq] at ho; subst ho)
   have HB : Below w'.heap.size w' (w'.alloc (.cells #[.int .i64 0, .int .i64 0, .int .i64 0, .int .i64 0, .int .i64 0, .slice none 0 0, .slice none 0 0] 27)) := (Below.refl _ _).alloc (Nat.le_refl _) _
   refine HavG.tabY_val rfl (by simp) ⟨.pointer (some ⟨w'.heap.size, 0, none⟩), w'.alloc (.cells #[.int .i64 0, .int .i64 0, .int .i64 0, .int .i64 0, .int .i64 0, .slice none 0 0, .slice none 0 0] 27), ?_, ⟨⟨Turn.of_below HB, fun i => i.elim⟩, j3_skip (by decide) (by decide) hj (fun g t cs h => h.below HB h.lt) (fun g t cs h => h.below HB h.lt)⟩, fun j V _ _ _ h => t3_grow h HB, fun _ _ _ _ h => h, fun V hV hv => ⟨w'.heap.size, hv, hg.1.size, _, _, _, _, _, _, _, Blk.new w' 27 _⟩, fun h => by simp at h⟩
   go_simp
   try rfl
  | 10, _, ho, hd, hps, hsl, him =>
   (simp only [List.getElem?_toArray, List.getElem?_cons_succ, List.getElem?_cons_zero, Option.some.injEq] at ho; subst ho)
   obtain ⟨t, lk, lv, dv, pv, e3, -, hlv, -⟩ : PostV K.heap.size fa fl fc r (HavG.slot a' 46) w' := hd 3 (by kernel_rfl) (by decide)
   obtain ⟨lA, ln, lp, rfl⟩ : ∃ A n c, lv = .slice A n c := hlv.2.elim (fun h => ⟨_, _, _, h.1⟩) (fun ⟨_, _, _, h, _⟩ => ⟨_, _, _, h⟩)
   have e5 : HavG.slot a' 47 = tupAt (HavG.slot a' 46) 0 := hd 5 (by kernel_rfl) (by decide)
   rw [e3] at e5
   have d2 : a'.tmps[47]?.getD undef = .agg #[.int .i64 r.depth.lo, .int .i64 r.depth.hi, .int .i64 r.fall.lo, .int .i64 r.fall.hi, .int .i64 r.days, .slice fa fl fc, .slice lA ln lp] := by rw [← Array.getD_eq_getD_getElem?]; exact e5
   obtain ⟨g, e9, hgB, u0, u1, u2, u3, u4, u5, u6, hk7⟩ : ∃ g, HavG.slot a' 7 = .pointer (some ⟨g, 0, none⟩) ∧ K.heap.size ≤ g ∧ ∃ u0 u1 u2 u3 u4 u5 u6, Blk w' g 27 #[u0, u1, u2, u3, u4, u5, u6] := hd 9 (by kernel_rfl) (by decide)
   have d1 : a'.tmps[7]?.getD undef = .pointer (some ⟨g, 0, none⟩) := by rw [← Array.getD_eq_getD_getElem?]; exact e9
   have ts := set7_turn w' g (.int .i64 r.depth.lo) (.int .i64 r.depth.hi) (.int .i64 r.fall.lo) (.int .i64 r.fall.hi) (.int .i64 r.days) (.slice fa fl fc) (.slice lA ln lp)
   have hC : Blk (set7 w' g (.int .i64 r.depth.lo) (.int .i64 r.depth.hi) (.int .i64 r.fall.lo) (.int .i64 r.fall.hi) (.int .i64 r.days) (.slice fa fl fc) (.slice lA ln lp)) g 27 #[.int .i64 r.depth.lo, .int .i64 r.depth.hi, .int .i64 r.fall.lo, .int .i64 r.fall.hi, .int .i64 r.days, .slice fa fl fc, .slice lA ln lp] := set7_blk hk7
   have far : ∀ g' t cs, Blk w' g' t cs → t ≠ 27 → Blk (set7 w' g (.int .i64 r.depth.lo) (.int .i64 r.depth.hi) (.int .i64 r.fall.lo) (.int .i64 r.fall.hi) (.int .i64 r.days) (.slice fa fl fc) (.slice lA ln lp)) g' t cs := fun g' t cs h hn => h.turn ts (blk_ne h hk7 hn)
   refine HavG.tabY_store rfl rfl (by decide) ⟨_, storeT rfl d1 d2 hk7, ⟨⟨ts.mono (fun b e => by rw [e]; exact hgB), fun i => i.elim⟩, j3_store hj (fun g' cs h => far g' 3 cs h (by decide)) (fun g' cs h => far g' 45 cs h (by decide))⟩, fun j V _ hji _ h => t3_keep h ts (fun _ g' t cs h hn => blk_ne h hk7 hn) (fun _ g' hg' => ?_) (fun e => absurd e hji), fun _ _ _ _ h => h, fun V hV => ⟨g, _, (hV 9 (by decide)).trans e9, hgB, ?_, hC⟩⟩
   ·by_cases e : g' = g
    ·rw [e]; exact ⟨_, _, _, _, _, _, _, hC⟩
    ·obtain ⟨v0, v1, v2, v3, v4, v5, v6, hb⟩ := hg'; exact ⟨v0, v1, v2, v3, v4, v5, v6, hb.turn ts e⟩
   ·rw [hV 3 (by decide)]; show tupAt (HavG.slot a' 46) 0 = _; rw [e3]; rfl
  | 11, _, ho, hd, hps, hsl, him =>
   (simp only [List.getElem?_toArray, List.getElem?_cons_succ, List.getElem?_cons_zero, Option.some.injEq] at ho; subst ho)
   obtain ⟨vv, hvv⟩ : ∃ v, HavG.slot a' 48 = v := ⟨_, rfl⟩
   have d48 : a'.tmps.getD 48 undef = vv := hvv
   have c48 : a'.tmps[48]?.getD undef = vv := by rw [← Array.getD_eq_getD_getElem?]; exact d48
   refine HavG.tabY_val rfl (by simp) ⟨vv, w', ?_, ⟨HavG.Rel.refl _ _, j3_skip (by decide) (by decide) hj (fun _ _ _ h => h) (fun _ _ _ h => h)⟩, fun _ _ _ _ _ h => h, fun _ _ _ _ h => h, fun V hV hv => by show V 11 = V 6; rw [hv, hV 6 (by decide)]; exact hvv.symm, fun h => by simp at h⟩
   go_simp
  | 12, _, ho, hd, hps, hsl, him =>
   (simp only [List.getElem?_toArray, List.getElem?_cons_succ, List.getElem?_cons_zero, Option.some.injEq] at ho; subst ho)
   obtain ⟨vv, hvv⟩ : ∃ v, HavG.slot a' 49 = v := ⟨_, rfl⟩
   have d49 : a'.tmps.getD 49 undef = vv := hvv
   have c49 : a'.tmps[49]?.getD undef = vv := by rw [← Array.getD_eq_getD_getElem?]; exact d49
   refine HavG.tabY_val rfl (by simp) ⟨vv, w', ?_, ⟨HavG.Rel.refl _ _, j3_skip (by decide) (by decide) hj (fun _ _ _ h => h) (fun _ _ _ h => h)⟩, fun _ _ _ _ _ h => h, fun _ _ _ _ h => h, fun V hV hv => by show V 12 = V 7; rw [hv, hV 7 (by decide)]; exact hvv.symm, fun h => by simp at h⟩
   go_simp
  | 13, _, ho, hd, hps, hsl, him =>
   (simp only [List.getElem?_toArray, List.getElem?_cons_succ, List.getElem?_cons_zero, Option.some.injEq] at ho; subst ho)
   obtain ⟨vv, hvv⟩ : ∃ v, HavG.slot a' 50 = v := ⟨_, rfl⟩
   have d50 : a'.tmps.getD 50 undef = vv := hvv
   have c50 : a'.tmps[50]?.getD undef = vv := by rw [← Array.getD_eq_getD_getElem?]; exact d50
   refine HavG.tabY_val rfl (by simp) ⟨vv, w', ?_, ⟨HavG.Rel.refl _ _, j3_skip (by decide) (by decide) hj (fun _ _ _ h => h) (fun _ _ _ h => h)⟩, fun _ _ _ _ _ h => h, fun _ _ _ _ h => h, fun V hV hv => by show V 13 = V 8; rw [hv, hV 8 (by decide)]; exact hvv.symm, fun h => by simp at h⟩
   go_simp
  | j + 14, hj, _, _, _, _, _ => exact absurd hj (by simp)
 intro f w2 hg _ hf _
 have q43 : f 43 = _ := hf 0 (by decide)
 have q44 : f 44 = _ := hf 1 (by decide)
 obtain ⟨t, lk, lv, dv, pv, q46, hTI, hlv, hdv, hpv⟩ : PostV K.heap.size fa fl fc r (f 46) w2 := hf 3 (by decide)
 have q42 : f 42 = f 46 := hf 4 (by decide)
 have q47 : f 47 = tupAt (f 46) 0 := hf 5 (by decide)
 have q48 : f 48 = tupAt (f 46) 1 := hf 6 (by decide)
 have q49 : f 49 = tupAt (f 46) 2 := hf 7 (by decide)
 have q50 : f 50 = tupAt (f 46) 3 := hf 8 (by decide)
 obtain ⟨g, cs, q7, hgB, e10, hk10⟩ : ∃ g cs, f 7 = .pointer (some ⟨g, 0, none⟩) ∧ K.heap.size ≤ g ∧ tupAt (f 46) 0 = .agg cs ∧ Blk w2 g 27 cs := hf 10 (by decide)
 have q8 : f 8 = f 48 := hf 11 (by decide)
 have q9 : f 9 = f 49 := hf 12 (by decide)
 have q10 : f 10 = f 50 := hf 13 (by decide)
 rw [q48, q46] at q8
 rw [q49, q46] at q9
 rw [q50, q46] at q10
 rw [q46] at e10 q42 q47 q48 q49 q50
 have q8' : f 8 = .int .i64 t.by_ := q8
 have q9' : f 9 = dv := q9
 have q10' : f 10 = pv := q10
 obtain rfl : cs = #[.int .i64 r.depth.lo, .int .i64 r.depth.hi, .int .i64 r.fall.lo, .int .i64 r.fall.hi, .int .i64 r.days, .slice fa fl fc, lv] := by
  have e : Value.agg #[.int .i64 r.depth.lo, .int .i64 r.depth.hi, .int .i64 r.fall.lo, .int .i64 r.fall.hi, .int .i64 r.days, .slice fa fl fc, lv] = .agg cs := e10
  injection e with e
  exact e.symm
 have tg := hg.1
 have hbg : Below K.heap.size K w2 := tg.below (Nat.le_refl _) (fun b e => e)
 obtain ⟨lA, lp, -, rfl⟩ : ∃ A c, True ∧ lv = .slice A r.lk.length c := by
  rcases hlv.2 with ⟨h, h0⟩ | ⟨g, cp, _, h, _⟩
  ·exact ⟨none, 0, trivial, by rw [h, h0]⟩
  ·exact ⟨_, cp, trivial, h⟩
 have hdv' : w2.ownsRow K.heap.size 3 1 dv fl (t.ds.flatMap fun x => [nV x]) := by rw [flat_one]; exact hdv
 have hpv' : w2.ownsRow K.heap.size 3 1 pv (r.nat.days + 1) (((List.range (r.nat.days + 1)).map t.at_).flatMap fun x => [nV x]) := by rw [flat_one, List.map_map]; exact hpv
 obtain ⟨dA, dc, -, rfl, hS, -⟩ := RowN.of_own hdv' (hTI.nds.trans HFL.out)
 obtain ⟨pA, pc, -, rfl, hD, -⟩ := RowN.of_own hpv' (by simp)
 have hPx : RvIn w2 w2.heap.size fa fl lA r.lk.length (lR r lk) := ⟨HFL.out, hTI.len, (HP.out.hfr).grow hbg, RdG.of_own lkI_len (by decide) hlv (Nat.le_refl _) rfl, HMF.out.1, by have := HMF.out.2; rw [HLL.out]; exact this⟩
 have HFIN : Hid (∀ (c0 c1 c3 c4 c5 c6 c11 c12 c13 c14 c15 c16 c17 c18 c19 c20 c21 c22 c23 c24 c25 c26 c27 c28 c29 c30 c31 c32 c33 c34 c35 c36 c37 c38 c39 c40 c41 c42 c43 c44 c45 c46 c47 c48 c49 c50 c51 c52 c53 c54 c55 c56 c57 c58 c59 c60 c61 c62 c63 c64 c65 c66 c67 c68 c69 c70 c71 c72 c73 c74 c75 c76 c77 c78 c79 c80 c81 c82 c83 c84 c85 c86 c87 c88 c89 c90 c91 c92 c93 c94 c95 c96 c97 c98 c99 c100 c101 c102 c103 c104 c105 c106 c107 c108 c109 c110 c111 c112 c113 c114 c115 c116 c117 c118 c119 c120 c121 c122 c123 c124 c125 c126 c127 c128 c129 c130 c131 c132 c133 c134 c135 c136 c137 c138 c139 c140 c141 c142 c143 c144 c145 c146 c147 c148 c149 c150 c151 c152 c153 c154 c155 c156 c157 c158 c159 c160 c161 c162 c163 c164 c165 c166 c167 c168 c169 c170 c171 c172 c173 c174 c175 c176 c177 c178 c179 c180 c181 c182 c183 c184 c185 c186 c187 c188 c189 c190 c191 c192 c193 c194 c195 c196 c197 c198 c199 c200 c201 c202 c203 c204 c205 c206 c207 c208 c209 c210 c211 c212 c213 c214 c215 c216 c217 c218 c219 c220 c221 c222 c223 c224 c225 c226 c227 c228 c229 c230 c231 c232 c233 c234 c235 c236 c237 c238 c239 c240 c241 c242 c243 c244 c245 c246 c247 c248 : Value), Code.wp Try.prog (trueK 3) (bodyPost Try.prog Try.f6 (LawTrueT w0)) ⟨(c0::c1::(.int .u8 boat)::c3::c4::c5::c6::(.pointer (some ⟨g, 0, none⟩))::(.int .i64 t.by_)::(.slice dA fl dc)::(.slice pA (r.nat.days + 1) pc)::c11::c12::c13::c14::c15::c16::c17::c18::c19::c20::c21::c22::c23::c24::c25::c26::c27::c28::c29::c30::c31::c32::c33::c34::c35::c36::c37::c38::c39::c40::c41::c42::c43::c44::c45::c46::c47::c48::c49::c50::c51::c52::c53::c54::c55::c56::c57::c58::c59::c60::c61::c62::c63::c64::c65::c66::c67::c68::c69::c70::c71::c72::c73::c74::c75::c76::c77::c78::c79::c80::c81::c82::c83::c84::c85::c86::c87::c88::c89::c90::c91::c92::c93::c94::c95::c96::c97::c98::c99::c100::c101::c102::c103::c104::c105::c106::c107::c108::c109::c110::c111::c112::c113::c114::c115::c116::c117::c118::c119::c120::c121::c122::c123::c124::c125::c126::c127::c128::c129::c130::c131::c132::c133::c134::c135::c136::c137::c138::c139::c140::c141::c142::c143::c144::c145::c146::c147::c148::c149::c150::c151::c152::c153::c154::c155::c156::c157::c158::c159::c160::c161::c162::c163::c164::c165::c166::c167::c168::c169::c170::c171::c172::c173::c174::c175::c176::c177::c178::c179::c180::c181::c182::c183::c184::c185::c186::c187::c188::c189::c190::c191::c192::c193::c194::c195::c196::c197::c198::c199::c200::c201::c202::c203::c204::c205::c206::c207::c208::c209::c210::c211::c212::c213::c214::c215::c216::c217::c218::c219::c220::c221::c222::c223::c224::c225::c226::c227::c228::c229::c230::c231::c232::c233::c234::c235::c236::c237::c238::c239::c240::c241::c242::c243::c244::c245::c246::c247::c248::[]).toArray, []⟩ w2) :=
  true3 HOK.out hTI HFL.out (HB.out.trans (hbg.mono HB.out.size)) hk10 hPx hS hD boat hboat
 simp only [List.filterMap, HavG.puts, List.foldl_cons, List.foldl_nil, Act.put, List.setIfInBounds_toArray, List.set_cons_succ, List.set_cons_zero]
 rw [q43, q44, q42, q46, q47, q48, q49, q50, q7, q8', q9', q10']
 clear hf q43 q44 q42 q46 q47 q48 q49 q50 q7 q8 q9 q10 q8' q9' q10' hg tg hbg hlv hdv hpv hdv' hpv' hPx hS hD hTI hk10 e10
 go_wp2
 exact HFIN.out _ _ _ _ _ _ _ _ _ _ _ _ _ _ _ _ _ _ _ _ _ _ _ _ _ _ _ _ _ _ _ _ _ _ _ _ _ _ _ _ _ _ _ _ _ _ _ _ _ _ _ _ _ _ _ _ _ _ _ _ _ _ _ _ _ _ _ _ _ _ _ _ _ _ _ _ _ _ _ _ _ _ _ _ _ _ _ _ _ _ _ _ _ _ _ _ _ _ _ _ _ _ _ _ _ _ _ _ _ _ _ _ _ _ _ _ _ _ _ _ _ _ _ _ _ _ _ _ _ _ _ _ _ _ _ _ _ _ _ _ _ _ _ _ _ _ _ _ _ _ _ _ _ _ _ _ _ _ _ _ _ _ _ _ _ _ _ _ _ _ _ _ _ _ _ _ _ _ _ _ _ _ _ _ _ _ _ _ _ _ _ _ _ _ _ _ _ _ _ _ _ _ _ _ _ _ _ _ _ _ _ _ _ _ _ _ _ _ _ _ _ _ _ _ _ _ _ _ _ _ _ _ _ _ _ _ _ _ _ _ _ _ _ _
end
end Go.Proofs.Ytiodmkokpfgkkaa
