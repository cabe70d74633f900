/- The law RiverFalls, its loop: what depths say on each day. Condition: the five rivers' depths are so. -/
import Derived.Test.YtiodmkokpfgkkaaLawU
import Derived.Test.YtiodmkokpfgkkaaFallsP
import Derived.Test.YtiodmkokpfgkkaaHavText
namespace Go.Proofs.Ytiodmkokpfgkkaa
open Go.RowKit Go.Hav Go.Shelf Go.Sq
attribute [local go_sem] Oper.semAt_some
noncomputable def fallsK (k : Nat) : Code := dropSeq k (Try.f9.body.getD .skip)
/-- What a law leaves: it is true. -/
def LawTrueF (w : World) (e : Ending) (w' : World) : Prop := e = .returned (.bool true) ∧ Below w.heap.size w w'
/-- Depth can be called, of the river with these cells: its spans. -/
def DepF (D : Nat) (a : Nat → Nat × Nat) (w : World) (cs : Array Value) : Prop := ∀ wv, Below w.heap.size w wv → ∀ d : Nat, d ≤ D → Calls Try.prog 14 #[.agg cs, .int .i64 d] wv fun e w' => e = .returned (.tuple #[hullV (a d), .int .i64 0]) ∧ Below wv.heap.size wv w'
theorem DepF.grow {D : Nat} {a : Nat → Nat × Nat} {w w' : World} {cs : Array Value} (h : DepF D a w cs) (hb : Below w.heap.size w w') : DepF D a w' cs := fun wv hv => h wv (hb.trans (hv.mono hb.size))
section
variable {fa la : Option Addr} {fl fc ll lc : Nat} {r : IRiv} {b3 dx dy dz dt dv : Nat}
set_option maxRecDepth 100000 in
set_option maxHeartbeats 1600000 in
theorem falls11 {w0 w : World} (hB : Below w0.heap.size w0 w) (c0 c1 c2 c3 c4 c5 c6 c7 c8 c9 c10 c11 c12 c13 c14 c15 c16 c17 c18 c19 c20 c21 c22 c23 c24 c25 c26 c27 c28 c29 c30 c31 c32 c33 c34 c35 c36 c37 c38 c39 c40 c41 c42 c43 c44 c45 c46 c47 c48 c49 c50 c51 c52 c53 c54 c55 c56 c57 c58 c59 c60 c61 c62 c63 c64 c65 c66 c67 c68 c69 c70 c71 c72 c73 c74 c75 c76 c77 c78 c79 c80 c81 c82 c83 c84 c85 c86 c87 c88 c89 c90 c91 c92 c93 c94 c95 c96 c97 c98 c99 c100 c101 c102 c103 c104 c105 c106 c107 c108 c109 c110 c111 c112 c113 c114 c115 c116 c117 c118 c119 c120 c121 c122 c123 c124 c125 c126 c127 c128 c129 c130 c131 c132 c133 c134 c135 c136 c137 c138 c139 c140 c141 c142 c143 c144 c145 c146 c147 c148 c149 c150 c151 c152 c153 c154 c155 c156 c157 c158 c159 c160 c161 c162 c163 c164 c165 c166 c167 c168 c169 c170 c171 c172 c173 c174 c175 c176 c177 c178 c179 c180 c181 c182 c183 c184 c185 c186 c187 c188 c189 c190 c191 c192 c193 c194 c195 c196 c197 c198 c199 c200 c201 c202 c203 c204 c205 c206 c207 c208 c209 c210 c211 c212 c213 c214 c215 c216 c217 c218 c219 c220 c221 c222 c223 c224 c225 c226 c227 c228 c229 c230 c231 c232 c233 c234 c235 c236 c237 c238 c239 c240 : Value) : Code.wp Try.prog (fallsK 11) (bodyPost Try.prog Try.f9 (LawTrueF w0)) ⟨(c0 :: c1 :: c2 :: c3 :: c4 :: c5 :: c6 :: c7 :: c8 :: c9 :: c10 :: c11 :: c12 :: c13 :: c14 :: c15 :: c16 :: c17 :: c18 :: c19 :: c20 :: c21 :: c22 :: c23 :: c24 :: c25 :: c26 :: c27 :: c28 :: c29 :: c30 :: c31 :: c32 :: c33 :: c34 :: c35 :: c36 :: c37 :: c38 :: c39 :: c40 :: c41 :: c42 :: c43 :: c44 :: c45 :: c46 :: c47 :: c48 :: c49 :: c50 :: c51 :: c52 :: c53 :: c54 :: c55 :: c56 :: c57 :: c58 :: c59 :: c60 :: c61 :: c62 :: c63 :: c64 :: c65 :: c66 :: c67 :: c68 :: c69 :: c70 :: c71 :: c72 :: c73 :: c74 :: c75 :: c76 :: c77 :: c78 :: c79 :: c80 :: c81 :: c82 :: c83 :: c84 :: c85 :: c86 :: c87 :: c88 :: c89 :: c90 :: c91 :: c92 :: c93 :: c94 :: c95 :: c96 :: c97 :: c98 :: c99 :: c100 :: c101 :: c102 :: c103 :: c104 :: c105 :: c106 :: c107 :: c108 :: c109 :: c110 :: c111 :: c112 :: c113 :: c114 :: c115 :: c116 :: c117 :: c118 :: c119 :: c120 :: c121 :: c122 :: c123 :: c124 :: c125 :: c126 :: c127 :: c128 :: c129 :: c130 :: c131 :: c132 :: c133 :: c134 :: c135 :: c136 :: c137 :: c138 :: c139 :: c140 :: c141 :: c142 :: c143 :: c144 :: c145 :: c146 :: c147 :: c148 :: c149 :: c150 :: c151 :: c152 :: c153 :: c154 :: c155 :: c156 :: c157 :: c158 :: c159 :: c160 :: c161 :: c162 :: c163 :: c164 :: c165 :: c166 :: c167 :: c168 :: c169 :: c170 :: c171 :: c172 :: c173 :: c174 :: c175 :: c176 :: c177 :: c178 :: c179 :: c180 :: c181 :: c182 :: c183 :: c184 :: c185 :: c186 :: c187 :: c188 :: c189 :: c190 :: c191 :: c192 :: c193 :: c194 :: c195 :: c196 :: c197 :: c198 :: c199 :: c200 :: c201 :: c202 :: c203 :: c204 :: c205 :: c206 :: c207 :: c208 :: c209 :: c210 :: c211 :: c212 :: c213 :: c214 :: c215 :: c216 :: c217 :: c218 :: c219 :: c220 :: c221 :: c222 :: c223 :: c224 :: c225 :: c226 :: c227 :: c228 :: c229 :: c230 :: c231 :: c232 :: c233 :: c234 :: c235 :: c236 :: c237 :: c238 :: c239 :: c240 :: []).toArray, []⟩ w := by
  conv => arg 2; whnf
  have HB := Lib.hid hB
  clear hB
  go_wp2_with fail
  refine (alive_any w).mono ?_
  rintro e w' ⟨rfl, hb⟩
  have HB2 : Hid (Below w0.heap.size w0 w') := HB.out.trans (hb.mono HB.out.size)
  clear hb
  go_wp2
  go_ret
  exact ⟨rfl, HB2.out⟩
set_option maxRecDepth 100000 in
set_option maxHeartbeats 6400000 in
theorem falls10 {D l0 h0 FL FH : Nat} {ax ay az at_ au : Nat → Nat × Nat} {x0 x1 x2 x3 x4 x5 x6 y0 y1 y2 y3 y4 y5 y6 z0 z1 z2 z3 z4 z5 z6 t0 t1 t2 t3 t4 t5 t6 v0 v1 v2 v3 v4 v5 v6 : Value} (hD : D ≤ 10) (hl : l0 ≤ 60) (hh : h0 ≤ 60) (hFL : FL ≤ 5) (hFH : FH ≤ 5)
    (hy : ∀ d, d ≤ D → ay d = (leftF l0 FH d, leftF h0 FL d)) (hz : ∀ d, d ≤ D → (az d).1 ≤ (ax d).1 ∧ (az d).2 ≤ (ax d).2) (ht : ∀ d, d ≤ D → (ax d).1 ≤ (at_ d).1 ∧ (ax d).2 ≤ (at_ d).2) (hv : ∀ d, d ≤ D → (ax d).1 ≤ (au d).1 ∧ (ax d).2 ≤ (au d).2)
    {r0 r1 : Int} {r5 r6 : Value} {w0 w : World} (hB : Below w0.heap.size w0 w) (hR : Blk w b3 27 #[.int .i64 r0, .int .i64 r1, .int .i64 FL, .int .i64 FH, .int .i64 D, r5, r6])
    (hX : Blk w dx 27 #[x0, x1, x2, x3, x4, x5, x6]) (pX : DepF D ax w #[x0, x1, x2, x3, x4, x5, x6])
    (hY : Blk w dy 27 #[y0, y1, y2, y3, y4, y5, y6]) (pY : DepF D ay w #[y0, y1, y2, y3, y4, y5, y6])
    (hZ : Blk w dz 27 #[z0, z1, z2, z3, z4, z5, z6]) (pZ : DepF D az w #[z0, z1, z2, z3, z4, z5, z6])
    (hT : Blk w dt 27 #[t0, t1, t2, t3, t4, t5, t6]) (pT : DepF D at_ w #[t0, t1, t2, t3, t4, t5, t6])
    (hV : Blk w dv 27 #[v0, v1, v2, v3, v4, v5, v6]) (pV : DepF D au w #[v0, v1, v2, v3, v4, v5, v6])
    (c0 c1 c2 c4 c5 c6 c12 c13 c16 c17 c18 c19 c20 c21 c22 c23 c24 c25 c26 c27 c28 c29 c30 c31 c32 c33 c34 c35 c36 c37 c38 c39 c40 c41 c42 c43 c44 c45 c46 c47 c48 c49 c50 c51 c52 c53 c54 c55 c56 c57 c58 c59 c60 c61 c62 c63 c64 c65 c66 c67 c68 c69 c70 c71 c72 c73 c74 c75 c76 c77 c78 c79 c80 c81 c82 c83 c84 c85 c86 c87 c88 c89 c90 c91 c92 c93 c94 c95 c96 c97 c98 c99 c100 c101 c102 c103 c104 c105 c106 c107 c108 c109 c110 c111 c112 c113 c114 c115 c116 c117 c118 c119 c120 c121 c122 c123 c124 c125 c126 c127 c128 c129 c130 c131 c132 c133 c134 c135 c136 c137 c138 c139 c140 c141 c142 c143 c144 c145 c146 c147 c148 c149 c150 c151 c152 c153 c154 c155 c156 c157 c158 c159 c160 c161 c162 c163 c164 c165 c166 c167 c168 c169 c170 c171 c172 c173 c174 c175 c176 c177 c178 c179 c180 c181 c182 c183 c184 c185 c186 c187 c188 c189 c190 c191 c192 c193 c194 c195 c196 c197 c198 c199 c200 c201 c202 c203 c204 c205 c206 c207 c208 c209 c210 c211 c212 c213 c214 c215 c216 c217 c218 c219 c220 c221 c222 c223 c224 c225 c226 c227 c228 c229 c230 c231 c232 c233 c234 c235 c236 c237 c238 c239 c240 : Value) : Code.wp Try.prog (fallsK 10) (bodyPost Try.prog Try.f9 (LawTrueF w0)) ⟨(c0 :: c1 :: c2 :: (.pointer (some ⟨b3, 0, none⟩)) :: c4 :: c5 :: c6 :: (.pointer (some ⟨dx, 0, none⟩)) :: (.pointer (some ⟨dy, 0, none⟩)) :: (.pointer (some ⟨dz, 0, none⟩)) :: (.pointer (some ⟨dt, 0, none⟩)) :: (.pointer (some ⟨dv, 0, none⟩)) :: c12 :: c13 :: (.int .i64 (l0 : Nat)) :: (.int .i64 (h0 : Nat)) :: c16 :: c17 :: c18 :: c19 :: c20 :: c21 :: c22 :: c23 :: c24 :: c25 :: c26 :: c27 :: c28 :: c29 :: c30 :: c31 :: c32 :: c33 :: c34 :: c35 :: c36 :: c37 :: c38 :: c39 :: c40 :: c41 :: c42 :: c43 :: c44 :: c45 :: c46 :: c47 :: c48 :: c49 :: c50 :: c51 :: c52 :: c53 :: c54 :: c55 :: c56 :: c57 :: c58 :: c59 :: c60 :: c61 :: c62 :: c63 :: c64 :: c65 :: c66 :: c67 :: c68 :: c69 :: c70 :: c71 :: c72 :: c73 :: c74 :: c75 :: c76 :: c77 :: c78 :: c79 :: c80 :: c81 :: c82 :: c83 :: c84 :: c85 :: c86 :: c87 :: c88 :: c89 :: c90 :: c91 :: c92 :: c93 :: c94 :: c95 :: c96 :: c97 :: c98 :: c99 :: c100 :: c101 :: c102 :: c103 :: c104 :: c105 :: c106 :: c107 :: c108 :: c109 :: c110 :: c111 :: c112 :: c113 :: c114 :: c115 :: c116 :: c117 :: c118 :: c119 :: c120 :: c121 :: c122 :: c123 :: c124 :: c125 :: c126 :: c127 :: c128 :: c129 :: c130 :: c131 :: c132 :: c133 :: c134 :: c135 :: c136 :: c137 :: c138 :: c139 :: c140 :: c141 :: c142 :: c143 :: c144 :: c145 :: c146 :: c147 :: c148 :: c149 :: c150 :: c151 :: c152 :: c153 :: c154 :: c155 :: c156 :: c157 :: c158 :: c159 :: c160 :: c161 :: c162 :: c163 :: c164 :: c165 :: c166 :: c167 :: c168 :: c169 :: c170 :: c171 :: c172 :: c173 :: c174 :: c175 :: c176 :: c177 :: c178 :: c179 :: c180 :: c181 :: c182 :: c183 :: c184 :: c185 :: c186 :: c187 :: c188 :: c189 :: c190 :: c191 :: c192 :: c193 :: c194 :: c195 :: c196 :: c197 :: c198 :: c199 :: c200 :: c201 :: c202 :: c203 :: c204 :: c205 :: c206 :: c207 :: c208 :: c209 :: c210 :: c211 :: c212 :: c213 :: c214 :: c215 :: c216 :: c217 :: c218 :: c219 :: c220 :: c221 :: c222 :: c223 :: c224 :: c225 :: c226 :: c227 :: c228 :: c229 :: c230 :: c231 :: c232 :: c233 :: c234 :: c235 :: c236 :: c237 :: c238 :: c239 :: c240 :: []).toArray, []⟩ w := by
  conv => arg 2; whnf
  conv => arg 2; arg 2; change fallsK 11
  have HB := Lib.hid hB
  have HR := Lib.hid hR
  have HX := Lib.hid hX
  have PX := Lib.hid pX
  have HY := Lib.hid hY
  have PY := Lib.hid pY
  have HZ := Lib.hid hZ
  have PZ := Lib.hid pZ
  have HT := Lib.hid hT
  have PT := Lib.hid pT
  have HV := Lib.hid hV
  have PV := Lib.hid pV
  have IY := Lib.hid hy
  have IZ := Lib.hid hz
  have IT := Lib.hid ht
  have IV := Lib.hid hv
  clear hB hR hX pX hY pY hZ pZ hT pT hV pV hy hz ht hv
  have r2 := HR.out.cell 2
  have r3 := HR.out.cell 3
  have r4 := HR.out.cell 4
  have rl := HR.out.lt
  simp at r2 r3 r4
  go_wp2
  go_loopw [14, 15, 125] (fun lo hi i wr => ∃ (d l h : Nat), d ≤ D + 1 ∧ i = .int .i64 d ∧ lo = .int .i64 l ∧ hi = .int .i64 h ∧ Hid (leftF l0 FH (d - 1) = l ∧ leftF h0 FL (d - 1) = h) ∧ l ≤ 60 ∧ h ≤ 60 ∧ Hid (Below w.heap.size w wr)) (fun _ _ i _ => D + 1 - (intOf i).toNat)
  case atStart => exact ⟨0, l0, h0, Nat.zero_le _, rfl, rfl, rfl, ⟨rfl, rfl⟩, hl, hh, Below.refl _ _⟩
  case round =>
    obtain ⟨d, l, h, hd, rfl, rfl, rfl, HLH, hl6, hh6, HBQ⟩ := hrel
    obtain ⟨wq, rfl⟩ : ∃ wq : World, wq = wr := ⟨_, rfl⟩
    have HR0 := HR
    clear HR
    have HR := Lib.hid (HR0.out.below HBQ.out HR0.out.lt)
    have HX0 := HX
    clear HX
    have HX := Lib.hid (HX0.out.below HBQ.out HX0.out.lt)
    have HY0 := HY
    clear HY
    have HY := Lib.hid (HY0.out.below HBQ.out HY0.out.lt)
    have HZ0 := HZ
    clear HZ
    have HZ := Lib.hid (HZ0.out.below HBQ.out HZ0.out.lt)
    have HT0 := HT
    clear HT
    have HT := Lib.hid (HT0.out.below HBQ.out HT0.out.lt)
    have HV0 := HV
    clear HV
    have HV := Lib.hid (HV0.out.below HBQ.out HV0.out.lt)
    have r2 := HR.out.cell 2
    have r3 := HR.out.cell 3
    have r4 := HR.out.cell 4
    have rl := HR.out.lt
    simp at r2 r3 r4
    by_cases hdD : d ≤ D
    · obtain ⟨⟨xlo, xhi⟩, EX⟩ : ∃ v, Hid (ax d = v) := ⟨_, rfl⟩
      obtain ⟨⟨ylo, yhi⟩, EY⟩ : ∃ v, Hid (ay d = v) := ⟨_, rfl⟩
      obtain ⟨⟨zlo, zhi⟩, EZ⟩ : ∃ v, Hid (az d = v) := ⟨_, rfl⟩
      obtain ⟨⟨tlo, thi⟩, ET⟩ : ∃ v, Hid (at_ d = v) := ⟨_, rfl⟩
      obtain ⟨⟨vlo, vhi⟩, EV⟩ : ∃ v, Hid (au d = v) := ⟨_, rfl⟩
      by_cases h0d : 0 < d
      · obtain ⟨l', hl'⟩ : ∃ x, l - FH = x := ⟨_, rfl⟩
        obtain ⟨h', hh'⟩ : ∃ x, h - FL = x := ⟨_, rfl⟩
        have hm1 : ∀ w, (Builtin.max_ #[3, 3] 3 #[.int .i64 0, .int .i64 ((l : Int) - FH)]).run Try.prog w = .ok (.int .i64 l') w := fun w => by rw [max_run]; congr 2; omega
        have hm2 : ∀ w, (Builtin.max_ #[3, 3] 3 #[.int .i64 0, .int .i64 ((h : Int) - FL)]).run Try.prog w = .ok (.int .i64 h') w := fun w => by rw [max_run]; congr 2; omega
        have hw1 : IntKind.i64.wrap ((l : Int) - FH) = (l : Int) - FH := IntWalk.i64_in _ (by omega)
        have hw2 : IntKind.i64.wrap ((h : Int) - FL) = (h : Int) - FL := IntWalk.i64_in _ (by omega)
        have HLH' : Hid (leftF l0 FH d = l' ∧ leftF h0 FL d = h') := by
          obtain ⟨k, rfl⟩ : ∃ k, d = k + 1 := ⟨d - 1, by omega⟩
          obtain ⟨e1, e2⟩ := HLH.out
          rw [Nat.add_sub_cancel] at e1 e2
          exact ⟨by rw [leftF, e1, hl'], by rw [leftF, e2, hh']⟩
        have hl7 : l' ≤ 60 := by omega
        have hh7 : h' ≤ 60 := by omega
        clear hl' hh'
        go_upto_region 20 with (fail)
        refine wp_region_havoc [(0,false),(1,false),(2,false),(3,false),(4,false),(5,false),(6,false),(7,false),(8,false),(9,false),(10,false),(11,false),(12,false),(13,false)] [] (fun _ _ => False) (by kernel_rfl) (by kernel_rfl) (fun _ _ _ _ h => h.elim) ?_
        (apply hav_same (by simp only [List.getElem?_toArray, List.getElem?_cons_zero]; rfl) (by kernel_rfl); (focus (intro wv hgv _; have hcv : ∀ b o, b < _ → wv.cell? ⟨b, o, none⟩ = _ := fun b o hb => Below.cell hgv (p := ⟨b, o, none⟩) hb; (try go_simp); try rfl; done)); simp only [Act.put, List.setIfInBounds_toArray, List.set_cons_succ, List.set_cons_zero])
        iterate 13 (apply hav_same (by simp only [List.getElem?_toArray, List.getElem?_cons_succ, List.getElem?_cons_zero]; rfl) (by kernel_rfl); (focus (intro wv hgv _; have hcv : ∀ b o, b < _ → wv.cell? ⟨b, o, none⟩ = _ := fun b o hb => Below.cell hgv (p := ⟨b, o, none⟩) hb; (try go_simp); try rfl; done)); simp only [Act.put, List.setIfInBounds_toArray, List.set_cons_succ, List.set_cons_zero])
        refine hav_end (fun w5 hgw5 hF => ?_); simp only [List.filterMap]; have hcw5 : ∀ b o, b < _ → w5.cell? ⟨b, o, none⟩ = _ := fun b o hb => Below.cell hgw5 (p := ⟨b, o, none⟩) hb; have hfw5 : ∀ b o, b < _ → w5.frozen? ⟨b, o, none⟩ = _ := fun b o hb => Below.frozen hgw5 (p := ⟨b, o, none⟩) hb; have hzw5 := Below.size hgw5; (try simp at hzw5)
        have HR1 := Lib.hid (HR.out.below hgw5 HR.out.lt)
        have HX1 := Lib.hid (HX.out.below hgw5 HX.out.lt)
        have HY1 := Lib.hid (HY.out.below hgw5 HY.out.lt)
        have HZ1 := Lib.hid (HZ.out.below hgw5 HZ.out.lt)
        have HT1 := Lib.hid (HT.out.below hgw5 HT.out.lt)
        have HV1 := Lib.hid (HV.out.below hgw5 HV.out.lt)
        have HBQ1 : Hid (Below w.heap.size w w5) := HBQ.out.trans (hgw5.mono HBQ.out.size)
        clear HLH hl6 hh6 hm1 hm2 hw1 hw2 HBQ hgw5 hcw5 hfw5 hzw5 hF r2 r3 r4 rl HR HX HY HZ HT HV
        obtain ⟨HBQ, HR, HX, HY, HZ, HT, HV⟩ := And.intro HBQ1 (And.intro HR1 (And.intro HX1 (And.intro HY1 (And.intro HZ1 (And.intro HT1 HV1)))))
        clear HBQ1 HR1 HX1 HY1 HZ1 HT1 HV1
        have xc0 := HX.out.cell 0
        have xc1 := HX.out.cell 1
        have xc2 := HX.out.cell 2
        have xc3 := HX.out.cell 3
        have xc4 := HX.out.cell 4
        have xc5 := HX.out.cell 5
        have xc6 := HX.out.cell 6
        have xl := HX.out.lt
        have yc0 := HY.out.cell 0
        have yc1 := HY.out.cell 1
        have yc2 := HY.out.cell 2
        have yc3 := HY.out.cell 3
        have yc4 := HY.out.cell 4
        have yc5 := HY.out.cell 5
        have yc6 := HY.out.cell 6
        have yl := HY.out.lt
        have zc0 := HZ.out.cell 0
        have zc1 := HZ.out.cell 1
        have zc2 := HZ.out.cell 2
        have zc3 := HZ.out.cell 3
        have zc4 := HZ.out.cell 4
        have zc5 := HZ.out.cell 5
        have zc6 := HZ.out.cell 6
        have zl := HZ.out.lt
        have tc0 := HT.out.cell 0
        have tc1 := HT.out.cell 1
        have tc2 := HT.out.cell 2
        have tc3 := HT.out.cell 3
        have tc4 := HT.out.cell 4
        have tc5 := HT.out.cell 5
        have tc6 := HT.out.cell 6
        have tl := HT.out.lt
        have vc0 := HV.out.cell 0
        have vc1 := HV.out.cell 1
        have vc2 := HV.out.cell 2
        have vc3 := HV.out.cell 3
        have vc4 := HV.out.cell 4
        have vc5 := HV.out.cell 5
        have vc6 := HV.out.cell 6
        have vl := HV.out.lt
        simp at xc0 xc1 xc2 xc3 xc4 xc5 xc6 yc0 yc1 yc2 yc3 yc4 yc5 yc6 zc0 zc1 zc2 zc3 zc4 zc5 zc6 tc0 tc1 tc2 tc3 tc4 tc5 tc6 vc0 vc1 vc2 vc3 vc4 vc5 vc6
        go_wp2_with fail
        refine ((PX.out.grow (HBQ.out)) w5 (Below.refl _ _) d hdD).mono ?_
        rw [show hullV (ax d) = .agg #[.int .i64 xlo, .int .i64 xhi] by rw [EX.out]; rfl]
        rintro e Y0 ⟨rfl, hb⟩
        have HR' := Lib.hid (HR.out.below hb HR.out.lt)
        have HX' := Lib.hid (HX.out.below hb HX.out.lt)
        have HY' := Lib.hid (HY.out.below hb HY.out.lt)
        have HZ' := Lib.hid (HZ.out.below hb HZ.out.lt)
        have HT' := Lib.hid (HT.out.below hb HT.out.lt)
        have HV' := Lib.hid (HV.out.below hb HV.out.lt)
        have HBQ' : Hid (Below w.heap.size w Y0) := HBQ.out.trans (hb.mono HBQ.out.size)
        clear hb HR HBQ HX HY HZ HT HV 
        clear xc0 xc1 xc2 xc3 xc4 xc5 xc6 yc0 yc1 yc2 yc3 yc4 yc5 yc6 zc0 zc1 zc2 zc3 zc4 zc5 zc6 tc0 tc1 tc2 tc3 tc4 tc5 tc6 vc0 vc1 vc2 vc3 vc4 vc5 vc6 xl yl zl tl vl
        go_upto_region 22 with (fail)
        obtain ⟨Z0, hZ⟩ : ∃ Z, Z = Y0.alloc (.cells #[.int .i64 xlo, .int .i64 xhi] 23) := ⟨_, rfl⟩
        obtain ⟨g0, hg⟩ : ∃ g, g = Y0.heap.size := ⟨_, rfl⟩
        have HR := Lib.hid (HR'.out.alloc (.cells #[.int .i64 xlo, .int .i64 xhi] 23))
        rw [← hZ] at HR
        have HX := Lib.hid (HX'.out.alloc (.cells #[.int .i64 xlo, .int .i64 xhi] 23))
        rw [← hZ] at HX
        have HY := Lib.hid (HY'.out.alloc (.cells #[.int .i64 xlo, .int .i64 xhi] 23))
        rw [← hZ] at HY
        have HZ := Lib.hid (HZ'.out.alloc (.cells #[.int .i64 xlo, .int .i64 xhi] 23))
        rw [← hZ] at HZ
        have HT := Lib.hid (HT'.out.alloc (.cells #[.int .i64 xlo, .int .i64 xhi] 23))
        rw [← hZ] at HT
        have HV := Lib.hid (HV'.out.alloc (.cells #[.int .i64 xlo, .int .i64 xhi] 23))
        rw [← hZ] at HV
        have HBQ : Hid (Below w.heap.size w Z0) := by rw [hZ]; exact HBQ'.out.trans (((Below.refl _ _).alloc (Nat.le_refl _) _).mono HBQ'.out.size)
        have G0 : Hid (Blk Z0 g0 23 #[.int .i64 xlo, .int .i64 xhi]) := by rw [hZ, hg]; exact Blk.new Y0 23 _
        rw [← hZ, ← hg]
        clear hZ hg HBQ' HR' HX' HY' HZ' HT' HV'
        have xc0 := HX.out.cell 0
        have xc1 := HX.out.cell 1
        have xc2 := HX.out.cell 2
        have xc3 := HX.out.cell 3
        have xc4 := HX.out.cell 4
        have xc5 := HX.out.cell 5
        have xc6 := HX.out.cell 6
        have xl := HX.out.lt
        have yc0 := HY.out.cell 0
        have yc1 := HY.out.cell 1
        have yc2 := HY.out.cell 2
        have yc3 := HY.out.cell 3
        have yc4 := HY.out.cell 4
        have yc5 := HY.out.cell 5
        have yc6 := HY.out.cell 6
        have yl := HY.out.lt
        have zc0 := HZ.out.cell 0
        have zc1 := HZ.out.cell 1
        have zc2 := HZ.out.cell 2
        have zc3 := HZ.out.cell 3
        have zc4 := HZ.out.cell 4
        have zc5 := HZ.out.cell 5
        have zc6 := HZ.out.cell 6
        have zl := HZ.out.lt
        have tc0 := HT.out.cell 0
        have tc1 := HT.out.cell 1
        have tc2 := HT.out.cell 2
        have tc3 := HT.out.cell 3
        have tc4 := HT.out.cell 4
        have tc5 := HT.out.cell 5
        have tc6 := HT.out.cell 6
        have tl := HT.out.lt
        have vc0 := HV.out.cell 0
        have vc1 := HV.out.cell 1
        have vc2 := HV.out.cell 2
        have vc3 := HV.out.cell 3
        have vc4 := HV.out.cell 4
        have vc5 := HV.out.cell 5
        have vc6 := HV.out.cell 6
        have vl := HV.out.lt
        simp at xc0 xc1 xc2 xc3 xc4 xc5 xc6 yc0 yc1 yc2 yc3 yc4 yc5 yc6 zc0 zc1 zc2 zc3 zc4 zc5 zc6 tc0 tc1 tc2 tc3 tc4 tc5 tc6 vc0 vc1 vc2 vc3 vc4 vc5 vc6
        go_wp2_with fail
        refine ((PY.out.grow (HBQ.out)) Z0 (Below.refl _ _) d hdD).mono ?_
        rw [show hullV (ay d) = .agg #[.int .i64 ylo, .int .i64 yhi] by rw [EY.out]; rfl]
        rintro e Y1 ⟨rfl, hb⟩
        have HR' := Lib.hid (HR.out.below hb HR.out.lt)
        have HX' := Lib.hid (HX.out.below hb HX.out.lt)
        have HY' := Lib.hid (HY.out.below hb HY.out.lt)
        have HZ' := Lib.hid (HZ.out.below hb HZ.out.lt)
        have HT' := Lib.hid (HT.out.below hb HT.out.lt)
        have HV' := Lib.hid (HV.out.below hb HV.out.lt)
        have G0' := Lib.hid (G0.out.below hb G0.out.lt)
        have HBQ' : Hid (Below w.heap.size w Y1) := HBQ.out.trans (hb.mono HBQ.out.size)
        clear hb HR HBQ HX HY HZ HT HV G0
        clear xc0 xc1 xc2 xc3 xc4 xc5 xc6 yc0 yc1 yc2 yc3 yc4 yc5 yc6 zc0 zc1 zc2 zc3 zc4 zc5 zc6 tc0 tc1 tc2 tc3 tc4 tc5 tc6 vc0 vc1 vc2 vc3 vc4 vc5 vc6 xl yl zl tl vl
        go_upto_region 23 with (fail)
        obtain ⟨Z1, hZ⟩ : ∃ Z, Z = Y1.alloc (.cells #[.int .i64 ylo, .int .i64 yhi] 23) := ⟨_, rfl⟩
        obtain ⟨g1, hg⟩ : ∃ g, g = Y1.heap.size := ⟨_, rfl⟩
        have HR := Lib.hid (HR'.out.alloc (.cells #[.int .i64 ylo, .int .i64 yhi] 23))
        rw [← hZ] at HR
        have HX := Lib.hid (HX'.out.alloc (.cells #[.int .i64 ylo, .int .i64 yhi] 23))
        rw [← hZ] at HX
        have HY := Lib.hid (HY'.out.alloc (.cells #[.int .i64 ylo, .int .i64 yhi] 23))
        rw [← hZ] at HY
        have HZ := Lib.hid (HZ'.out.alloc (.cells #[.int .i64 ylo, .int .i64 yhi] 23))
        rw [← hZ] at HZ
        have HT := Lib.hid (HT'.out.alloc (.cells #[.int .i64 ylo, .int .i64 yhi] 23))
        rw [← hZ] at HT
        have HV := Lib.hid (HV'.out.alloc (.cells #[.int .i64 ylo, .int .i64 yhi] 23))
        rw [← hZ] at HV
        have G0 := Lib.hid (G0'.out.alloc (.cells #[.int .i64 ylo, .int .i64 yhi] 23))
        rw [← hZ] at G0
        have HBQ : Hid (Below w.heap.size w Z1) := by rw [hZ]; exact HBQ'.out.trans (((Below.refl _ _).alloc (Nat.le_refl _) _).mono HBQ'.out.size)
        have G1 : Hid (Blk Z1 g1 23 #[.int .i64 ylo, .int .i64 yhi]) := by rw [hZ, hg]; exact Blk.new Y1 23 _
        rw [← hZ, ← hg]
        clear hZ hg HBQ' HR' HX' HY' HZ' HT' HV' G0'
        have xc0 := HX.out.cell 0
        have xc1 := HX.out.cell 1
        have xc2 := HX.out.cell 2
        have xc3 := HX.out.cell 3
        have xc4 := HX.out.cell 4
        have xc5 := HX.out.cell 5
        have xc6 := HX.out.cell 6
        have xl := HX.out.lt
        have yc0 := HY.out.cell 0
        have yc1 := HY.out.cell 1
        have yc2 := HY.out.cell 2
        have yc3 := HY.out.cell 3
        have yc4 := HY.out.cell 4
        have yc5 := HY.out.cell 5
        have yc6 := HY.out.cell 6
        have yl := HY.out.lt
        have zc0 := HZ.out.cell 0
        have zc1 := HZ.out.cell 1
        have zc2 := HZ.out.cell 2
        have zc3 := HZ.out.cell 3
        have zc4 := HZ.out.cell 4
        have zc5 := HZ.out.cell 5
        have zc6 := HZ.out.cell 6
        have zl := HZ.out.lt
        have tc0 := HT.out.cell 0
        have tc1 := HT.out.cell 1
        have tc2 := HT.out.cell 2
        have tc3 := HT.out.cell 3
        have tc4 := HT.out.cell 4
        have tc5 := HT.out.cell 5
        have tc6 := HT.out.cell 6
        have tl := HT.out.lt
        have vc0 := HV.out.cell 0
        have vc1 := HV.out.cell 1
        have vc2 := HV.out.cell 2
        have vc3 := HV.out.cell 3
        have vc4 := HV.out.cell 4
        have vc5 := HV.out.cell 5
        have vc6 := HV.out.cell 6
        have vl := HV.out.lt
        simp at xc0 xc1 xc2 xc3 xc4 xc5 xc6 yc0 yc1 yc2 yc3 yc4 yc5 yc6 zc0 zc1 zc2 zc3 zc4 zc5 zc6 tc0 tc1 tc2 tc3 tc4 tc5 tc6 vc0 vc1 vc2 vc3 vc4 vc5 vc6
        go_wp2_with fail
        refine ((PZ.out.grow (HBQ.out)) Z1 (Below.refl _ _) d hdD).mono ?_
        rw [show hullV (az d) = .agg #[.int .i64 zlo, .int .i64 zhi] by rw [EZ.out]; rfl]
        rintro e Y2 ⟨rfl, hb⟩
        have HR' := Lib.hid (HR.out.below hb HR.out.lt)
        have HX' := Lib.hid (HX.out.below hb HX.out.lt)
        have HY' := Lib.hid (HY.out.below hb HY.out.lt)
        have HZ' := Lib.hid (HZ.out.below hb HZ.out.lt)
        have HT' := Lib.hid (HT.out.below hb HT.out.lt)
        have HV' := Lib.hid (HV.out.below hb HV.out.lt)
        have G0' := Lib.hid (G0.out.below hb G0.out.lt)
        have G1' := Lib.hid (G1.out.below hb G1.out.lt)
        have HBQ' : Hid (Below w.heap.size w Y2) := HBQ.out.trans (hb.mono HBQ.out.size)
        clear hb HR HBQ HX HY HZ HT HV G0 G1
        clear xc0 xc1 xc2 xc3 xc4 xc5 xc6 yc0 yc1 yc2 yc3 yc4 yc5 yc6 zc0 zc1 zc2 zc3 zc4 zc5 zc6 tc0 tc1 tc2 tc3 tc4 tc5 tc6 vc0 vc1 vc2 vc3 vc4 vc5 vc6 xl yl zl tl vl
        go_upto_region 24 with (fail)
        obtain ⟨Z2, hZ⟩ : ∃ Z, Z = Y2.alloc (.cells #[.int .i64 zlo, .int .i64 zhi] 23) := ⟨_, rfl⟩
        obtain ⟨g2, hg⟩ : ∃ g, g = Y2.heap.size := ⟨_, rfl⟩
        have HR := Lib.hid (HR'.out.alloc (.cells #[.int .i64 zlo, .int .i64 zhi] 23))
        rw [← hZ] at HR
        have HX := Lib.hid (HX'.out.alloc (.cells #[.int .i64 zlo, .int .i64 zhi] 23))
        rw [← hZ] at HX
        have HY := Lib.hid (HY'.out.alloc (.cells #[.int .i64 zlo, .int .i64 zhi] 23))
        rw [← hZ] at HY
        have HZ := Lib.hid (HZ'.out.alloc (.cells #[.int .i64 zlo, .int .i64 zhi] 23))
        rw [← hZ] at HZ
        have HT := Lib.hid (HT'.out.alloc (.cells #[.int .i64 zlo, .int .i64 zhi] 23))
        rw [← hZ] at HT
        have HV := Lib.hid (HV'.out.alloc (.cells #[.int .i64 zlo, .int .i64 zhi] 23))
        rw [← hZ] at HV
        have G0 := Lib.hid (G0'.out.alloc (.cells #[.int .i64 zlo, .int .i64 zhi] 23))
        rw [← hZ] at G0
        have G1 := Lib.hid (G1'.out.alloc (.cells #[.int .i64 zlo, .int .i64 zhi] 23))
        rw [← hZ] at G1
        have HBQ : Hid (Below w.heap.size w Z2) := by rw [hZ]; exact HBQ'.out.trans (((Below.refl _ _).alloc (Nat.le_refl _) _).mono HBQ'.out.size)
        have G2 : Hid (Blk Z2 g2 23 #[.int .i64 zlo, .int .i64 zhi]) := by rw [hZ, hg]; exact Blk.new Y2 23 _
        rw [← hZ, ← hg]
        clear hZ hg HBQ' HR' HX' HY' HZ' HT' HV' G0' G1'
        have xc0 := HX.out.cell 0
        have xc1 := HX.out.cell 1
        have xc2 := HX.out.cell 2
        have xc3 := HX.out.cell 3
        have xc4 := HX.out.cell 4
        have xc5 := HX.out.cell 5
        have xc6 := HX.out.cell 6
        have xl := HX.out.lt
        have yc0 := HY.out.cell 0
        have yc1 := HY.out.cell 1
        have yc2 := HY.out.cell 2
        have yc3 := HY.out.cell 3
        have yc4 := HY.out.cell 4
        have yc5 := HY.out.cell 5
        have yc6 := HY.out.cell 6
        have yl := HY.out.lt
        have zc0 := HZ.out.cell 0
        have zc1 := HZ.out.cell 1
        have zc2 := HZ.out.cell 2
        have zc3 := HZ.out.cell 3
        have zc4 := HZ.out.cell 4
        have zc5 := HZ.out.cell 5
        have zc6 := HZ.out.cell 6
        have zl := HZ.out.lt
        have tc0 := HT.out.cell 0
        have tc1 := HT.out.cell 1
        have tc2 := HT.out.cell 2
        have tc3 := HT.out.cell 3
        have tc4 := HT.out.cell 4
        have tc5 := HT.out.cell 5
        have tc6 := HT.out.cell 6
        have tl := HT.out.lt
        have vc0 := HV.out.cell 0
        have vc1 := HV.out.cell 1
        have vc2 := HV.out.cell 2
        have vc3 := HV.out.cell 3
        have vc4 := HV.out.cell 4
        have vc5 := HV.out.cell 5
        have vc6 := HV.out.cell 6
        have vl := HV.out.lt
        simp at xc0 xc1 xc2 xc3 xc4 xc5 xc6 yc0 yc1 yc2 yc3 yc4 yc5 yc6 zc0 zc1 zc2 zc3 zc4 zc5 zc6 tc0 tc1 tc2 tc3 tc4 tc5 tc6 vc0 vc1 vc2 vc3 vc4 vc5 vc6
        go_wp2_with fail
        refine ((PT.out.grow (HBQ.out)) Z2 (Below.refl _ _) d hdD).mono ?_
        rw [show hullV (at_ d) = .agg #[.int .i64 tlo, .int .i64 thi] by rw [ET.out]; rfl]
        rintro e Y3 ⟨rfl, hb⟩
        have HR' := Lib.hid (HR.out.below hb HR.out.lt)
        have HX' := Lib.hid (HX.out.below hb HX.out.lt)
        have HY' := Lib.hid (HY.out.below hb HY.out.lt)
        have HZ' := Lib.hid (HZ.out.below hb HZ.out.lt)
        have HT' := Lib.hid (HT.out.below hb HT.out.lt)
        have HV' := Lib.hid (HV.out.below hb HV.out.lt)
        have G0' := Lib.hid (G0.out.below hb G0.out.lt)
        have G1' := Lib.hid (G1.out.below hb G1.out.lt)
        have G2' := Lib.hid (G2.out.below hb G2.out.lt)
        have HBQ' : Hid (Below w.heap.size w Y3) := HBQ.out.trans (hb.mono HBQ.out.size)
        clear hb HR HBQ HX HY HZ HT HV G0 G1 G2
        clear xc0 xc1 xc2 xc3 xc4 xc5 xc6 yc0 yc1 yc2 yc3 yc4 yc5 yc6 zc0 zc1 zc2 zc3 zc4 zc5 zc6 tc0 tc1 tc2 tc3 tc4 tc5 tc6 vc0 vc1 vc2 vc3 vc4 vc5 vc6 xl yl zl tl vl
        go_upto_region 25 with (fail)
        obtain ⟨Z3, hZ⟩ : ∃ Z, Z = Y3.alloc (.cells #[.int .i64 tlo, .int .i64 thi] 23) := ⟨_, rfl⟩
        obtain ⟨g3, hg⟩ : ∃ g, g = Y3.heap.size := ⟨_, rfl⟩
        have HR := Lib.hid (HR'.out.alloc (.cells #[.int .i64 tlo, .int .i64 thi] 23))
        rw [← hZ] at HR
        have HX := Lib.hid (HX'.out.alloc (.cells #[.int .i64 tlo, .int .i64 thi] 23))
        rw [← hZ] at HX
        have HY := Lib.hid (HY'.out.alloc (.cells #[.int .i64 tlo, .int .i64 thi] 23))
        rw [← hZ] at HY
        have HZ := Lib.hid (HZ'.out.alloc (.cells #[.int .i64 tlo, .int .i64 thi] 23))
        rw [← hZ] at HZ
        have HT := Lib.hid (HT'.out.alloc (.cells #[.int .i64 tlo, .int .i64 thi] 23))
        rw [← hZ] at HT
        have HV := Lib.hid (HV'.out.alloc (.cells #[.int .i64 tlo, .int .i64 thi] 23))
        rw [← hZ] at HV
        have G0 := Lib.hid (G0'.out.alloc (.cells #[.int .i64 tlo, .int .i64 thi] 23))
        rw [← hZ] at G0
        have G1 := Lib.hid (G1'.out.alloc (.cells #[.int .i64 tlo, .int .i64 thi] 23))
        rw [← hZ] at G1
        have G2 := Lib.hid (G2'.out.alloc (.cells #[.int .i64 tlo, .int .i64 thi] 23))
        rw [← hZ] at G2
        have HBQ : Hid (Below w.heap.size w Z3) := by rw [hZ]; exact HBQ'.out.trans (((Below.refl _ _).alloc (Nat.le_refl _) _).mono HBQ'.out.size)
        have G3 : Hid (Blk Z3 g3 23 #[.int .i64 tlo, .int .i64 thi]) := by rw [hZ, hg]; exact Blk.new Y3 23 _
        rw [← hZ, ← hg]
        clear hZ hg HBQ' HR' HX' HY' HZ' HT' HV' G0' G1' G2'
        have xc0 := HX.out.cell 0
        have xc1 := HX.out.cell 1
        have xc2 := HX.out.cell 2
        have xc3 := HX.out.cell 3
        have xc4 := HX.out.cell 4
        have xc5 := HX.out.cell 5
        have xc6 := HX.out.cell 6
        have xl := HX.out.lt
        have yc0 := HY.out.cell 0
        have yc1 := HY.out.cell 1
        have yc2 := HY.out.cell 2
        have yc3 := HY.out.cell 3
        have yc4 := HY.out.cell 4
        have yc5 := HY.out.cell 5
        have yc6 := HY.out.cell 6
        have yl := HY.out.lt
        have zc0 := HZ.out.cell 0
        have zc1 := HZ.out.cell 1
        have zc2 := HZ.out.cell 2
        have zc3 := HZ.out.cell 3
        have zc4 := HZ.out.cell 4
        have zc5 := HZ.out.cell 5
        have zc6 := HZ.out.cell 6
        have zl := HZ.out.lt
        have tc0 := HT.out.cell 0
        have tc1 := HT.out.cell 1
        have tc2 := HT.out.cell 2
        have tc3 := HT.out.cell 3
        have tc4 := HT.out.cell 4
        have tc5 := HT.out.cell 5
        have tc6 := HT.out.cell 6
        have tl := HT.out.lt
        have vc0 := HV.out.cell 0
        have vc1 := HV.out.cell 1
        have vc2 := HV.out.cell 2
        have vc3 := HV.out.cell 3
        have vc4 := HV.out.cell 4
        have vc5 := HV.out.cell 5
        have vc6 := HV.out.cell 6
        have vl := HV.out.lt
        simp at xc0 xc1 xc2 xc3 xc4 xc5 xc6 yc0 yc1 yc2 yc3 yc4 yc5 yc6 zc0 zc1 zc2 zc3 zc4 zc5 zc6 tc0 tc1 tc2 tc3 tc4 tc5 tc6 vc0 vc1 vc2 vc3 vc4 vc5 vc6
        go_wp2_with fail
        refine ((PV.out.grow (HBQ.out)) Z3 (Below.refl _ _) d hdD).mono ?_
        rw [show hullV (au d) = .agg #[.int .i64 vlo, .int .i64 vhi] by rw [EV.out]; rfl]
        rintro e Y4 ⟨rfl, hb⟩
        have HR' := Lib.hid (HR.out.below hb HR.out.lt)
        have HX' := Lib.hid (HX.out.below hb HX.out.lt)
        have HY' := Lib.hid (HY.out.below hb HY.out.lt)
        have HZ' := Lib.hid (HZ.out.below hb HZ.out.lt)
        have HT' := Lib.hid (HT.out.below hb HT.out.lt)
        have HV' := Lib.hid (HV.out.below hb HV.out.lt)
        have G0' := Lib.hid (G0.out.below hb G0.out.lt)
        have G1' := Lib.hid (G1.out.below hb G1.out.lt)
        have G2' := Lib.hid (G2.out.below hb G2.out.lt)
        have G3' := Lib.hid (G3.out.below hb G3.out.lt)
        have HBQ' : Hid (Below w.heap.size w Y4) := HBQ.out.trans (hb.mono HBQ.out.size)
        clear hb HR HBQ HX HY HZ HT HV G0 G1 G2 G3
        clear xc0 xc1 xc2 xc3 xc4 xc5 xc6 yc0 yc1 yc2 yc3 yc4 yc5 yc6 zc0 zc1 zc2 zc3 zc4 zc5 zc6 tc0 tc1 tc2 tc3 tc4 tc5 tc6 vc0 vc1 vc2 vc3 vc4 vc5 vc6 xl yl zl tl vl
        go_upto_region 26 with (fail)
        obtain ⟨Z4, hZ⟩ : ∃ Z, Z = Y4.alloc (.cells #[.int .i64 vlo, .int .i64 vhi] 23) := ⟨_, rfl⟩
        obtain ⟨g4, hg⟩ : ∃ g, g = Y4.heap.size := ⟨_, rfl⟩
        have HR := Lib.hid (HR'.out.alloc (.cells #[.int .i64 vlo, .int .i64 vhi] 23))
        rw [← hZ] at HR
        have HX := Lib.hid (HX'.out.alloc (.cells #[.int .i64 vlo, .int .i64 vhi] 23))
        rw [← hZ] at HX
        have HY := Lib.hid (HY'.out.alloc (.cells #[.int .i64 vlo, .int .i64 vhi] 23))
        rw [← hZ] at HY
        have HZ := Lib.hid (HZ'.out.alloc (.cells #[.int .i64 vlo, .int .i64 vhi] 23))
        rw [← hZ] at HZ
        have HT := Lib.hid (HT'.out.alloc (.cells #[.int .i64 vlo, .int .i64 vhi] 23))
        rw [← hZ] at HT
        have HV := Lib.hid (HV'.out.alloc (.cells #[.int .i64 vlo, .int .i64 vhi] 23))
        rw [← hZ] at HV
        have G0 := Lib.hid (G0'.out.alloc (.cells #[.int .i64 vlo, .int .i64 vhi] 23))
        rw [← hZ] at G0
        have G1 := Lib.hid (G1'.out.alloc (.cells #[.int .i64 vlo, .int .i64 vhi] 23))
        rw [← hZ] at G1
        have G2 := Lib.hid (G2'.out.alloc (.cells #[.int .i64 vlo, .int .i64 vhi] 23))
        rw [← hZ] at G2
        have G3 := Lib.hid (G3'.out.alloc (.cells #[.int .i64 vlo, .int .i64 vhi] 23))
        rw [← hZ] at G3
        have HBQ : Hid (Below w.heap.size w Z4) := by rw [hZ]; exact HBQ'.out.trans (((Below.refl _ _).alloc (Nat.le_refl _) _).mono HBQ'.out.size)
        have G4 : Hid (Blk Z4 g4 23 #[.int .i64 vlo, .int .i64 vhi]) := by rw [hZ, hg]; exact Blk.new Y4 23 _
        rw [← hZ, ← hg]
        clear hZ hg HBQ' HR' HX' HY' HZ' HT' HV' G0' G1' G2' G3'
        have g00 := G0.out.cell 0
        have g01 := G0.out.cell 1
        have g0l := G0.out.lt
        have g10 := G1.out.cell 0
        have g11 := G1.out.cell 1
        have g1l := G1.out.lt
        have g20 := G2.out.cell 0
        have g21 := G2.out.cell 1
        have g2l := G2.out.lt
        have g30 := G3.out.cell 0
        have g31 := G3.out.cell 1
        have g3l := G3.out.lt
        have g40 := G4.out.cell 0
        have g41 := G4.out.cell 1
        have g4l := G4.out.lt
        simp at g00 g01 g10 g11 g20 g21 g30 g31 g40 g41
        have hE := EY.out.symm.trans (IY.out d hdD)
        rw [HLH'.out.1, HLH'.out.2] at hE
        injection hE with hE1 hE2
        subst hE1 hE2
        have q1 := IZ.out d hdD
        have q2 := IT.out d hdD
        have q3 := IV.out d hdD
        rw [EX.out, EZ.out] at q1
        rw [EX.out, ET.out] at q2
        rw [EX.out, EV.out] at q3
        simp only at q1 q2 q3
        have k1 : ¬ (xlo : Int) < (zlo : Int) := by omega
        have k2 : ¬ (xhi : Int) < (zhi : Int) := by omega
        have k3 : ¬ (tlo : Int) < (xlo : Int) := by omega
        have k4 : ¬ (thi : Int) < (xhi : Int) := by omega
        have k5 : ¬ (vlo : Int) < (xlo : Int) := by omega
        have k6 : ¬ (vhi : Int) < (xhi : Int) := by omega
        clear q1 q2 q3
        go_upto_region 26 with (fail)
        refine wp_region_havoc [(0,false),(1,false),(2,false),(3,false),(4,false),(5,false),(6,false),(7,false),(8,false),(9,false),(10,false),(11,false),(12,false),(13,false),(14,false),(15,false),(16,false),(17,false),(18,false),(19,false),(20,false),(21,false),(22,false),(23,false),(24,false),(25,false),(26,false),(27,false),(28,false),(29,false),(30,false),(31,false),(32,false),(33,false),(34,false),(35,false),(36,false),(37,false),(38,false),(39,false),(40,false),(41,false),(42,false),(43,false),(44,false),(45,false),(46,false),(47,false),(48,false),(49,false),(50,false),(51,false),(52,false),(53,false),(54,false),(55,false),(56,false),(57,false),(58,false),(59,false),(60,false),(61,false),(62,false),(63,false),(64,false),(65,false),(66,false)] [] (fun _ _ => False) (by kernel_rfl) (by kernel_rfl) (fun _ _ _ _ h => h.elim) ?_
        iterate 22 (first | (refine hav_skip (by simp only [List.getElem?_toArray]; rfl) (by rfl) ?_; simp only [Act.put, List.setIfInBounds_toArray, List.set_cons_succ, List.set_cons_zero]) | (apply hav_same (by simp only [List.getElem?_toArray]; rfl) (by kernel_rfl); (focus (intro wv hgv _; have hcv : ∀ b o, b < _ → wv.cell? ⟨b, o, none⟩ = _ := fun b o hb => Below.cell hgv (p := ⟨b, o, none⟩) hb; (try go_simp); try rfl; done)); simp only [Act.put, List.setIfInBounds_toArray, List.set_cons_succ, List.set_cons_zero]))
        (apply hav_call (by simp only [List.getElem?_toArray]; rfl) (by kernel_rfl); (focus (intro wv; go_simp; try exact ⟨rfl, rfl⟩; done)); (focus (intro wv hgv _; exact lspan_any _ _ wv; done)); simp only [Act.put, List.setIfInBounds_toArray, List.set_cons_succ, List.set_cons_zero])
        iterate 44 (first | (refine hav_skip (by simp only [List.getElem?_toArray]; rfl) (by rfl) ?_; simp only [Act.put, List.setIfInBounds_toArray, List.set_cons_succ, List.set_cons_zero]) | (apply hav_same (by simp only [List.getElem?_toArray]; rfl) (by kernel_rfl); (focus (intro wv hgv _; have hcv : ∀ b o, b < _ → wv.cell? ⟨b, o, none⟩ = _ := fun b o hb => Below.cell hgv (p := ⟨b, o, none⟩) hb; (try go_simp); try rfl; done)); simp only [Act.put, List.setIfInBounds_toArray, List.set_cons_succ, List.set_cons_zero]))
        refine hav_end (fun Z5 hgz _ => ?_)
        simp only [List.filterMap]
        have HBQ' : Hid (Below w.heap.size w Z5) := HBQ.out.trans (hgz.mono HBQ.out.size)
        clear hgz
        go_wp2
        go_roundw
        case rel => exact ⟨d + 1, ylo, yhi, by omega, by go_num, rfl, rfl, ⟨by rw [Nat.add_sub_cancel]; exact HLH'.out.1, by rw [Nat.add_sub_cancel]; exact HLH'.out.2⟩, by assumption, by assumption, HBQ'⟩
        case measure => simp [intOf]; omega
      · obtain ⟨l', hl'⟩ : ∃ x, l = x := ⟨_, rfl⟩
        obtain ⟨h', hh'⟩ : ∃ x, h = x := ⟨_, rfl⟩
        have h0i : ¬ (0 : Int) < (d : Int) := by omega
        have HLH' : Hid (leftF l0 FH d = l' ∧ leftF h0 FL d = h') := by
          obtain rfl : d = 0 := by omega
          rw [← hl', ← hh']
          exact HLH.out
        subst hl' hh'
        have hl7 := hl6
        have hh7 := hh6
        clear HLH hl6 hh6 r2 r3 r4 rl
        obtain ⟨w5, hw5⟩ : ∃ x, x = wq := ⟨_, rfl⟩
        subst hw5
        have xc0 := HX.out.cell 0
        have xc1 := HX.out.cell 1
        have xc2 := HX.out.cell 2
        have xc3 := HX.out.cell 3
        have xc4 := HX.out.cell 4
        have xc5 := HX.out.cell 5
        have xc6 := HX.out.cell 6
        have xl := HX.out.lt
        have yc0 := HY.out.cell 0
        have yc1 := HY.out.cell 1
        have yc2 := HY.out.cell 2
        have yc3 := HY.out.cell 3
        have yc4 := HY.out.cell 4
        have yc5 := HY.out.cell 5
        have yc6 := HY.out.cell 6
        have yl := HY.out.lt
        have zc0 := HZ.out.cell 0
        have zc1 := HZ.out.cell 1
        have zc2 := HZ.out.cell 2
        have zc3 := HZ.out.cell 3
        have zc4 := HZ.out.cell 4
        have zc5 := HZ.out.cell 5
        have zc6 := HZ.out.cell 6
        have zl := HZ.out.lt
        have tc0 := HT.out.cell 0
        have tc1 := HT.out.cell 1
        have tc2 := HT.out.cell 2
        have tc3 := HT.out.cell 3
        have tc4 := HT.out.cell 4
        have tc5 := HT.out.cell 5
        have tc6 := HT.out.cell 6
        have tl := HT.out.lt
        have vc0 := HV.out.cell 0
        have vc1 := HV.out.cell 1
        have vc2 := HV.out.cell 2
        have vc3 := HV.out.cell 3
        have vc4 := HV.out.cell 4
        have vc5 := HV.out.cell 5
        have vc6 := HV.out.cell 6
        have vl := HV.out.lt
        simp at xc0 xc1 xc2 xc3 xc4 xc5 xc6 yc0 yc1 yc2 yc3 yc4 yc5 yc6 zc0 zc1 zc2 zc3 zc4 zc5 zc6 tc0 tc1 tc2 tc3 tc4 tc5 tc6 vc0 vc1 vc2 vc3 vc4 vc5 vc6
        go_wp2_with fail
        refine ((PX.out.grow (HBQ.out)) w5 (Below.refl _ _) d hdD).mono ?_
        rw [show hullV (ax d) = .agg #[.int .i64 xlo, .int .i64 xhi] by rw [EX.out]; rfl]
        rintro e Y0 ⟨rfl, hb⟩
        have HR' := Lib.hid (HR.out.below hb HR.out.lt)
        have HX' := Lib.hid (HX.out.below hb HX.out.lt)
        have HY' := Lib.hid (HY.out.below hb HY.out.lt)
        have HZ' := Lib.hid (HZ.out.below hb HZ.out.lt)
        have HT' := Lib.hid (HT.out.below hb HT.out.lt)
        have HV' := Lib.hid (HV.out.below hb HV.out.lt)
        have HBQ' : Hid (Below w.heap.size w Y0) := HBQ.out.trans (hb.mono HBQ.out.size)
        clear hb HR HBQ HX HY HZ HT HV 
        clear xc0 xc1 xc2 xc3 xc4 xc5 xc6 yc0 yc1 yc2 yc3 yc4 yc5 yc6 zc0 zc1 zc2 zc3 zc4 zc5 zc6 tc0 tc1 tc2 tc3 tc4 tc5 tc6 vc0 vc1 vc2 vc3 vc4 vc5 vc6 xl yl zl tl vl
        go_upto_region 22 with (fail)
        obtain ⟨Z0, hZ⟩ : ∃ Z, Z = Y0.alloc (.cells #[.int .i64 xlo, .int .i64 xhi] 23) := ⟨_, rfl⟩
        obtain ⟨g0, hg⟩ : ∃ g, g = Y0.heap.size := ⟨_, rfl⟩
        have HR := Lib.hid (HR'.out.alloc (.cells #[.int .i64 xlo, .int .i64 xhi] 23))
        rw [← hZ] at HR
        have HX := Lib.hid (HX'.out.alloc (.cells #[.int .i64 xlo, .int .i64 xhi] 23))
        rw [← hZ] at HX
        have HY := Lib.hid (HY'.out.alloc (.cells #[.int .i64 xlo, .int .i64 xhi] 23))
        rw [← hZ] at HY
        have HZ := Lib.hid (HZ'.out.alloc (.cells #[.int .i64 xlo, .int .i64 xhi] 23))
        rw [← hZ] at HZ
        have HT := Lib.hid (HT'.out.alloc (.cells #[.int .i64 xlo, .int .i64 xhi] 23))
        rw [← hZ] at HT
        have HV := Lib.hid (HV'.out.alloc (.cells #[.int .i64 xlo, .int .i64 xhi] 23))
        rw [← hZ] at HV
        have HBQ : Hid (Below w.heap.size w Z0) := by rw [hZ]; exact HBQ'.out.trans (((Below.refl _ _).alloc (Nat.le_refl _) _).mono HBQ'.out.size)
        have G0 : Hid (Blk Z0 g0 23 #[.int .i64 xlo, .int .i64 xhi]) := by rw [hZ, hg]; exact Blk.new Y0 23 _
        rw [← hZ, ← hg]
        clear hZ hg HBQ' HR' HX' HY' HZ' HT' HV'
        have xc0 := HX.out.cell 0
        have xc1 := HX.out.cell 1
        have xc2 := HX.out.cell 2
        have xc3 := HX.out.cell 3
        have xc4 := HX.out.cell 4
        have xc5 := HX.out.cell 5
        have xc6 := HX.out.cell 6
        have xl := HX.out.lt
        have yc0 := HY.out.cell 0
        have yc1 := HY.out.cell 1
        have yc2 := HY.out.cell 2
        have yc3 := HY.out.cell 3
        have yc4 := HY.out.cell 4
        have yc5 := HY.out.cell 5
        have yc6 := HY.out.cell 6
        have yl := HY.out.lt
        have zc0 := HZ.out.cell 0
        have zc1 := HZ.out.cell 1
        have zc2 := HZ.out.cell 2
        have zc3 := HZ.out.cell 3
        have zc4 := HZ.out.cell 4
        have zc5 := HZ.out.cell 5
        have zc6 := HZ.out.cell 6
        have zl := HZ.out.lt
        have tc0 := HT.out.cell 0
        have tc1 := HT.out.cell 1
        have tc2 := HT.out.cell 2
        have tc3 := HT.out.cell 3
        have tc4 := HT.out.cell 4
        have tc5 := HT.out.cell 5
        have tc6 := HT.out.cell 6
        have tl := HT.out.lt
        have vc0 := HV.out.cell 0
        have vc1 := HV.out.cell 1
        have vc2 := HV.out.cell 2
        have vc3 := HV.out.cell 3
        have vc4 := HV.out.cell 4
        have vc5 := HV.out.cell 5
        have vc6 := HV.out.cell 6
        have vl := HV.out.lt
        simp at xc0 xc1 xc2 xc3 xc4 xc5 xc6 yc0 yc1 yc2 yc3 yc4 yc5 yc6 zc0 zc1 zc2 zc3 zc4 zc5 zc6 tc0 tc1 tc2 tc3 tc4 tc5 tc6 vc0 vc1 vc2 vc3 vc4 vc5 vc6
        go_wp2_with fail
        refine ((PY.out.grow (HBQ.out)) Z0 (Below.refl _ _) d hdD).mono ?_
        rw [show hullV (ay d) = .agg #[.int .i64 ylo, .int .i64 yhi] by rw [EY.out]; rfl]
        rintro e Y1 ⟨rfl, hb⟩
        have HR' := Lib.hid (HR.out.below hb HR.out.lt)
        have HX' := Lib.hid (HX.out.below hb HX.out.lt)
        have HY' := Lib.hid (HY.out.below hb HY.out.lt)
        have HZ' := Lib.hid (HZ.out.below hb HZ.out.lt)
        have HT' := Lib.hid (HT.out.below hb HT.out.lt)
        have HV' := Lib.hid (HV.out.below hb HV.out.lt)
        have G0' := Lib.hid (G0.out.below hb G0.out.lt)
        have HBQ' : Hid (Below w.heap.size w Y1) := HBQ.out.trans (hb.mono HBQ.out.size)
        clear hb HR HBQ HX HY HZ HT HV G0
        clear xc0 xc1 xc2 xc3 xc4 xc5 xc6 yc0 yc1 yc2 yc3 yc4 yc5 yc6 zc0 zc1 zc2 zc3 zc4 zc5 zc6 tc0 tc1 tc2 tc3 tc4 tc5 tc6 vc0 vc1 vc2 vc3 vc4 vc5 vc6 xl yl zl tl vl
        go_upto_region 23 with (fail)
        obtain ⟨Z1, hZ⟩ : ∃ Z, Z = Y1.alloc (.cells #[.int .i64 ylo, .int .i64 yhi] 23) := ⟨_, rfl⟩
        obtain ⟨g1, hg⟩ : ∃ g, g = Y1.heap.size := ⟨_, rfl⟩
        have HR := Lib.hid (HR'.out.alloc (.cells #[.int .i64 ylo, .int .i64 yhi] 23))
        rw [← hZ] at HR
        have HX := Lib.hid (HX'.out.alloc (.cells #[.int .i64 ylo, .int .i64 yhi] 23))
        rw [← hZ] at HX
        have HY := Lib.hid (HY'.out.alloc (.cells #[.int .i64 ylo, .int .i64 yhi] 23))
        rw [← hZ] at HY
        have HZ := Lib.hid (HZ'.out.alloc (.cells #[.int .i64 ylo, .int .i64 yhi] 23))
        rw [← hZ] at HZ
        have HT := Lib.hid (HT'.out.alloc (.cells #[.int .i64 ylo, .int .i64 yhi] 23))
        rw [← hZ] at HT
        have HV := Lib.hid (HV'.out.alloc (.cells #[.int .i64 ylo, .int .i64 yhi] 23))
        rw [← hZ] at HV
        have G0 := Lib.hid (G0'.out.alloc (.cells #[.int .i64 ylo, .int .i64 yhi] 23))
        rw [← hZ] at G0
        have HBQ : Hid (Below w.heap.size w Z1) := by rw [hZ]; exact HBQ'.out.trans (((Below.refl _ _).alloc (Nat.le_refl _) _).mono HBQ'.out.size)
        have G1 : Hid (Blk Z1 g1 23 #[.int .i64 ylo, .int .i64 yhi]) := by rw [hZ, hg]; exact Blk.new Y1 23 _
        rw [← hZ, ← hg]
        clear hZ hg HBQ' HR' HX' HY' HZ' HT' HV' G0'
        have xc0 := HX.out.cell 0
        have xc1 := HX.out.cell 1
        have xc2 := HX.out.cell 2
        have xc3 := HX.out.cell 3
        have xc4 := HX.out.cell 4
        have xc5 := HX.out.cell 5
        have xc6 := HX.out.cell 6
        have xl := HX.out.lt
        have yc0 := HY.out.cell 0
        have yc1 := HY.out.cell 1
        have yc2 := HY.out.cell 2
        have yc3 := HY.out.cell 3
        have yc4 := HY.out.cell 4
        have yc5 := HY.out.cell 5
        have yc6 := HY.out.cell 6
        have yl := HY.out.lt
        have zc0 := HZ.out.cell 0
        have zc1 := HZ.out.cell 1
        have zc2 := HZ.out.cell 2
        have zc3 := HZ.out.cell 3
        have zc4 := HZ.out.cell 4
        have zc5 := HZ.out.cell 5
        have zc6 := HZ.out.cell 6
        have zl := HZ.out.lt
        have tc0 := HT.out.cell 0
        have tc1 := HT.out.cell 1
        have tc2 := HT.out.cell 2
        have tc3 := HT.out.cell 3
        have tc4 := HT.out.cell 4
        have tc5 := HT.out.cell 5
        have tc6 := HT.out.cell 6
        have tl := HT.out.lt
        have vc0 := HV.out.cell 0
        have vc1 := HV.out.cell 1
        have vc2 := HV.out.cell 2
        have vc3 := HV.out.cell 3
        have vc4 := HV.out.cell 4
        have vc5 := HV.out.cell 5
        have vc6 := HV.out.cell 6
        have vl := HV.out.lt
        simp at xc0 xc1 xc2 xc3 xc4 xc5 xc6 yc0 yc1 yc2 yc3 yc4 yc5 yc6 zc0 zc1 zc2 zc3 zc4 zc5 zc6 tc0 tc1 tc2 tc3 tc4 tc5 tc6 vc0 vc1 vc2 vc3 vc4 vc5 vc6
        go_wp2_with fail
        refine ((PZ.out.grow (HBQ.out)) Z1 (Below.refl _ _) d hdD).mono ?_
        rw [show hullV (az d) = .agg #[.int .i64 zlo, .int .i64 zhi] by rw [EZ.out]; rfl]
        rintro e Y2 ⟨rfl, hb⟩
        have HR' := Lib.hid (HR.out.below hb HR.out.lt)
        have HX' := Lib.hid (HX.out.below hb HX.out.lt)
        have HY' := Lib.hid (HY.out.below hb HY.out.lt)
        have HZ' := Lib.hid (HZ.out.below hb HZ.out.lt)
        have HT' := Lib.hid (HT.out.below hb HT.out.lt)
        have HV' := Lib.hid (HV.out.below hb HV.out.lt)
        have G0' := Lib.hid (G0.out.below hb G0.out.lt)
        have G1' := Lib.hid (G1.out.below hb G1.out.lt)
        have HBQ' : Hid (Below w.heap.size w Y2) := HBQ.out.trans (hb.mono HBQ.out.size)
        clear hb HR HBQ HX HY HZ HT HV G0 G1
        clear xc0 xc1 xc2 xc3 xc4 xc5 xc6 yc0 yc1 yc2 yc3 yc4 yc5 yc6 zc0 zc1 zc2 zc3 zc4 zc5 zc6 tc0 tc1 tc2 tc3 tc4 tc5 tc6 vc0 vc1 vc2 vc3 vc4 vc5 vc6 xl yl zl tl vl
        go_upto_region 24 with (fail)
        obtain ⟨Z2, hZ⟩ : ∃ Z, Z = Y2.alloc (.cells #[.int .i64 zlo, .int .i64 zhi] 23) := ⟨_, rfl⟩
        obtain ⟨g2, hg⟩ : ∃ g, g = Y2.heap.size := ⟨_, rfl⟩
        have HR := Lib.hid (HR'.out.alloc (.cells #[.int .i64 zlo, .int .i64 zhi] 23))
        rw [← hZ] at HR
        have HX := Lib.hid (HX'.out.alloc (.cells #[.int .i64 zlo, .int .i64 zhi] 23))
        rw [← hZ] at HX
        have HY := Lib.hid (HY'.out.alloc (.cells #[.int .i64 zlo, .int .i64 zhi] 23))
        rw [← hZ] at HY
        have HZ := Lib.hid (HZ'.out.alloc (.cells #[.int .i64 zlo, .int .i64 zhi] 23))
        rw [← hZ] at HZ
        have HT := Lib.hid (HT'.out.alloc (.cells #[.int .i64 zlo, .int .i64 zhi] 23))
        rw [← hZ] at HT
        have HV := Lib.hid (HV'.out.alloc (.cells #[.int .i64 zlo, .int .i64 zhi] 23))
        rw [← hZ] at HV
        have G0 := Lib.hid (G0'.out.alloc (.cells #[.int .i64 zlo, .int .i64 zhi] 23))
        rw [← hZ] at G0
        have G1 := Lib.hid (G1'.out.alloc (.cells #[.int .i64 zlo, .int .i64 zhi] 23))
        rw [← hZ] at G1
        have HBQ : Hid (Below w.heap.size w Z2) := by rw [hZ]; exact HBQ'.out.trans (((Below.refl _ _).alloc (Nat.le_refl _) _).mono HBQ'.out.size)
        have G2 : Hid (Blk Z2 g2 23 #[.int .i64 zlo, .int .i64 zhi]) := by rw [hZ, hg]; exact Blk.new Y2 23 _
        rw [← hZ, ← hg]
        clear hZ hg HBQ' HR' HX' HY' HZ' HT' HV' G0' G1'
        have xc0 := HX.out.cell 0
        have xc1 := HX.out.cell 1
        have xc2 := HX.out.cell 2
        have xc3 := HX.out.cell 3
        have xc4 := HX.out.cell 4
        have xc5 := HX.out.cell 5
        have xc6 := HX.out.cell 6
        have xl := HX.out.lt
        have yc0 := HY.out.cell 0
        have yc1 := HY.out.cell 1
        have yc2 := HY.out.cell 2
        have yc3 := HY.out.cell 3
        have yc4 := HY.out.cell 4
        have yc5 := HY.out.cell 5
        have yc6 := HY.out.cell 6
        have yl := HY.out.lt
        have zc0 := HZ.out.cell 0
        have zc1 := HZ.out.cell 1
        have zc2 := HZ.out.cell 2
        have zc3 := HZ.out.cell 3
        have zc4 := HZ.out.cell 4
        have zc5 := HZ.out.cell 5
        have zc6 := HZ.out.cell 6
        have zl := HZ.out.lt
        have tc0 := HT.out.cell 0
        have tc1 := HT.out.cell 1
        have tc2 := HT.out.cell 2
        have tc3 := HT.out.cell 3
        have tc4 := HT.out.cell 4
        have tc5 := HT.out.cell 5
        have tc6 := HT.out.cell 6
        have tl := HT.out.lt
        have vc0 := HV.out.cell 0
        have vc1 := HV.out.cell 1
        have vc2 := HV.out.cell 2
        have vc3 := HV.out.cell 3
        have vc4 := HV.out.cell 4
        have vc5 := HV.out.cell 5
        have vc6 := HV.out.cell 6
        have vl := HV.out.lt
        simp at xc0 xc1 xc2 xc3 xc4 xc5 xc6 yc0 yc1 yc2 yc3 yc4 yc5 yc6 zc0 zc1 zc2 zc3 zc4 zc5 zc6 tc0 tc1 tc2 tc3 tc4 tc5 tc6 vc0 vc1 vc2 vc3 vc4 vc5 vc6
        go_wp2_with fail
        refine ((PT.out.grow (HBQ.out)) Z2 (Below.refl _ _) d hdD).mono ?_
        rw [show hullV (at_ d) = .agg #[.int .i64 tlo, .int .i64 thi] by rw [ET.out]; rfl]
        rintro e Y3 ⟨rfl, hb⟩
        have HR' := Lib.hid (HR.out.below hb HR.out.lt)
        have HX' := Lib.hid (HX.out.below hb HX.out.lt)
        have HY' := Lib.hid (HY.out.below hb HY.out.lt)
        have HZ' := Lib.hid (HZ.out.below hb HZ.out.lt)
        have HT' := Lib.hid (HT.out.below hb HT.out.lt)
        have HV' := Lib.hid (HV.out.below hb HV.out.lt)
        have G0' := Lib.hid (G0.out.below hb G0.out.lt)
        have G1' := Lib.hid (G1.out.below hb G1.out.lt)
        have G2' := Lib.hid (G2.out.below hb G2.out.lt)
        have HBQ' : Hid (Below w.heap.size w Y3) := HBQ.out.trans (hb.mono HBQ.out.size)
        clear hb HR HBQ HX HY HZ HT HV G0 G1 G2
        clear xc0 xc1 xc2 xc3 xc4 xc5 xc6 yc0 yc1 yc2 yc3 yc4 yc5 yc6 zc0 zc1 zc2 zc3 zc4 zc5 zc6 tc0 tc1 tc2 tc3 tc4 tc5 tc6 vc0 vc1 vc2 vc3 vc4 vc5 vc6 xl yl zl tl vl
        go_upto_region 25 with (fail)
        obtain ⟨Z3, hZ⟩ : ∃ Z, Z = Y3.alloc (.cells #[.int .i64 tlo, .int .i64 thi] 23) := ⟨_, rfl⟩
        obtain ⟨g3, hg⟩ : ∃ g, g = Y3.heap.size := ⟨_, rfl⟩
        have HR := Lib.hid (HR'.out.alloc (.cells #[.int .i64 tlo, .int .i64 thi] 23))
        rw [← hZ] at HR
        have HX := Lib.hid (HX'.out.alloc (.cells #[.int .i64 tlo, .int .i64 thi] 23))
        rw [← hZ] at HX
        have HY := Lib.hid (HY'.out.alloc (.cells #[.int .i64 tlo, .int .i64 thi] 23))
        rw [← hZ] at HY
        have HZ := Lib.hid (HZ'.out.alloc (.cells #[.int .i64 tlo, .int .i64 thi] 23))
        rw [← hZ] at HZ
        have HT := Lib.hid (HT'.out.alloc (.cells #[.int .i64 tlo, .int .i64 thi] 23))
        rw [← hZ] at HT
        have HV := Lib.hid (HV'.out.alloc (.cells #[.int .i64 tlo, .int .i64 thi] 23))
        rw [← hZ] at HV
        have G0 := Lib.hid (G0'.out.alloc (.cells #[.int .i64 tlo, .int .i64 thi] 23))
        rw [← hZ] at G0
        have G1 := Lib.hid (G1'.out.alloc (.cells #[.int .i64 tlo, .int .i64 thi] 23))
        rw [← hZ] at G1
        have G2 := Lib.hid (G2'.out.alloc (.cells #[.int .i64 tlo, .int .i64 thi] 23))
        rw [← hZ] at G2
        have HBQ : Hid (Below w.heap.size w Z3) := by rw [hZ]; exact HBQ'.out.trans (((Below.refl _ _).alloc (Nat.le_refl _) _).mono HBQ'.out.size)
        have G3 : Hid (Blk Z3 g3 23 #[.int .i64 tlo, .int .i64 thi]) := by rw [hZ, hg]; exact Blk.new Y3 23 _
        rw [← hZ, ← hg]
        clear hZ hg HBQ' HR' HX' HY' HZ' HT' HV' G0' G1' G2'
        have xc0 := HX.out.cell 0
        have xc1 := HX.out.cell 1
        have xc2 := HX.out.cell 2
        have xc3 := HX.out.cell 3
        have xc4 := HX.out.cell 4
        have xc5 := HX.out.cell 5
        have xc6 := HX.out.cell 6
        have xl := HX.out.lt
        have yc0 := HY.out.cell 0
        have yc1 := HY.out.cell 1
        have yc2 := HY.out.cell 2
        have yc3 := HY.out.cell 3
        have yc4 := HY.out.cell 4
        have yc5 := HY.out.cell 5
        have yc6 := HY.out.cell 6
        have yl := HY.out.lt
        have zc0 := HZ.out.cell 0
        have zc1 := HZ.out.cell 1
        have zc2 := HZ.out.cell 2
        have zc3 := HZ.out.cell 3
        have zc4 := HZ.out.cell 4
        have zc5 := HZ.out.cell 5
        have zc6 := HZ.out.cell 6
        have zl := HZ.out.lt
        have tc0 := HT.out.cell 0
        have tc1 := HT.out.cell 1
        have tc2 := HT.out.cell 2
        have tc3 := HT.out.cell 3
        have tc4 := HT.out.cell 4
        have tc5 := HT.out.cell 5
        have tc6 := HT.out.cell 6
        have tl := HT.out.lt
        have vc0 := HV.out.cell 0
        have vc1 := HV.out.cell 1
        have vc2 := HV.out.cell 2
        have vc3 := HV.out.cell 3
        have vc4 := HV.out.cell 4
        have vc5 := HV.out.cell 5
        have vc6 := HV.out.cell 6
        have vl := HV.out.lt
        simp at xc0 xc1 xc2 xc3 xc4 xc5 xc6 yc0 yc1 yc2 yc3 yc4 yc5 yc6 zc0 zc1 zc2 zc3 zc4 zc5 zc6 tc0 tc1 tc2 tc3 tc4 tc5 tc6 vc0 vc1 vc2 vc3 vc4 vc5 vc6
        go_wp2_with fail
        refine ((PV.out.grow (HBQ.out)) Z3 (Below.refl _ _) d hdD).mono ?_
        rw [show hullV (au d) = .agg #[.int .i64 vlo, .int .i64 vhi] by rw [EV.out]; rfl]
        rintro e Y4 ⟨rfl, hb⟩
        have HR' := Lib.hid (HR.out.below hb HR.out.lt)
        have HX' := Lib.hid (HX.out.below hb HX.out.lt)
        have HY' := Lib.hid (HY.out.below hb HY.out.lt)
        have HZ' := Lib.hid (HZ.out.below hb HZ.out.lt)
        have HT' := Lib.hid (HT.out.below hb HT.out.lt)
        have HV' := Lib.hid (HV.out.below hb HV.out.lt)
        have G0' := Lib.hid (G0.out.below hb G0.out.lt)
        have G1' := Lib.hid (G1.out.below hb G1.out.lt)
        have G2' := Lib.hid (G2.out.below hb G2.out.lt)
        have G3' := Lib.hid (G3.out.below hb G3.out.lt)
        have HBQ' : Hid (Below w.heap.size w Y4) := HBQ.out.trans (hb.mono HBQ.out.size)
        clear hb HR HBQ HX HY HZ HT HV G0 G1 G2 G3
        clear xc0 xc1 xc2 xc3 xc4 xc5 xc6 yc0 yc1 yc2 yc3 yc4 yc5 yc6 zc0 zc1 zc2 zc3 zc4 zc5 zc6 tc0 tc1 tc2 tc3 tc4 tc5 tc6 vc0 vc1 vc2 vc3 vc4 vc5 vc6 xl yl zl tl vl
        go_upto_region 26 with (fail)
        obtain ⟨Z4, hZ⟩ : ∃ Z, Z = Y4.alloc (.cells #[.int .i64 vlo, .int .i64 vhi] 23) := ⟨_, rfl⟩
        obtain ⟨g4, hg⟩ : ∃ g, g = Y4.heap.size := ⟨_, rfl⟩
        have HR := Lib.hid (HR'.out.alloc (.cells #[.int .i64 vlo, .int .i64 vhi] 23))
        rw [← hZ] at HR
        have HX := Lib.hid (HX'.out.alloc (.cells #[.int .i64 vlo, .int .i64 vhi] 23))
        rw [← hZ] at HX
        have HY := Lib.hid (HY'.out.alloc (.cells #[.int .i64 vlo, .int .i64 vhi] 23))
        rw [← hZ] at HY
        have HZ := Lib.hid (HZ'.out.alloc (.cells #[.int .i64 vlo, .int .i64 vhi] 23))
        rw [← hZ] at HZ
        have HT := Lib.hid (HT'.out.alloc (.cells #[.int .i64 vlo, .int .i64 vhi] 23))
        rw [← hZ] at HT
        have HV := Lib.hid (HV'.out.alloc (.cells #[.int .i64 vlo, .int .i64 vhi] 23))
        rw [← hZ] at HV
        have G0 := Lib.hid (G0'.out.alloc (.cells #[.int .i64 vlo, .int .i64 vhi] 23))
        rw [← hZ] at G0
        have G1 := Lib.hid (G1'.out.alloc (.cells #[.int .i64 vlo, .int .i64 vhi] 23))
        rw [← hZ] at G1
        have G2 := Lib.hid (G2'.out.alloc (.cells #[.int .i64 vlo, .int .i64 vhi] 23))
        rw [← hZ] at G2
        have G3 := Lib.hid (G3'.out.alloc (.cells #[.int .i64 vlo, .int .i64 vhi] 23))
        rw [← hZ] at G3
        have HBQ : Hid (Below w.heap.size w Z4) := by rw [hZ]; exact HBQ'.out.trans (((Below.refl _ _).alloc (Nat.le_refl _) _).mono HBQ'.out.size)
        have G4 : Hid (Blk Z4 g4 23 #[.int .i64 vlo, .int .i64 vhi]) := by rw [hZ, hg]; exact Blk.new Y4 23 _
        rw [← hZ, ← hg]
        clear hZ hg HBQ' HR' HX' HY' HZ' HT' HV' G0' G1' G2' G3'
        have g00 := G0.out.cell 0
        have g01 := G0.out.cell 1
        have g0l := G0.out.lt
        have g10 := G1.out.cell 0
        have g11 := G1.out.cell 1
        have g1l := G1.out.lt
        have g20 := G2.out.cell 0
        have g21 := G2.out.cell 1
        have g2l := G2.out.lt
        have g30 := G3.out.cell 0
        have g31 := G3.out.cell 1
        have g3l := G3.out.lt
        have g40 := G4.out.cell 0
        have g41 := G4.out.cell 1
        have g4l := G4.out.lt
        simp at g00 g01 g10 g11 g20 g21 g30 g31 g40 g41
        have hE := EY.out.symm.trans (IY.out d hdD)
        rw [HLH'.out.1, HLH'.out.2] at hE
        injection hE with hE1 hE2
        subst hE1 hE2
        have q1 := IZ.out d hdD
        have q2 := IT.out d hdD
        have q3 := IV.out d hdD
        rw [EX.out, EZ.out] at q1
        rw [EX.out, ET.out] at q2
        rw [EX.out, EV.out] at q3
        simp only at q1 q2 q3
        have k1 : ¬ (xlo : Int) < (zlo : Int) := by omega
        have k2 : ¬ (xhi : Int) < (zhi : Int) := by omega
        have k3 : ¬ (tlo : Int) < (xlo : Int) := by omega
        have k4 : ¬ (thi : Int) < (xhi : Int) := by omega
        have k5 : ¬ (vlo : Int) < (xlo : Int) := by omega
        have k6 : ¬ (vhi : Int) < (xhi : Int) := by omega
        clear q1 q2 q3
        go_upto_region 26 with (fail)
        refine wp_region_havoc [(0,false),(1,false),(2,false),(3,false),(4,false),(5,false),(6,false),(7,false),(8,false),(9,false),(10,false),(11,false),(12,false),(13,false),(14,false),(15,false),(16,false),(17,false),(18,false),(19,false),(20,false),(21,false),(22,false),(23,false),(24,false),(25,false),(26,false),(27,false),(28,false),(29,false),(30,false),(31,false),(32,false),(33,false),(34,false),(35,false),(36,false),(37,false),(38,false),(39,false),(40,false),(41,false),(42,false),(43,false),(44,false),(45,false),(46,false),(47,false),(48,false),(49,false),(50,false),(51,false),(52,false),(53,false),(54,false),(55,false),(56,false),(57,false),(58,false),(59,false),(60,false),(61,false),(62,false),(63,false),(64,false),(65,false),(66,false)] [] (fun _ _ => False) (by kernel_rfl) (by kernel_rfl) (fun _ _ _ _ h => h.elim) ?_
        iterate 22 (first | (refine hav_skip (by simp only [List.getElem?_toArray]; rfl) (by rfl) ?_; simp only [Act.put, List.setIfInBounds_toArray, List.set_cons_succ, List.set_cons_zero]) | (apply hav_same (by simp only [List.getElem?_toArray]; rfl) (by kernel_rfl); (focus (intro wv hgv _; have hcv : ∀ b o, b < _ → wv.cell? ⟨b, o, none⟩ = _ := fun b o hb => Below.cell hgv (p := ⟨b, o, none⟩) hb; (try go_simp); try rfl; done)); simp only [Act.put, List.setIfInBounds_toArray, List.set_cons_succ, List.set_cons_zero]))
        (apply hav_call (by simp only [List.getElem?_toArray]; rfl) (by kernel_rfl); (focus (intro wv; go_simp; try exact ⟨rfl, rfl⟩; done)); (focus (intro wv hgv _; exact lspan_any _ _ wv; done)); simp only [Act.put, List.setIfInBounds_toArray, List.set_cons_succ, List.set_cons_zero])
        iterate 44 (first | (refine hav_skip (by simp only [List.getElem?_toArray]; rfl) (by rfl) ?_; simp only [Act.put, List.setIfInBounds_toArray, List.set_cons_succ, List.set_cons_zero]) | (apply hav_same (by simp only [List.getElem?_toArray]; rfl) (by kernel_rfl); (focus (intro wv hgv _; have hcv : ∀ b o, b < _ → wv.cell? ⟨b, o, none⟩ = _ := fun b o hb => Below.cell hgv (p := ⟨b, o, none⟩) hb; (try go_simp); try rfl; done)); simp only [Act.put, List.setIfInBounds_toArray, List.set_cons_succ, List.set_cons_zero]))
        refine hav_end (fun Z5 hgz _ => ?_)
        simp only [List.filterMap]
        have HBQ' : Hid (Below w.heap.size w Z5) := HBQ.out.trans (hgz.mono HBQ.out.size)
        clear hgz
        go_wp2
        go_roundw
        case rel => exact ⟨d + 1, ylo, yhi, by omega, by go_num, rfl, rfl, ⟨by rw [Nat.add_sub_cancel]; exact HLH'.out.1, by rw [Nat.add_sub_cancel]; exact HLH'.out.2⟩, by assumption, by assumption, HBQ'⟩
        case measure => simp [intOf]; omega
    · obtain rfl : d = D + 1 := by omega
      go_wp2
      exact falls11 (HB.out.trans (HBQ.out.mono HB.out.size)) _ _ _ _ _ _ _ _ _ _ _ _ _ _ _ _ _ _ _ _ _ _ _ _ _ _ _ _ _ _ _ _ _ _ _ _ _ _ _ _ _ _ _ _ _ _ _ _ _ _ _ _ _ _ _ _ _ _ _ _ _ _ _ _ _ _ _ _ _ _ _ _ _ _ _ _ _ _ _ _ _ _ _ _ _ _ _ _ _ _ _ _ _ _ _ _ _ _ _ _ _ _ _ _ _ _ _ _ _ _ _ _ _ _ _ _ _ _ _ _ _ _ _ _ _ _ _ _ _ _ _ _ _ _ _ _ _ _ _ _ _ _ _ _ _ _ _ _ _ _ _ _ _ _ _ _ _ _ _ _ _ _ _ _ _ _ _ _ _ _ _ _ _ _ _ _ _ _ _ _ _ _ _ _ _ _ _ _ _ _ _ _ _ _ _ _ _ _ _ _ _ _ _ _ _ _ _ _ _ _ _ _ _ _ _ _ _ _ _ _ _ _ _ _ _ _ _ _ _ _ _ _ _ _ _ _ _ _ _ _ _
end
end Go.Proofs.Ytiodmkokpfgkkaa
