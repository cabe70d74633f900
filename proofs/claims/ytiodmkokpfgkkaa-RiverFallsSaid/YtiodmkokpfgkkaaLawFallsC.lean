/- The law RiverFalls: the copies of the freshes, one of which is less, one of which brings more. Conditions: what the boxes hold, as hypotheses. -/
import Derived.Test.YtiodmkokpfgkkaaLawFallsB
import Derived.BigRegion
namespace Go.Proofs.Ytiodmkokpfgkkaa
open Go.RowKit Go.Hav Go.Shelf Go.Sq
attribute [local go_sem] Oper.semAt_some
def regionOf : Nat → Code → Option (Array Oper)
  | n, .region k ops _ => if k = n then some ops else none
  | n, .seq a b => (regionOf n a).orElse fun _ => regionOf n b
  | n, .block _ a => regionOf n a
  | n, .loop a => regionOf n a
  | _, _ => none
theorem infoE55 : (Try.prog.info? 55).map (fun i => (i.zero, i.size, i.bytes)) = some (some (.agg #[.int .i64 0, .int .i64 0, .int .i64 0, .int .i64 0]), 4, 32) := by kernel_rfl
theorem frI_one (x : IFr) : ∀ u ∈ frI x, u.oneCell' = true := by
  intro u hu
  simp [frI] at hu
  rcases hu with rfl | rfl | rfl | rfl <;> rfl
theorem run_slTo24 {a : Act} {w : World} {o : Oper} {ca : Option Addr} {cl cc m d e : Nat} (ho : o.op = .slice 24 (.tmp d) none (some (.tmp e)) none) (h1 : HavG.slot a d = .slice ca cl cc) (h2 : HavG.slot a e = .int .i64 (m : Nat)) (hm : m ≤ cc) :
    (execOp a.eval o).run Try.prog w = .ok (.value (.slice ca m cc)) w := by
  unfold HavG.slot at h1 h2
  unfold execOp
  rw [ho]
  have hu := Try.underlying24
  go_simp
theorem run_slFrom24 {a : Act} {w : World} {o : Oper} {ca : Option Addr} {cl cc m d e : Nat} (ho : o.op = .slice 24 (.tmp d) (some (.tmp e)) none none) (h1 : HavG.slot a d = .slice ca cl cc) (h2 : HavG.slot a e = .int .i64 (m : Nat)) (hm : m ≤ cl) (_hc : cl ≤ cc) :
    (execOp a.eval o).run Try.prog w = .ok (.value (.slice (if cc = m then ca else ca.map (·.add (m * 4))) (cl - m) (cc - m))) w := by
  unfold HavG.slot at h1 h2
  unfold execOp
  rw [ho]
  have hu := Try.underlying24
  by_cases hcm : cc = m
  · rw [if_pos hcm]
    go_simp
  · rw [if_neg hcm]
    go_simp
theorem own_cell {w : World} {B n c g e sz : Nat} {xs : List Value} (h : w.ownsRow B e sz (.slice (some ⟨g, 0, none⟩) n c) n xs) (j : Nat) (x : Value) (hx : xs[j]? = some x) : w.cell? ⟨g, j, none⟩ = some x := by
  have := h.cells (g := g) rfl j x hx
  unfold Addr.add at this
  split at this
  · rename_i hz; subst hz; exact this
  · simpa using this
section
variable {b3 dx dy dz dt dv gz gt fb fo fl fc ll lc cz ct k B : Nat} {la : Option Addr} {r : IRiv} {w w' : World}
def fall10T (B dz gz b3 fb fo fl fc cz k : Nat) (r : IRiv) (i : Nat) (v : Value) (w : World) : Prop :=
  match i with
  | 0 => v = .pointer (some ⟨dz, 5, none⟩)
  | 1 => v = .slice (some ⟨gz, 0, none⟩) fl cz
  | 2 => v = .int .i64 k
  | 3 => v = .slice (some ⟨gz, 0, none⟩) k cz
  | 4 => v = .pointer (some ⟨b3, 5, none⟩)
  | 5 => v = .slice (some ⟨fb, fo, none⟩) fl fc
  | 6 => v = .int .i64 k
  | 7 => v = .int .i64 ((k + 1 : Nat) : Int)
  | 8 => v = .slice (if fc = k + 1 then some (⟨fb, fo, none⟩ : Addr) else (some (⟨fb, fo, none⟩ : Addr)).map (·.add ((k + 1) * 4))) (fl - (k + 1)) (fc - (k + 1))
  | 9 => v = .slice (some ⟨gz, 0, none⟩) (fl - 1) cz ∧ w.ownsRow B 55 4 (.slice (some ⟨gz, 0, none⟩) (fl - 1) cz) (fl - 1) ((r.fr.eraseIdx k).flatMap frI)
  | 10 => v = .pointer (some ⟨dz, 5, none⟩)
  | _ => Blk w dz 27 #[.int .i64 r.depth.lo, .int .i64 r.depth.hi, .int .i64 r.fall.lo, .int .i64 r.fall.hi, .int .i64 r.days, .slice (some ⟨gz, 0, none⟩) (fl - 1) cz, .slice none 0 0]
def fall10S (B dz gz fl cz : Nat) (r : IRiv) (i : Nat) (w : World) : Prop :=
  match i with
  | 1 => Blk w dz 27 #[.int .i64 r.depth.lo, .int .i64 r.depth.hi, .int .i64 r.fall.lo, .int .i64 r.fall.hi, .int .i64 r.days, .slice (some ⟨gz, 0, none⟩) fl cz, .slice none 0 0]
  | 9 => w.ownsRow B 55 4 (.slice (some ⟨gz, 0, none⟩) fl cz) fl (r.fr.flatMap frI)
  | 11 => Blk w dz 27 #[.int .i64 r.depth.lo, .int .i64 r.depth.hi, .int .i64 r.fall.lo, .int .i64 r.fall.hi, .int .i64 r.days, .slice (some ⟨gz, 0, none⟩) fl cz, .slice none 0 0]
  | _ => True
theorem fall10_zero (hz : Blk w dz 27 #[.int .i64 r.depth.lo, .int .i64 r.depth.hi, .int .i64 r.fall.lo, .int .i64 r.fall.hi, .int .i64 r.days, .slice (some ⟨gz, 0, none⟩) fl cz, .slice none 0 0]) (ho : w.ownsRow B 55 4 (.slice (some ⟨gz, 0, none⟩) fl cz) fl (r.fr.flatMap frI)) (i : Nat) : fall10S B dz gz fl cz r i { w with drawn := w.drawn + 1 } := by
  have hb : Below w.heap.size w { w with drawn := w.drawn + 1 } := Below.drew (Below.refl _ _)
  unfold fall10S
  split
  · exact hz.below hb hz.lt
  · exact own_below ho hb
  · exact hz.below hb hz.lt
  · trivial
theorem fall10F : ∀ (i : Bool) (w w' : World), Below w.heap.size w w' → (if i then w.ownsRow B 55 4 (.slice (some ⟨gz, 0, none⟩) (fl - 1) cz) (fl - 1) ((r.fr.eraseIdx k).flatMap frI) else Blk w dz 27 #[.int .i64 r.depth.lo, .int .i64 r.depth.hi, .int .i64 r.fall.lo, .int .i64 r.fall.hi, .int .i64 r.days, .slice (some ⟨gz, 0, none⟩) (fl - 1) cz, .slice none 0 0]) → (if i then w'.ownsRow B 55 4 (.slice (some ⟨gz, 0, none⟩) (fl - 1) cz) (fl - 1) ((r.fr.eraseIdx k).flatMap frI) else Blk w' dz 27 #[.int .i64 r.depth.lo, .int .i64 r.depth.hi, .int .i64 r.fall.lo, .int .i64 r.fall.hi, .int .i64 r.days, .slice (some ⟨gz, 0, none⟩) (fl - 1) cz, .slice none 0 0]) := fun i _ _ hb =>
  match i with
  | true => fun h => own_below h hb
  | false => fun h => Blk.below h hb (Blk.lt h)
theorem fall10_keep {i : Nat} {v : Value} (h : fall10T B dz gz b3 fb fo fl fc cz k r i v w) (hG : (TP (fun x => x = gz ∨ x = dz) (fun (i : Bool) w => if i then w.ownsRow B 55 4 (.slice (some ⟨gz, 0, none⟩) (fl - 1) cz) (fl - 1) ((r.fr.eraseIdx k).flatMap frI) else Blk w dz 27 #[.int .i64 r.depth.lo, .int .i64 r.depth.hi, .int .i64 r.fall.lo, .int .i64 r.fall.hi, .int .i64 r.days, .slice (some ⟨gz, 0, none⟩) (fl - 1) cz, .slice none 0 0]) (fall10F)).G w w') : fall10T B dz gz b3 fb fo fl fc cz k r i v w' := by
  unfold fall10T at h ⊢
  split at h
  · exact h
  · exact h
  · exact h
  · exact h
  · exact h
  · exact h
  · exact h
  · exact h
  · exact h
  · exact ⟨h.1, hG.2 true h.2⟩
  · exact h
  · exact hG.2 false h
/-- The depths of the river that falls more slowly. -/
def auF (r : IRiv) (d : Nat) : Nat × Nat := if 0 < r.fall.lo then depthP (uR r).nat d else depthP (xR r).nat d
theorem au_falls (hok : okR r = true) (d : Nat) : (depthP (xR r).nat d).1 ≤ (auF r d).1 ∧ (depthP (xR r).nat d).2 ≤ (auF r d).2 := by
  unfold auF
  split
  · rename_i h; exact u_falls hok h d
  · exact ⟨Nat.le_refl _, Nat.le_refl _⟩
section
variable {fa : Option Addr} {w0 : World}
theorem dep_x (hok : okR r = true) (hP : RvIn w0 w0.heap.size fa fl la ll r) (hb : Below w0.heap.size w0 w') : DepF r.nat.days (depthP (xR r).nat) w' #[.int .i64 r.depth.lo, .int .i64 r.depth.hi, .int .i64 r.fall.lo, .int .i64 r.fall.hi, .int .i64 r.days, .slice fa fl fc, .slice none 0 0] :=
  DepF.of (r := xR r) (fa := fa) (fl := fl) (fc := fc) (la := none) (ll := 0) (lc := 0) (x_ok hok) (free_truths (x_ok hok) rfl) ⟨hP.efl, rfl, hP.hfr.grow hb, RdG.nil _ _ _ _ _, hP.mfl, by omega⟩
theorem dep_y (hok : okR r = true) (_hb : Below w0.heap.size w0 w') : DepF r.nat.days (depthP (yR r).nat) w' #[.int .i64 r.depth.lo, .int .i64 r.depth.hi, .int .i64 r.fall.lo, .int .i64 r.fall.hi, .int .i64 r.days, .slice none 0 0, .slice none 0 0] :=
  DepF.of (r := yR r) (fa := none) (fl := 0) (fc := 0) (la := none) (ll := 0) (lc := 0) (y_ok hok) (free_truths (y_ok hok) rfl) ⟨rfl, rfl, RdG.nil _ _ _ _ _, RdG.nil _ _ _ _ _, by omega, by omega⟩
theorem dep_v0 (hok : okR r = true) (hP : RvIn w0 w0.heap.size fa fl la ll r) (h0 : ¬ 0 < r.fall.lo) (hb : Below w0.heap.size w0 w') : DepF r.nat.days (auF r) w' #[.int .i64 r.depth.lo, .int .i64 r.depth.hi, .int .i64 r.fall.lo, .int .i64 r.fall.hi, .int .i64 r.days, .slice fa fl fc, .slice none 0 0] := by
  have e : auF r = depthP (xR r).nat := funext fun d => by unfold auF; rw [if_neg h0]
  rw [e]; exact dep_x hok hP hb
theorem dep_v1 (hok : okR r = true) (hP : RvIn w0 w0.heap.size fa fl la ll r) (h0 : 0 < r.fall.lo) (hb : Below w0.heap.size w0 w') : DepF r.nat.days (auF r) w' #[.int .i64 r.depth.lo, .int .i64 r.depth.hi, .int .i64 (r.fall.lo - 1), .int .i64 (r.fall.hi - 1), .int .i64 r.days, .slice fa fl fc, .slice none 0 0] := by
  have e : auF r = depthP (uR r).nat := funext fun d => by unfold auF; rw [if_pos h0]
  rw [e]
  exact DepF.of (r := uR r) (fa := fa) (fl := fl) (fc := fc) (la := none) (ll := 0) (lc := 0) (u_ok hok h0) (free_truths (u_ok hok h0) rfl) ⟨hP.efl, rfl, hP.hfr.grow hb, RdG.nil _ _ _ _ _, hP.mfl, by omega⟩
end
set_option maxRecDepth 100000 in
set_option maxHeartbeats 6400000 in
theorem falls7a (hok : okR r = true) (hfc : fl ≤ fc) (h0 : 0 < fl) {wh mu : Nat} (hwh : wh ≤ 255) (hmu : mu ≤ 255) {w0 : World} (hP : RvIn w0 w0.heap.size (some ⟨fb, fo, none⟩) fl la ll r) (hB : Below w0.heap.size w0 w)
    (hR : Blk w b3 27 #[.int .i64 r.depth.lo, .int .i64 r.depth.hi, .int .i64 r.fall.lo, .int .i64 r.fall.hi, .int .i64 r.days, .slice (some ⟨fb, fo, none⟩) fl fc, .slice la ll lc]) (hX : Blk w dx 27 #[.int .i64 r.depth.lo, .int .i64 r.depth.hi, .int .i64 r.fall.lo, .int .i64 r.fall.hi, .int .i64 r.days, .slice (some ⟨fb, fo, none⟩) fl fc, .slice none 0 0]) (hY : Blk w dy 27 #[.int .i64 r.depth.lo, .int .i64 r.depth.hi, .int .i64 r.fall.lo, .int .i64 r.fall.hi, .int .i64 r.days, .slice none 0 0, .slice none 0 0]) (hZ : Blk w dz 27 #[.int .i64 r.depth.lo, .int .i64 r.depth.hi, .int .i64 r.fall.lo, .int .i64 r.fall.hi, .int .i64 r.days, .slice (some ⟨gz, 0, none⟩) fl cz, .slice none 0 0]) (hT : Blk w dt 27 #[.int .i64 r.depth.lo, .int .i64 r.depth.hi, .int .i64 r.fall.lo, .int .i64 r.fall.hi, .int .i64 r.days, .slice (some ⟨gt, 0, none⟩) fl ct, .slice none 0 0]) (hV : Blk w dv 27 #[.int .i64 r.depth.lo, .int .i64 r.depth.hi, .int .i64 r.fall.lo, .int .i64 r.fall.hi, .int .i64 r.days, .slice (some ⟨fb, fo, none⟩) fl fc, .slice none 0 0]) (oZ : w.ownsRow w0.heap.size 55 4 (.slice (some ⟨gz, 0, none⟩) fl cz) fl (r.fr.flatMap frI)) (oT : w.ownsRow w0.heap.size 55 4 (.slice (some ⟨gt, 0, none⟩) fl ct) fl (r.fr.flatMap frI))
    (hne : b3 ≠ dz ∧ dx ≠ dz ∧ dy ≠ dz ∧ dt ≠ dz ∧ dv ≠ dz) (hnv : dv ≠ b3 ∧ dv ≠ dx ∧ dv ≠ dy ∧ dv ≠ dz ∧ dv ≠ dt) (hgg : gz ≠ gt) (hge : w0.heap.size ≤ dz ∧ w0.heap.size ≤ dv) (c0 c4 c5 c6 c12 c13 c14 c15 c16 c17 c18 c19 c20 c21 c22 c23 c24 c25 c26 c27 c28 c29 c30 c31 c32 c33 c34 c35 c36 c37 c38 c39 c40 c41 c42 c43 c44 c45 c46 c47 c48 c49 c50 c51 c52 c53 c54 c55 c56 c57 c58 c59 c60 c61 c62 c63 c64 c65 c66 c67 c68 c69 c70 c71 c72 c73 c74 c75 c76 c77 c78 c79 c80 c81 c82 c83 c84 c85 c86 c87 c88 c89 c90 c91 c92 c93 c94 c95 c96 c97 c98 c99 c100 c101 c102 c103 c104 c105 c106 c107 c108 c109 c110 c111 c112 c113 c114 c115 c116 c117 c118 c119 c120 c121 c122 c123 c124 c125 c126 c127 c128 c129 c130 c131 c132 c133 c134 c135 c136 c137 c138 c139 c140 c141 c142 c143 c144 c145 c146 c147 c148 c149 c150 c151 c152 c153 c154 c155 c156 c157 c158 c159 c160 c161 c162 c163 c164 c165 c166 c167 c168 c169 c170 c171 c172 c173 c174 c175 c176 c177 c178 c179 c180 c181 c182 c183 c184 c185 c186 c187 c188 c189 c190 c191 c192 c193 c194 c195 c196 c197 c198 c199 c200 c201 c202 c203 c204 c205 c206 c207 c208 c209 c210 c211 c212 c213 c214 c215 c216 c217 c218 c219 c220 c221 c222 c223 c224 c225 c226 c227 c228 c229 c230 c231 c232 c233 c234 c235 c236 c237 c238 c239 c240 : Value) :
    Code.wp Try.prog (fallsK 7) (bodyPost Try.prog Try.f9 (LawTrueF w0)) ⟨(c0 :: (.int .u8 wh) :: (.int .u8 mu) :: (.pointer (some ⟨b3, 0, none⟩)) :: c4 :: c5 :: c6 :: (.pointer (some ⟨dx, 0, none⟩)) :: (.pointer (some ⟨dy, 0, none⟩)) :: (.pointer (some ⟨dz, 0, none⟩)) :: (.pointer (some ⟨dt, 0, none⟩)) :: (.pointer (some ⟨dv, 0, none⟩)) :: c12 :: c13 :: c14 :: c15 :: c16 :: c17 :: c18 :: c19 :: c20 :: c21 :: c22 :: c23 :: c24 :: c25 :: c26 :: c27 :: c28 :: c29 :: c30 :: c31 :: c32 :: c33 :: c34 :: c35 :: c36 :: c37 :: c38 :: c39 :: c40 :: c41 :: c42 :: c43 :: c44 :: c45 :: c46 :: c47 :: c48 :: c49 :: c50 :: c51 :: c52 :: c53 :: c54 :: c55 :: c56 :: c57 :: c58 :: c59 :: c60 :: c61 :: c62 :: c63 :: c64 :: c65 :: c66 :: c67 :: c68 :: c69 :: c70 :: c71 :: c72 :: c73 :: c74 :: c75 :: c76 :: c77 :: c78 :: c79 :: c80 :: c81 :: c82 :: c83 :: c84 :: c85 :: c86 :: c87 :: c88 :: c89 :: c90 :: c91 :: c92 :: c93 :: c94 :: c95 :: c96 :: c97 :: c98 :: c99 :: c100 :: c101 :: c102 :: c103 :: c104 :: c105 :: c106 :: c107 :: c108 :: c109 :: c110 :: c111 :: c112 :: c113 :: c114 :: c115 :: c116 :: c117 :: c118 :: c119 :: c120 :: c121 :: c122 :: c123 :: c124 :: c125 :: c126 :: c127 :: c128 :: c129 :: c130 :: c131 :: c132 :: c133 :: c134 :: c135 :: c136 :: c137 :: c138 :: c139 :: c140 :: c141 :: c142 :: c143 :: c144 :: c145 :: c146 :: c147 :: c148 :: c149 :: c150 :: c151 :: c152 :: c153 :: c154 :: c155 :: c156 :: c157 :: c158 :: c159 :: c160 :: c161 :: c162 :: c163 :: c164 :: c165 :: c166 :: c167 :: c168 :: c169 :: c170 :: c171 :: c172 :: c173 :: c174 :: c175 :: c176 :: c177 :: c178 :: c179 :: c180 :: c181 :: c182 :: c183 :: c184 :: c185 :: c186 :: c187 :: c188 :: c189 :: c190 :: c191 :: c192 :: c193 :: c194 :: c195 :: c196 :: c197 :: c198 :: c199 :: c200 :: c201 :: c202 :: c203 :: c204 :: c205 :: c206 :: c207 :: c208 :: c209 :: c210 :: c211 :: c212 :: c213 :: c214 :: c215 :: c216 :: c217 :: c218 :: c219 :: c220 :: c221 :: c222 :: c223 :: c224 :: c225 :: c226 :: c227 :: c228 :: c229 :: c230 :: c231 :: c232 :: c233 :: c234 :: c235 :: c236 :: c237 :: c238 :: c239 :: c240 :: []).toArray, []⟩ w := by
  obtain ⟨k, hke⟩ : ∃ k, k = wh % fl := ⟨_, rfl⟩
  have hk : k < fl := by rw [hke]; exact Nat.mod_lt _ h0
  have tm : (wh : Int).tmod (fl : Int) = (k : Int) := by rw [Int.tmod_eq_emod_of_nonneg (by omega), hke]; exact (Int.natCast_emod _ _).symm
  clear hke
  have HEF := Lib.hid hP.efl
  have hfl3 : fl ≤ 3 := by rw [← hP.efl]; exact (okR_pts hok).1.2.2.2.1
  have hkw : IntKind.i64.wrap ((k : Int) + 1) = (k : Int) + 1 := IntWalk.i64_in _ (by omega)
  have hmf := hP.mfl
  have hcz : fl ≤ cz := (own_blk oZ).choose_spec.2.2.1
  have hgz : w0.heap.size ≤ gz := (own_blk oZ).choose_spec.2.1
  have hgt : w0.heap.size ≤ gt := (own_blk oT).choose_spec.2.1
  have b3z : ¬ (b3 = gz ∨ b3 = dz) := fun e => e.elim (blk_ne hR (own_blk oZ).choose_spec.1 (by decide)) hne.1
  have hg : ¬ dz = gz := blk_ne hZ (own_blk oZ).choose_spec.1 (by decide)
  have HOK := Lib.hid hok
  have HP := Lib.hid hP
  have HB := Lib.hid hB
  have HR := Lib.hid hR
  have HX := Lib.hid hX
  have HY := Lib.hid hY
  have HZ := Lib.hid hZ
  have HT := Lib.hid hT
  have HV := Lib.hid hV
  have HOZ := Lib.hid oZ
  have HOT := Lib.hid oT
  have HN3 := Lib.hid b3z
  have HNG := Lib.hid hg
  have HNE := Lib.hid hne
  have HGG := Lib.hid hgg
  have HNV := Lib.hid hnv
  have HGE := Lib.hid (And.intro hge (And.intro hgz hgt))
  have HSG : Hid (∀ b, (b = gz ∨ b = dz) → w0.heap.size ≤ b) := fun b e => by
    rcases e with rfl | rfl
    · exact hgz
    · exact hge.1
  obtain ⟨i0, hi, hz0, hz1, hz2⟩ := info_parts infoE55
  have HI := Lib.hid hi
  have HI1 := Lib.hid hz1
  conv => arg 2; whnf
  conv => arg 2; arg 2; change fallsK 8
  have r5 := HR.out.cell 5
  have rl := HR.out.lt
  simp at r5
  have hfi : (0 : Int) < (fl : Int) := by omega
  have hf0 : ((fl : Int) == 0) = false := by simp; omega
  clear hi hz0 hz1 hz2 hP hB hR hX hY hZ hT hV oZ oT b3z hg hne hnv hgg hge hgz hgt hok h0
  go_upto_region 10 with fail
  clear r5 rl
  refine HavG.wp_region_tabW (R := TP (fun x => x = gz ∨ x = dz) (fun (i : Bool) w => if i then w.ownsRow w0.heap.size 55 4 (.slice (some ⟨gz, 0, none⟩) (fl - 1) cz) (fl - 1) ((r.fr.eraseIdx k).flatMap frI) else Blk w dz 27 #[.int .i64 r.depth.lo, .int .i64 r.depth.hi, .int .i64 r.fall.lo, .int .i64 r.fall.hi, .int .i64 r.days, .slice (some ⟨gz, 0, none⟩) (fl - 1) cz, .slice none 0 0]) (fall10F)) (fun i V w => fall10T w0.heap.size dz gz b3 fb fo fl fc cz k r i (V i) w) (fun i w => fall10S w0.heap.size dz gz fl cz r i w) [] [some 62, some 63, some 64, some 65, some 66, some 67, some 68, some 69, some 70, some 71, some 72, none] (by kernel_rfl) (by kernel_rfl) (by rfl) (fun i V w w' => fall10_keep) (fun i _ => fall10_zero HZ.out HOZ.out i) (fun i hi V V' w h hV => by rw [← hV i (.inl rfl)]; exact h) (fun i hi => by cases hi) ?_ ?_
  · intro i hi oo a' w' ho hag hg hd hps
    match i, hi, ho, hd, hps with
    | 0, _, ho, hd, hps =>
      (simp only [List.getElem?_toArray, List.getElem?_cons_zero, Option.some.injEq] at ho; subst ho)
      have s9 : a'.tmps[9]?.getD undef = (.pointer (some ⟨dz, 0, none⟩)) := by rw [← Array.getD_eq_getD_getElem?]; exact hag.slot 9 (by kernel_rfl)
      have r9 : a'.tmps.getD 9 undef = (.pointer (some ⟨dz, 0, none⟩)) := hag.slot 9 (by kernel_rfl)
      refine HavG.tabW_val rfl (by simp) ⟨.pointer (some ⟨dz, 5, none⟩), w', ?_, HavG.Rel.refl _ _, fun _ _ _ _ h => h, fun V _ hv => hv, fun h => by simp at h⟩
      go_simp
      try rfl
    | 1, _, ho, hd, hps =>
      (simp only [List.getElem?_toArray, List.getElem?_cons_succ, List.getElem?_cons_zero, Option.some.injEq] at ho; subst ho)
      have d62 : a'.tmps.getD 62 undef = (.pointer (some ⟨dz, 5, none⟩)) := hd 0 (by kernel_rfl) (by decide)
      have c62 : a'.tmps[62]?.getD undef = (.pointer (some ⟨dz, 5, none⟩)) := by rw [← Array.getD_eq_getD_getElem?]; exact d62
      have hps' : Blk w' dz 27 #[.int .i64 r.depth.lo, .int .i64 r.depth.hi, .int .i64 r.fall.lo, .int .i64 r.fall.hi, .int .i64 r.days, .slice (some ⟨gz, 0, none⟩) fl cz, .slice none 0 0] := hps
      have z5 := hps'.cell 5
      have zl := hps'.lt
      simp at z5
      clear hps hps'
      refine HavG.tabW_val rfl (by simp) ⟨.slice (some ⟨gz, 0, none⟩) fl cz, w', ?_, HavG.Rel.refl _ _, fun _ _ _ _ h => h, fun V _ hv => hv, fun h => by simp at h⟩
      go_simp
      try rfl
    | 2, _, ho, hd, hps =>
      (simp only [List.getElem?_toArray, List.getElem?_cons_succ, List.getElem?_cons_zero, Option.some.injEq] at ho; subst ho)
      have s12 : a'.tmps[12]?.getD undef = (.int .i64 k) := by rw [← Array.getD_eq_getD_getElem?]; exact hag.slot 12 (by kernel_rfl)
      have r12 : a'.tmps.getD 12 undef = (.int .i64 k) := hag.slot 12 (by kernel_rfl)
      refine HavG.tabW_val rfl (by simp) ⟨.int .i64 k, w', ?_, HavG.Rel.refl _ _, fun _ _ _ _ h => h, fun V _ hv => hv, fun h => by simp at h⟩
      go_simp
      try rfl
    | 3, _, ho, hd, hps =>
      (simp only [List.getElem?_toArray, List.getElem?_cons_succ, List.getElem?_cons_zero, Option.some.injEq] at ho; subst ho)
      have e1 : HavG.slot a' 63 = .slice (some ⟨gz, 0, none⟩) fl cz := hd 1 (by kernel_rfl) (by decide)
      have e2 : HavG.slot a' 64 = .int .i64 k := hd 2 (by kernel_rfl) (by decide)
      exact HavG.tabW_val rfl (by simp) ⟨.slice (some ⟨gz, 0, none⟩) k cz, w', run_slTo24 rfl e1 e2 (by omega), HavG.Rel.refl _ _, fun _ _ _ _ h => h, fun V _ hv => hv, fun h => by simp at h⟩
    | 4, _, ho, hd, hps =>
      (simp only [List.getElem?_toArray, List.getElem?_cons_succ, List.getElem?_cons_zero, Option.some.injEq] at ho; subst ho)
      have s3 : a'.tmps[3]?.getD undef = (.pointer (some ⟨b3, 0, none⟩)) := by rw [← Array.getD_eq_getD_getElem?]; exact hag.slot 3 (by kernel_rfl)
      have r3 : a'.tmps.getD 3 undef = (.pointer (some ⟨b3, 0, none⟩)) := hag.slot 3 (by kernel_rfl)
      refine HavG.tabW_val rfl (by simp) ⟨.pointer (some ⟨b3, 5, none⟩), w', ?_, HavG.Rel.refl _ _, fun _ _ _ _ h => h, fun V _ hv => hv, fun h => by simp at h⟩
      go_simp
      try rfl
    | 5, _, ho, hd, hps =>
      (simp only [List.getElem?_toArray, List.getElem?_cons_succ, List.getElem?_cons_zero, Option.some.injEq] at ho; subst ho)
      have d66 : a'.tmps.getD 66 undef = (.pointer (some ⟨b3, 5, none⟩)) := hd 4 (by kernel_rfl) (by decide)
      have c66 : a'.tmps[66]?.getD undef = (.pointer (some ⟨b3, 5, none⟩)) := by rw [← Array.getD_eq_getD_getElem?]; exact d66
      have hb3 := HR.out.turn hg.1 HN3.out
      have z5 := hb3.cell 5
      have zl := hb3.lt
      simp at z5
      clear hb3
      refine HavG.tabW_val rfl (by simp) ⟨.slice (some ⟨fb, fo, none⟩) fl fc, w', ?_, HavG.Rel.refl _ _, fun _ _ _ _ h => h, fun V _ hv => hv, fun h => by simp at h⟩
      go_simp
      try rfl
    | 6, _, ho, hd, hps =>
      (simp only [List.getElem?_toArray, List.getElem?_cons_succ, List.getElem?_cons_zero, Option.some.injEq] at ho; subst ho)
      have s12 : a'.tmps[12]?.getD undef = (.int .i64 k) := by rw [← Array.getD_eq_getD_getElem?]; exact hag.slot 12 (by kernel_rfl)
      have r12 : a'.tmps.getD 12 undef = (.int .i64 k) := hag.slot 12 (by kernel_rfl)
      refine HavG.tabW_val rfl (by simp) ⟨.int .i64 k, w', ?_, HavG.Rel.refl _ _, fun _ _ _ _ h => h, fun V _ hv => hv, fun h => by simp at h⟩
      go_simp
      try rfl
    | 7, _, ho, hd, hps =>
      (simp only [List.getElem?_toArray, List.getElem?_cons_succ, List.getElem?_cons_zero, Option.some.injEq] at ho; subst ho)
      have d68 : a'.tmps.getD 68 undef = (.int .i64 k) := hd 6 (by kernel_rfl) (by decide)
      have c68 : a'.tmps[68]?.getD undef = (.int .i64 k) := by rw [← Array.getD_eq_getD_getElem?]; exact d68
      refine HavG.tabW_val rfl (by simp) ⟨.int .i64 ((k + 1 : Nat) : Int), w', ?_, HavG.Rel.refl _ _, fun _ _ _ _ h => h, fun V _ hv => hv, fun h => by simp at h⟩
      go_simp
    | 8, _, ho, hd, hps =>
      (simp only [List.getElem?_toArray, List.getElem?_cons_succ, List.getElem?_cons_zero, Option.some.injEq] at ho; subst ho)
      have e1 : HavG.slot a' 67 = .slice (some ⟨fb, fo, none⟩) fl fc := hd 5 (by kernel_rfl) (by decide)
      have e2 : HavG.slot a' 69 = .int .i64 ((k + 1 : Nat) : Int) := hd 7 (by kernel_rfl) (by decide)
      exact HavG.tabW_val rfl (by simp) ⟨.slice (if fc = k + 1 then some (⟨fb, fo, none⟩ : Addr) else (some (⟨fb, fo, none⟩ : Addr)).map (·.add ((k + 1) * 4))) (fl - (k + 1)) (fc - (k + 1)), w', run_slFrom24 rfl e1 e2 (by omega) hfc, HavG.Rel.refl _ _, fun _ _ _ _ h => h, fun V _ hv => hv, fun h => by simp at h⟩
    | 9, _, ho, hd, hps =>
      (simp only [List.getElem?_toArray, List.getElem?_cons_succ, List.getElem?_cons_zero, Option.some.injEq] at ho; subst ho)
      have e1 : HavG.slot a' 65 = .slice (some ⟨gz, 0, none⟩) k cz := hd 3 (by kernel_rfl) (by decide)
      have e2 : HavG.slot a' 70 = .slice (if fc = k + 1 then some (⟨fb, fo, none⟩ : Addr) else (some (⟨fb, fo, none⟩ : Addr)).map (·.add ((k + 1) * 4))) (fl - (k + 1)) (fc - (k + 1)) := hd 8 (by kernel_rfl) (by decide)
      have hps' : w'.ownsRow w0.heap.size 55 4 (.slice (some ⟨gz, 0, none⟩) fl cz) fl (r.fr.flatMap frI) := hps
      obtain ⟨w2, hrun, hown, ht⟩ := erase_run (P := Try.prog) (k := k) 24 24 55 i0 4 Try.underlying24 HI.out HI1.out (by decide) frI_len frI_one hps' ((HP.out.grow (HB.out.trans (hg.1.below HB.out.size HSG.out))).hfr) HEF.out hk hfc
      exact HavG.tabW_val rfl (by simp) ⟨_, w2, append_oper rfl e1 e2 hrun, ⟨ht.mono (fun b e => .inl e), fun i => match i with | true => fun _ => hown | false => fun hx => hx.turn ht HNG.out⟩, fun j _ hj _ h => match j, hj, h with | 0, _, h => h | 1, _, h => Blk.turn h ht HNG.out | 2, _, h => h | 3, _, h => h | 4, _, h => h | 5, _, h => h | 6, _, h => h | 7, _, h => h | 8, _, h => h | 9, hj, _ => absurd rfl hj | 10, _, h => h | 11, _, h => Blk.turn h ht HNG.out | _ + 12, _, _ => trivial, fun V _ hv => ⟨hv, hown⟩, fun h => by simp at h⟩
    | 10, _, ho, hd, hps =>
      (simp only [List.getElem?_toArray, List.getElem?_cons_succ, List.getElem?_cons_zero, Option.some.injEq] at ho; subst ho)
      have s9 : a'.tmps[9]?.getD undef = (.pointer (some ⟨dz, 0, none⟩)) := by rw [← Array.getD_eq_getD_getElem?]; exact hag.slot 9 (by kernel_rfl)
      have r9 : a'.tmps.getD 9 undef = (.pointer (some ⟨dz, 0, none⟩)) := hag.slot 9 (by kernel_rfl)
      refine HavG.tabW_val rfl (by simp) ⟨.pointer (some ⟨dz, 5, none⟩), w', ?_, HavG.Rel.refl _ _, fun _ _ _ _ h => h, fun V _ hv => hv, fun h => by simp at h⟩
      go_simp
      try rfl
    | 11, _, ho, hd, hps =>
      (simp only [List.getElem?_toArray, List.getElem?_cons_succ, List.getElem?_cons_zero, Option.some.injEq] at ho; subst ho)
      have d72 : a'.tmps.getD 72 undef = (.pointer (some ⟨dz, 5, none⟩)) := hd 10 (by kernel_rfl) (by decide)
      have c72 : a'.tmps[72]?.getD undef = (.pointer (some ⟨dz, 5, none⟩)) := by rw [← Array.getD_eq_getD_getElem?]; exact d72
      have e9 : HavG.slot a' 71 = .slice (some ⟨gz, 0, none⟩) (fl - 1) cz ∧ _ := hd 9 (by kernel_rfl) (by decide)
      have d71 : a'.tmps.getD 71 undef = .slice (some ⟨gz, 0, none⟩) (fl - 1) cz := e9.1
      have c71 : a'.tmps[71]?.getD undef = .slice (some ⟨gz, 0, none⟩) (fl - 1) cz := by rw [← Array.getD_eq_getD_getElem?]; exact d71
      have hps' : Blk w' dz 27 #[.int .i64 r.depth.lo, .int .i64 r.depth.hi, .int .i64 r.fall.lo, .int .i64 r.fall.hi, .int .i64 r.days, .slice (some ⟨gz, 0, none⟩) fl cz, .slice none 0 0] := hps
      have z5 := hps'.cell 5
      have z6 := hps'.frozen 5
      have zl := hps'.lt
      simp at z5
      have hset : Turn (fun x => x = gz ∨ x = dz) w' (w'.setCell ⟨dz, 5, none⟩ (.slice (some ⟨gz, 0, none⟩) (fl - 1) cz)) := Turn.set _ _ (fun _ => .inr rfl)
      have hnew : Blk (w'.setCell ⟨dz, 5, none⟩ (.slice (some ⟨gz, 0, none⟩) (fl - 1) cz)) dz 27 #[.int .i64 r.depth.lo, .int .i64 r.depth.hi, .int .i64 r.fall.lo, .int .i64 r.fall.hi, .int .i64 r.days, .slice (some ⟨gz, 0, none⟩) (fl - 1) cz, .slice none 0 0] := by have h := hps'.set_ 5 (.slice (some ⟨gz, 0, none⟩) (fl - 1) cz); simpa using h
      refine HavG.tabW_store rfl rfl (by simp) ⟨w'.setCell ⟨dz, 5, none⟩ (.slice (some ⟨gz, 0, none⟩) (fl - 1) cz), ?_, ⟨hset, fun i => match i with | true => fun h => own_turn h (Turn.set (S := fun x => x = dz) ⟨dz, 5, none⟩ _ (fun _ => rfl)) (fun g hg => by cases hg; exact fun e => HNG.out (Eq.symm e)) | false => fun _ => hnew⟩, fun j hj hj2 hbf h => match j, hj, hj2, hbf, h with | 0, _, _, _, h => h | 1, _, _, hbf, _ => (Bool.false_ne_true (hbf.symm.trans (by kernel_rfl))).elim | 2, _, _, _, h => h | 3, _, _, _, h => h | 4, _, _, _, h => h | 5, _, _, _, h => h | 6, _, _, _, h => h | 7, _, _, _, h => h | 8, _, _, _, h => h | 9, _, _, hbf, _ => (Bool.false_ne_true (hbf.symm.trans (by kernel_rfl))).elim | 10, _, _, _, h => h | 11, _, hj2, _, _ => absurd rfl hj2 | j + 12, hj, _, _, _ => absurd hj (by simp), fun V _ => hnew⟩
      clear hnew hset hps hps' e9
      go_simp
      try rfl
    | j + 12, hj, _, _, _ => exact absurd hj (by simp)
  intro f w2 hg hf _
  have q62 : f 62 = _ := hf 0 (by decide)
  have q63 : f 63 = _ := hf 1 (by decide)
  have q64 : f 64 = _ := hf 2 (by decide)
  have q65 : f 65 = _ := hf 3 (by decide)
  have q66 : f 66 = _ := hf 4 (by decide)
  have q67 : f 67 = _ := hf 5 (by decide)
  have q68 : f 68 = _ := hf 6 (by decide)
  have q69 : f 69 = _ := hf 7 (by decide)
  have q70 : f 70 = _ := hf 8 (by decide)
  have q71 : f 71 = _ := (show _ ∧ _ from hf 9 (by decide)).1
  have oz2 : w2.ownsRow _ _ _ _ _ _ := (show _ ∧ _ from hf 9 (by decide)).2
  have q72 : f 72 = _ := hf 10 (by decide)
  have hz2 : Blk w2 dz 27 _ := hf 11 (by decide)
  have ht2 := hg.1
  simp only [List.filterMap, HavG.puts, List.foldl_cons, List.foldl_nil, Act.put, List.setIfInBounds_toArray, List.set_cons_succ, List.set_cons_zero]
  rw [q62, q63, q64, q65, q66, q67, q68, q69, q70, q71, q72]
  clear hf q62 q63 q64 q65 q66 q67 q68 q69 q70 q71 q72 hg
  obtain ⟨f0, hf0⟩ : ∃ f, r.fr[k]? = some f := ⟨r.fr[k]'(by rw [HEF.out]; exact hk), by simp⟩
  have HF0 := Lib.hid hf0
  obtain ⟨-, u1, u2, u3, u4, u5⟩ := up_ok HOK.out hf0 (m := 0) (by omega)
  have OT2 : Hid (w2.ownsRow w0.heap.size 55 4 (.slice (some ⟨gt, 0, none⟩) fl ct) fl (r.fr.flatMap frI)) := own_turn HOT.out ht2 (fun g e => by cases e; rintro (h | h); exact HGG.out h.symm; exact blk_ne HZ.out (own_blk HOT.out).choose_spec.1 (by decide) h.symm)
  have hT2 := HT.out.turn ht2 (by rintro (h | h); exact blk_ne HT.out (own_blk HOZ.out).choose_spec.1 (by decide) h; exact HNE.out.2.2.2.1 h)
  have HT2 := Lib.hid hT2
  have t5 := hT2.cell 5
  have t6 := hT2.lt
  simp at t5
  obtain ⟨cur, hcur, -, hct, -, hcs, -⟩ := own_blk OT2.out
  have hkf : k * 4 + 3 < cur.size := by rw [hcs]; omega
  have c2 : w2.cell? ⟨gt, k * 4 + 2, none⟩ = some (.int .i64 f0.rise.lo) := own_cell OT2.out (k * 4 + 2) _ (by rw [flat_get frI 4 frI_len _ _ _ (by omega), hf0]; rfl)
  have c3 : w2.cell? ⟨gt, k * 4 + 3, none⟩ = some (.int .i64 f0.rise.hi) := own_cell OT2.out (k * 4 + 3) _ (by rw [flat_get frI 4 frI_len _ _ _ (by omega), hf0]; rfl)
  have z2 : w2.frozen? ⟨gt, k * 4 + 2, none⟩ = false := hcur.frozen _
  have z3 : w2.frozen? ⟨gt, k * 4 + 3, none⟩ = false := hcur.frozen _
  have zl := hcur.lt
  obtain ⟨m, hm⟩ : ∃ m, m = mu % 4 := ⟨_, rfl⟩
  have tm2 : (mu : Int).tmod 4 = (m : Int) := by rw [Int.tmod_eq_emod_of_nonneg (by omega), hm]; exact (Int.natCast_emod _ _).symm
  have hm4 : m < 4 := by omega
  have wl1 : IntKind.i64.wrap (f0.rise.lo + m) = f0.rise.lo + m := IntWalk.i64_in _ (by omega)
  have wl2 : IntKind.i64.wrap (f0.rise.hi + m) = f0.rise.hi + m := IntWalk.i64_in _ (by omega)
  obtain ⟨lo, hlo⟩ : ∃ lo, min 20 (f0.rise.lo + m) = lo := ⟨_, rfl⟩
  obtain ⟨hi, hhi⟩ : ∃ hi, min 20 (f0.rise.hi + m) = hi := ⟨_, rfl⟩
  have hm1 : ∀ w, (Builtin.min_ #[3, 3] 3 #[.int .i64 20, .int .i64 (f0.rise.lo + m)]).run Try.prog w = .ok (.int .i64 lo) w := fun w => by rw [min_run, hlo]
  have hm2 : ∀ w, (Builtin.min_ #[3, 3] 3 #[.int .i64 20, .int .i64 (f0.rise.hi + m)]).run Try.prog w = .ok (.int .i64 hi) w := fun w => by rw [min_run, hhi]
  have HLO := Lib.hid hlo
  have HHI := Lib.hid hhi
  have hkl : (k : Int) < (fl : Int) := by omega
  clear hm hlo hhi hf0 hT2 hcur hcs hkf
  go_upto_region 12 with fail
  rename ∀ a w, Code.wp Try.prog (fallsK 8) _ a w → _ => hKU
  have HKU := Lib.hid hKU
  clear hKU
  go_region
  obtain ⟨w4, hw4⟩ : ∃ x, x = ((w2.setCell ⟨gt, k * 4 + 2, none⟩ (.int .i64 lo)).setCell ⟨gt, k * 4 + 2 + 1, none⟩ (.int .i64 hi)).drew := ⟨_, rfl⟩
  rw [← hw4]
  have hdr : ∀ w : World, Below w.heap.size w w.drew := fun w => Below.drew (Below.refl _ _)
  have t4 : Turn (fun x => x = gt) w2 w4 := by rw [hw4]; exact ((Turn.set (S := fun x => x = gt) ⟨gt, k * 4 + 2, none⟩ _ (fun _ => rfl)).trans (Turn.set (S := fun x => x = gt) ⟨gt, k * 4 + 2 + 1, none⟩ _ (fun _ => rfl))).trans (Turn.of_below (hdr _))
  have o4 : w4.ownsRow w0.heap.size 55 4 (.slice (some ⟨gt, 0, none⟩) fl ct) fl ((r.fr.set k (moreF m f0)).flatMap frI) := by
    rw [hw4]
    refine own_below ?_ (hdr _)
    have h1 := own_set (own_set OT2.out (k * 4 + 2) (.int .i64 lo)) (k * 4 + 2 + 1) (.int .i64 hi)
    rw [flat_set frI_len (i := 2) (x := f0) (x' := ⟨f0.days, ⟨lo, f0.rise.hi⟩⟩) (by omega) HF0.out rfl] at h1
    rw [show k * 4 + 2 + 1 = k * 4 + 3 from rfl, flat_set frI_len (i := 3) (x := ⟨f0.days, ⟨lo, f0.rise.hi⟩⟩) (x' := ⟨f0.days, ⟨lo, hi⟩⟩) (by omega) (by rw [List.getElem?_set_self (by rw [HEF.out]; exact hk)]) rfl, List.set_set] at h1
    have e : moreF m f0 = ⟨f0.days, ⟨lo, hi⟩⟩ := by unfold moreF; rw [HLO.out, HHI.out]
    rw [e]
    exact h1
  have tt : Turn (fun x => x = gz ∨ x = dz ∨ x = gt) w w4 := (ht2.mono (fun b e => e.elim .inl fun e => .inr (.inl e))).trans (t4.mono fun b e => .inr (.inr e))
  have oz4 : w4.ownsRow w0.heap.size 55 4 (.slice (some ⟨gz, 0, none⟩) (fl - 1) cz) (fl - 1) ((r.fr.eraseIdx k).flatMap frI) := own_turn oz2 t4 (fun g e => by cases e; exact HGG.out)
  have n4 : ∀ {g cs}, Blk w g 27 cs → g ≠ dz → Blk w4 g 27 cs := fun hb hn => hb.turn tt (by
    rintro (h | h | h)
    · exact blk_ne hb (own_blk HOZ.out).choose_spec.1 (by decide) h
    · exact hn h
    · exact blk_ne hb (own_blk HOT.out).choose_spec.1 (by decide) h)
  have b4 : Below w0.heap.size w0 w4 := HB.out.trans (tt.below HB.out.size (by
    rintro b (h | h | h)
    · rw [h]; exact HGE.out.2.1
    · rw [h]; exact HGE.out.1.1
    · rw [h]; exact HGE.out.2.2))
  have low : ∀ w', Turn (fun x => x = dv) w4 w' → Below w0.heap.size w0 w' := fun w' t => b4.trans (t.below b4.size (fun b e => by have e' : b = dv := e; rw [e']; exact HGE.out.1.2))
  have ndv : ∀ {g cs}, Blk w g 55 cs → g ≠ dv := fun hb => blk_ne hb HV.out (by decide)
  have pz : ∀ w', Turn (fun x => x = dv) w4 w' → DepF r.nat.days (depthP (zR r k).nat) w' #[.int .i64 r.depth.lo, .int .i64 r.depth.hi, .int .i64 r.fall.lo, .int .i64 r.fall.hi, .int .i64 r.days, .slice (some ⟨gz, 0, none⟩) (fl - 1) cz, .slice none 0 0] := fun w' t =>
    DepF.of (r := zR r k) (fa := some ⟨gz, 0, none⟩) (fl := fl - 1) (fc := cz) (la := none) (ll := 0) (lc := 0) (z_ok HOK.out k) (free_truths (z_ok HOK.out k) rfl)
      ⟨by show (r.fr.eraseIdx k).length = _; rw [List.length_eraseIdx, if_pos (by rw [HEF.out]; exact hk), HEF.out], rfl, RdG.of_own frI_len (by decide) (own_turn oz4 t (fun g e => by cases e; exact ndv (own_blk HOZ.out).choose_spec.1)) (Nat.le_refl _) rfl, RdG.nil _ _ _ _ _, by omega, by omega⟩
  have pt : ∀ w', Turn (fun x => x = dv) w4 w' → DepF r.nat.days (depthP (tR r k m f0).nat) w' #[.int .i64 r.depth.lo, .int .i64 r.depth.hi, .int .i64 r.fall.lo, .int .i64 r.fall.hi, .int .i64 r.days, .slice (some ⟨gt, 0, none⟩) fl ct, .slice none 0 0] := fun w' t =>
    DepF.of (r := tR r k m f0) (fa := some ⟨gt, 0, none⟩) (fl := fl) (fc := ct) (la := none) (ll := 0) (lc := 0) (t_ok HOK.out HF0.out (by omega)) (free_truths (t_ok HOK.out HF0.out (by omega)) rfl)
      ⟨by show (r.fr.set k _).length = _; rw [List.length_set, HEF.out], rfl, RdG.of_own frI_len (by decide) (own_turn o4 t (fun g e => by cases e; exact ndv (own_blk HOT.out).choose_spec.1)) (Nat.le_refl _) rfl, RdG.nil _ _ _ _ _, by omega, by omega⟩
  have hz4 : Blk w4 dz 27 _ := hz2.turn t4 (fun e => blk_ne HZ.out (own_blk HOT.out).choose_spec.1 (by decide) e)
  exact HKU.out _ _ (falls8 (ax := depthP (xR r).nat) (ay := depthP (yR r).nat) (az := depthP (zR r k).nat) (at_ := depthP (tR r k m f0).nat) (au := auF r) HOK.out (fun d _ => y_falls HOK.out d) (fun d _ => z_falls HOK.out (by rw [HEF.out]; exact hk) d) (fun d _ => t_falls HOK.out HF0.out (by omega) d) (fun d _ => au_falls HOK.out d)
    b4 (n4 HR.out HNE.out.1) (n4 HX.out HNE.out.2.1) (fun w' t => dep_x HOK.out HP.out (low w' t)) (n4 HY.out HNE.out.2.2.1) (fun w' t => dep_y HOK.out (low w' t)) hz4 pz (n4 HT.out HNE.out.2.2.2.1) pt (n4 HV.out HNE.out.2.2.2.2)
    (fun h w' t => dep_v0 HOK.out HP.out h (low w' t)) (fun h w' t => dep_v1 HOK.out HP.out h (low w' t)) HNV.out HGE.out.1.2 _ _ _ _ _ _ _ _ _ _ _ _ _ _ _ _ _ _ _ _ _ _ _ _ _ _ _ _ _ _ _ _ _ _ _ _ _ _ _ _ _ _ _ _ _ _ _ _ _ _ _ _ _ _ _ _ _ _ _ _ _ _ _ _ _ _ _ _ _ _ _ _ _ _ _ _ _ _ _ _ _ _ _ _ _ _ _ _ _ _ _ _ _ _ _ _ _ _ _ _ _ _ _ _ _ _ _ _ _ _ _ _ _ _ _ _ _ _ _ _ _ _ _ _ _ _ _ _ _ _ _ _ _ _ _ _ _ _ _ _ _ _ _ _ _ _ _ _ _ _ _ _ _ _ _ _ _ _ _ _ _ _ _ _ _ _ _ _ _ _ _ _ _ _ _ _ _ _ _ _ _ _ _ _ _ _ _ _ _ _ _ _ _ _ _ _ _ _ _ _ _ _ _ _ _ _ _ _ _ _ _ _ _ _ _ _ _ _ _ _ _ _ _ _ _ _ _ _ _ _ _ _ _ _ _)
end
end Go.Proofs.Ytiodmkokpfgkkaa
