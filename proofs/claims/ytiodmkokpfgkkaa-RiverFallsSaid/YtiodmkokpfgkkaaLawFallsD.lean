/- The law RiverFalls, its walk: for every river and numbers it answers true. Condition: the freshes' capacity is no less than their number; numbers are of 8 bits. -/
import Derived.Test.YtiodmkokpfgkkaaLawFallsC
namespace Go.Proofs.Ytiodmkokpfgkkaa
open Go.RowKit Go.Hav Go.Shelf Go.Sq
attribute [local go_sem] Oper.semAt_some
def nwF (fl : Nat) : List Nat := if 0 < fl then [3, 7] else []
section
variable {b3 dx dy dz dt dv gz gt fl fc ll lc cz ct k B : Nat} {fa la : Option Addr} {r : IRiv} {w w' : World}
theorem nwF_mem {fl i : Nat} : i ∈ nwF fl ↔ 0 < fl ∧ (i = 3 ∨ i = 7) := by
  unfold nwF
  split <;> simp_all
def fall7T (B dz dt b3 : Nat) (fa : Option Addr) (fl fc : Nat) (r : IRiv) (i : Nat) (V : Nat → Value) (w : World) : Prop :=
  match i with
  | 0 => ∃ g, V 0 = .slice (some ⟨g, 0, none⟩) 0 0 ∧ w.ownsRow B 55 4 (.slice (some ⟨g, 0, none⟩) 0 0) 0 []
  | 1 => V 1 = .pointer (some ⟨b3, 5, none⟩)
  | 2 => V 2 = .slice fa fl fc
  | 3 => ∃ g c, V 3 = .slice (some ⟨g, 0, none⟩) fl c ∧ w.ownsRow B 55 4 (.slice (some ⟨g, 0, none⟩) fl c) fl (r.fr.flatMap frI)
  | 4 => ∃ g, V 4 = .slice (some ⟨g, 0, none⟩) 0 0 ∧ w.ownsRow B 55 4 (.slice (some ⟨g, 0, none⟩) 0 0) 0 []
  | 5 => V 5 = .pointer (some ⟨b3, 5, none⟩)
  | 6 => V 6 = .slice fa fl fc
  | 7 => ∃ g c, V 7 = .slice (some ⟨g, 0, none⟩) fl c ∧ w.ownsRow B 55 4 (.slice (some ⟨g, 0, none⟩) fl c) fl (r.fr.flatMap frI)
  | 8 => V 8 = .pointer (some ⟨dz, 5, none⟩)
  | 9 => ∃ g c, V 3 = .slice (some ⟨g, 0, none⟩) fl c ∧ Blk w dz 27 #[.int .i64 r.depth.lo, .int .i64 r.depth.hi, .int .i64 r.fall.lo, .int .i64 r.fall.hi, .int .i64 r.days, .slice (some ⟨g, 0, none⟩) fl c, .slice none 0 0]
  | 10 => V 10 = .pointer (some ⟨dt, 5, none⟩)
  | 11 => ∃ g c, V 7 = .slice (some ⟨g, 0, none⟩) fl c ∧ Blk w dt 27 #[.int .i64 r.depth.lo, .int .i64 r.depth.hi, .int .i64 r.fall.lo, .int .i64 r.fall.hi, .int .i64 r.days, .slice (some ⟨g, 0, none⟩) fl c, .slice none 0 0]
  | _ => True
def fall7S (dz dt : Nat) (fa : Option Addr) (fl fc : Nat) (r : IRiv) (i : Nat) (w : World) : Prop :=
  match i with
  | 9 => Blk w dz 27 #[.int .i64 r.depth.lo, .int .i64 r.depth.hi, .int .i64 r.fall.lo, .int .i64 r.fall.hi, .int .i64 r.days, .slice fa fl fc, .slice none 0 0]
  | 11 => Blk w dt 27 #[.int .i64 r.depth.lo, .int .i64 r.depth.hi, .int .i64 r.fall.lo, .int .i64 r.fall.hi, .int .i64 r.days, .slice fa fl fc, .slice none 0 0]
  | _ => True
theorem fall7S_zero (hz : Blk w dz 27 #[.int .i64 r.depth.lo, .int .i64 r.depth.hi, .int .i64 r.fall.lo, .int .i64 r.fall.hi, .int .i64 r.days, .slice fa fl fc, .slice none 0 0]) (ht : Blk w dt 27 #[.int .i64 r.depth.lo, .int .i64 r.depth.hi, .int .i64 r.fall.lo, .int .i64 r.fall.hi, .int .i64 r.days, .slice fa fl fc, .slice none 0 0]) (i : Nat) : fall7S dz dt fa fl fc r i w := by
  unfold fall7S
  split
  · exact hz
  · exact ht
  · trivial
theorem fall7S_grow {i : Nat} (h : fall7S dz dt fa fl fc r i w) (hb : Below w.heap.size w w') : fall7S dz dt fa fl fc r i w' := by
  unfold fall7S at h ⊢
  split at h
  · exact h.below hb h.lt
  · exact h.below hb h.lt
  · trivial
theorem fall7_grow {i : Nat} {V : Nat → Value} (h : fall7T B dz dt b3 fa fl fc r i V w) (hb : Below w.heap.size w w') : fall7T B dz dt b3 fa fl fc r i V w' := by
  unfold fall7T at h ⊢
  split at h
  · obtain ⟨g, e, h⟩ := h; exact ⟨g, e, own_below h hb⟩
  · exact h
  · exact h
  · obtain ⟨g, c, e, h⟩ := h; exact ⟨g, c, e, own_below h hb⟩
  · obtain ⟨g, e, h⟩ := h; exact ⟨g, e, own_below h hb⟩
  · exact h
  · exact h
  · obtain ⟨g, c, e, h⟩ := h; exact ⟨g, c, e, own_below h hb⟩
  · exact h
  · obtain ⟨g, c, e, h⟩ := h; exact ⟨g, c, e, h.below hb h.lt⟩
  · exact h
  · obtain ⟨g, c, e, h⟩ := h; exact ⟨g, c, e, h.below hb h.lt⟩
  · trivial
theorem own_far {e sz n : Nat} {v : Value} {xs : List Value} {d o : Nat} {u : Value} (h : w.ownsRow B e sz v n xs) (hd : d < B) : (w.setCell ⟨d, o, none⟩ u).ownsRow B e sz v n xs :=
  own_turn h (Turn.set (S := fun x => x = d) ⟨d, o, none⟩ _ (fun _ => rfl)) (fun g hg e => by
    rcases h.2 with ⟨rfl, _⟩ | ⟨g', c, cur, rfl, hb, _⟩
    · cases hg
    · simp only [Value.ownBlock, Option.some.injEq] at hg
      omega)
theorem fall7_setz {i : Nat} {V : Nat → Value} {u : Value} (hl : dz < B ∧ dt < B) (hn : dz ≠ dt) (hi : i ≠ 9) (h : fall7T B dz dt b3 fa fl fc r i V w) : fall7T B dz dt b3 fa fl fc r i V (w.setCell ⟨dz, 5, none⟩ u) := by
  unfold fall7T at h ⊢
  split at h
  · obtain ⟨g, e, h⟩ := h; exact ⟨g, e, own_far h (by omega)⟩
  · exact h
  · exact h
  · obtain ⟨g, c, e, h⟩ := h; exact ⟨g, c, e, own_far h (by omega)⟩
  · obtain ⟨g, e, h⟩ := h; exact ⟨g, e, own_far h (by omega)⟩
  · exact h
  · exact h
  · obtain ⟨g, c, e, h⟩ := h; exact ⟨g, c, e, own_far h (by omega)⟩
  · exact h
  · exact absurd rfl hi
  · exact h
  · obtain ⟨g, c, e, h⟩ := h; exact ⟨g, c, e, h.far (p := ⟨dz, 5, none⟩) (Ne.symm hn) _⟩
  · trivial
theorem fall7_setzS {i : Nat} {u : Value} (hn : dz ≠ dt) (hi : i ≠ 9) (h : fall7S dz dt fa fl fc r i w) : fall7S dz dt fa fl fc r i (w.setCell ⟨dz, 5, none⟩ u) := by
  unfold fall7S at h ⊢
  split at h
  · exact absurd rfl hi
  · exact h.far (p := ⟨dz, 5, none⟩) (Ne.symm hn) _
  · trivial
theorem fall7_settS {i : Nat} {u : Value} (hn : dz ≠ dt) (hi : i ≠ 11) (h : fall7S dz dt fa fl fc r i w) : fall7S dz dt fa fl fc r i (w.setCell ⟨dt, 5, none⟩ u) := by
  unfold fall7S at h ⊢
  split at h
  · exact h.far (p := ⟨dt, 5, none⟩) hn _
  · exact absurd rfl hi
  · trivial
theorem fall7_sett {i : Nat} {V : Nat → Value} {u : Value} (hl : dz < B ∧ dt < B) (hn : dz ≠ dt) (hi : i ≠ 11) (h : fall7T B dz dt b3 fa fl fc r i V w) : fall7T B dz dt b3 fa fl fc r i V (w.setCell ⟨dt, 5, none⟩ u) := by
  unfold fall7T at h ⊢
  split at h
  · obtain ⟨g, e, h⟩ := h; exact ⟨g, e, own_far h (by omega)⟩
  · exact h
  · exact h
  · obtain ⟨g, c, e, h⟩ := h; exact ⟨g, c, e, own_far h (by omega)⟩
  · obtain ⟨g, e, h⟩ := h; exact ⟨g, e, own_far h (by omega)⟩
  · exact h
  · exact h
  · obtain ⟨g, c, e, h⟩ := h; exact ⟨g, c, e, own_far h (by omega)⟩
  · exact h
  · obtain ⟨g, c, e, h⟩ := h; exact ⟨g, c, e, h.far (p := ⟨dt, 5, none⟩) hn _⟩
  · exact h
  · exact absurd rfl hi
  · trivial
set_option maxRecDepth 100000 in
set_option maxHeartbeats 6400000 in
theorem falls7b (hok : okR r = true) (h0 : fl = 0) {w0 : World} (hP : RvIn w0 w0.heap.size fa fl la ll r) (hB : Below w0.heap.size w0 w)
    (hR : Blk w b3 27 #[.int .i64 r.depth.lo, .int .i64 r.depth.hi, .int .i64 r.fall.lo, .int .i64 r.fall.hi, .int .i64 r.days, .slice fa fl fc, .slice la ll lc]) (hX : Blk w dx 27 #[.int .i64 r.depth.lo, .int .i64 r.depth.hi, .int .i64 r.fall.lo, .int .i64 r.fall.hi, .int .i64 r.days, .slice fa fl fc, .slice none 0 0]) (hY : Blk w dy 27 #[.int .i64 r.depth.lo, .int .i64 r.depth.hi, .int .i64 r.fall.lo, .int .i64 r.fall.hi, .int .i64 r.days, .slice none 0 0, .slice none 0 0]) (hZ : Blk w dz 27 #[.int .i64 r.depth.lo, .int .i64 r.depth.hi, .int .i64 r.fall.lo, .int .i64 r.fall.hi, .int .i64 r.days, .slice (some ⟨gz, 0, none⟩) fl cz, .slice none 0 0]) (hT : Blk w dt 27 #[.int .i64 r.depth.lo, .int .i64 r.depth.hi, .int .i64 r.fall.lo, .int .i64 r.fall.hi, .int .i64 r.days, .slice (some ⟨gt, 0, none⟩) fl ct, .slice none 0 0]) (hV : Blk w dv 27 #[.int .i64 r.depth.lo, .int .i64 r.depth.hi, .int .i64 r.fall.lo, .int .i64 r.fall.hi, .int .i64 r.days, .slice fa fl fc, .slice none 0 0])
    (hnv : dv ≠ b3 ∧ dv ≠ dx ∧ dv ≠ dy ∧ dv ≠ dz ∧ dv ≠ dt) (hge : w0.heap.size ≤ dv) (c0 c1 c2 c4 c5 c6 c12 c13 c14 c15 c16 c17 c18 c19 c20 c21 c22 c23 c24 c25 c26 c27 c28 c29 c30 c31 c32 c33 c34 c35 c36 c37 c38 c39 c40 c41 c42 c43 c44 c45 c46 c47 c48 c49 c50 c51 c52 c53 c54 c55 c56 c57 c58 c59 c60 c61 c62 c63 c64 c65 c66 c67 c68 c69 c70 c71 c72 c73 c74 c75 c76 c77 c78 c79 c80 c81 c82 c83 c84 c85 c86 c87 c88 c89 c90 c91 c92 c93 c94 c95 c96 c97 c98 c99 c100 c101 c102 c103 c104 c105 c106 c107 c108 c109 c110 c111 c112 c113 c114 c115 c116 c117 c118 c119 c120 c121 c122 c123 c124 c125 c126 c127 c128 c129 c130 c131 c132 c133 c134 c135 c136 c137 c138 c139 c140 c141 c142 c143 c144 c145 c146 c147 c148 c149 c150 c151 c152 c153 c154 c155 c156 c157 c158 c159 c160 c161 c162 c163 c164 c165 c166 c167 c168 c169 c170 c171 c172 c173 c174 c175 c176 c177 c178 c179 c180 c181 c182 c183 c184 c185 c186 c187 c188 c189 c190 c191 c192 c193 c194 c195 c196 c197 c198 c199 c200 c201 c202 c203 c204 c205 c206 c207 c208 c209 c210 c211 c212 c213 c214 c215 c216 c217 c218 c219 c220 c221 c222 c223 c224 c225 c226 c227 c228 c229 c230 c231 c232 c233 c234 c235 c236 c237 c238 c239 c240 : Value) :
    Code.wp Try.prog (fallsK 7) (bodyPost Try.prog Try.f9 (LawTrueF w0)) ⟨(c0 :: c1 :: c2 :: (.pointer (some ⟨b3, 0, none⟩)) :: c4 :: c5 :: c6 :: (.pointer (some ⟨dx, 0, none⟩)) :: (.pointer (some ⟨dy, 0, none⟩)) :: (.pointer (some ⟨dz, 0, none⟩)) :: (.pointer (some ⟨dt, 0, none⟩)) :: (.pointer (some ⟨dv, 0, none⟩)) :: c12 :: c13 :: c14 :: c15 :: c16 :: c17 :: c18 :: c19 :: c20 :: c21 :: c22 :: c23 :: c24 :: c25 :: c26 :: c27 :: c28 :: c29 :: c30 :: c31 :: c32 :: c33 :: c34 :: c35 :: c36 :: c37 :: c38 :: c39 :: c40 :: c41 :: c42 :: c43 :: c44 :: c45 :: c46 :: c47 :: c48 :: c49 :: c50 :: c51 :: c52 :: c53 :: c54 :: c55 :: c56 :: c57 :: c58 :: c59 :: c60 :: c61 :: c62 :: c63 :: c64 :: c65 :: c66 :: c67 :: c68 :: c69 :: c70 :: c71 :: c72 :: c73 :: c74 :: c75 :: c76 :: c77 :: c78 :: c79 :: c80 :: c81 :: c82 :: c83 :: c84 :: c85 :: c86 :: c87 :: c88 :: c89 :: c90 :: c91 :: c92 :: c93 :: c94 :: c95 :: c96 :: c97 :: c98 :: c99 :: c100 :: c101 :: c102 :: c103 :: c104 :: c105 :: c106 :: c107 :: c108 :: c109 :: c110 :: c111 :: c112 :: c113 :: c114 :: c115 :: c116 :: c117 :: c118 :: c119 :: c120 :: c121 :: c122 :: c123 :: c124 :: c125 :: c126 :: c127 :: c128 :: c129 :: c130 :: c131 :: c132 :: c133 :: c134 :: c135 :: c136 :: c137 :: c138 :: c139 :: c140 :: c141 :: c142 :: c143 :: c144 :: c145 :: c146 :: c147 :: c148 :: c149 :: c150 :: c151 :: c152 :: c153 :: c154 :: c155 :: c156 :: c157 :: c158 :: c159 :: c160 :: c161 :: c162 :: c163 :: c164 :: c165 :: c166 :: c167 :: c168 :: c169 :: c170 :: c171 :: c172 :: c173 :: c174 :: c175 :: c176 :: c177 :: c178 :: c179 :: c180 :: c181 :: c182 :: c183 :: c184 :: c185 :: c186 :: c187 :: c188 :: c189 :: c190 :: c191 :: c192 :: c193 :: c194 :: c195 :: c196 :: c197 :: c198 :: c199 :: c200 :: c201 :: c202 :: c203 :: c204 :: c205 :: c206 :: c207 :: c208 :: c209 :: c210 :: c211 :: c212 :: c213 :: c214 :: c215 :: c216 :: c217 :: c218 :: c219 :: c220 :: c221 :: c222 :: c223 :: c224 :: c225 :: c226 :: c227 :: c228 :: c229 :: c230 :: c231 :: c232 :: c233 :: c234 :: c235 :: c236 :: c237 :: c238 :: c239 :: c240 :: []).toArray, []⟩ w := by
  have hfr : r.fr = [] := List.eq_nil_of_length_eq_zero (hP.efl.trans h0)
  have low : ∀ w', Turn (fun x => x = dv) w w' → Below w0.heap.size w0 w' := fun w' t => hB.trans (t.below hB.size (fun b e => by have e' : b = dv := e; rw [e']; exact hge))
  have dz_ : ∀ g c w', DepF r.nat.days (depthP (xR r).nat) w' #[.int .i64 r.depth.lo, .int .i64 r.depth.hi, .int .i64 r.fall.lo, .int .i64 r.fall.hi, .int .i64 r.days, .slice (some ⟨g, 0, none⟩) fl c, .slice none 0 0] := fun g c w' =>
    DepF.of (r := xR r) (fa := some ⟨g, 0, none⟩) (fl := fl) (fc := c) (la := none) (ll := 0) (lc := 0) (x_ok hok) (free_truths (x_ok hok) rfl) ⟨hP.efl, rfl, by show RdG _ _ _ _ _ r.fr; rw [hfr]; exact RdG.nil _ _ _ _ _, RdG.nil _ _ _ _ _, hP.mfl, by omega⟩
  have H : Hid (∀ (c0 c1 c2 c4 c5 c6 c12 c13 c14 c15 c16 c17 c18 c19 c20 c21 c22 c23 c24 c25 c26 c27 c28 c29 c30 c31 c32 c33 c34 c35 c36 c37 c38 c39 c40 c41 c42 c43 c44 c45 c46 c47 c48 c49 c50 c51 c52 c53 c54 c55 c56 c57 c58 c59 c60 c61 c62 c63 c64 c65 c66 c67 c68 c69 c70 c71 c72 c73 c74 c75 c76 c77 c78 c79 c80 c81 c82 c83 c84 c85 c86 c87 c88 c89 c90 c91 c92 c93 c94 c95 c96 c97 c98 c99 c100 c101 c102 c103 c104 c105 c106 c107 c108 c109 c110 c111 c112 c113 c114 c115 c116 c117 c118 c119 c120 c121 c122 c123 c124 c125 c126 c127 c128 c129 c130 c131 c132 c133 c134 c135 c136 c137 c138 c139 c140 c141 c142 c143 c144 c145 c146 c147 c148 c149 c150 c151 c152 c153 c154 c155 c156 c157 c158 c159 c160 c161 c162 c163 c164 c165 c166 c167 c168 c169 c170 c171 c172 c173 c174 c175 c176 c177 c178 c179 c180 c181 c182 c183 c184 c185 c186 c187 c188 c189 c190 c191 c192 c193 c194 c195 c196 c197 c198 c199 c200 c201 c202 c203 c204 c205 c206 c207 c208 c209 c210 c211 c212 c213 c214 c215 c216 c217 c218 c219 c220 c221 c222 c223 c224 c225 c226 c227 c228 c229 c230 c231 c232 c233 c234 c235 c236 c237 c238 c239 c240 : Value), Code.wp Try.prog (fallsK 8) (bodyPost Try.prog Try.f9 (LawTrueF w0)) ⟨(c0 :: c1 :: c2 :: (.pointer (some ⟨b3, 0, none⟩)) :: c4 :: c5 :: c6 :: (.pointer (some ⟨dx, 0, none⟩)) :: (.pointer (some ⟨dy, 0, none⟩)) :: (.pointer (some ⟨dz, 0, none⟩)) :: (.pointer (some ⟨dt, 0, none⟩)) :: (.pointer (some ⟨dv, 0, none⟩)) :: c12 :: c13 :: c14 :: c15 :: c16 :: c17 :: c18 :: c19 :: c20 :: c21 :: c22 :: c23 :: c24 :: c25 :: c26 :: c27 :: c28 :: c29 :: c30 :: c31 :: c32 :: c33 :: c34 :: c35 :: c36 :: c37 :: c38 :: c39 :: c40 :: c41 :: c42 :: c43 :: c44 :: c45 :: c46 :: c47 :: c48 :: c49 :: c50 :: c51 :: c52 :: c53 :: c54 :: c55 :: c56 :: c57 :: c58 :: c59 :: c60 :: c61 :: c62 :: c63 :: c64 :: c65 :: c66 :: c67 :: c68 :: c69 :: c70 :: c71 :: c72 :: c73 :: c74 :: c75 :: c76 :: c77 :: c78 :: c79 :: c80 :: c81 :: c82 :: c83 :: c84 :: c85 :: c86 :: c87 :: c88 :: c89 :: c90 :: c91 :: c92 :: c93 :: c94 :: c95 :: c96 :: c97 :: c98 :: c99 :: c100 :: c101 :: c102 :: c103 :: c104 :: c105 :: c106 :: c107 :: c108 :: c109 :: c110 :: c111 :: c112 :: c113 :: c114 :: c115 :: c116 :: c117 :: c118 :: c119 :: c120 :: c121 :: c122 :: c123 :: c124 :: c125 :: c126 :: c127 :: c128 :: c129 :: c130 :: c131 :: c132 :: c133 :: c134 :: c135 :: c136 :: c137 :: c138 :: c139 :: c140 :: c141 :: c142 :: c143 :: c144 :: c145 :: c146 :: c147 :: c148 :: c149 :: c150 :: c151 :: c152 :: c153 :: c154 :: c155 :: c156 :: c157 :: c158 :: c159 :: c160 :: c161 :: c162 :: c163 :: c164 :: c165 :: c166 :: c167 :: c168 :: c169 :: c170 :: c171 :: c172 :: c173 :: c174 :: c175 :: c176 :: c177 :: c178 :: c179 :: c180 :: c181 :: c182 :: c183 :: c184 :: c185 :: c186 :: c187 :: c188 :: c189 :: c190 :: c191 :: c192 :: c193 :: c194 :: c195 :: c196 :: c197 :: c198 :: c199 :: c200 :: c201 :: c202 :: c203 :: c204 :: c205 :: c206 :: c207 :: c208 :: c209 :: c210 :: c211 :: c212 :: c213 :: c214 :: c215 :: c216 :: c217 :: c218 :: c219 :: c220 :: c221 :: c222 :: c223 :: c224 :: c225 :: c226 :: c227 :: c228 :: c229 :: c230 :: c231 :: c232 :: c233 :: c234 :: c235 :: c236 :: c237 :: c238 :: c239 :: c240 :: []).toArray, []⟩ w) :=
    falls8 (ax := depthP (xR r).nat) (ay := depthP (yR r).nat) (az := depthP (xR r).nat) (at_ := depthP (xR r).nat) (au := auF r) hok (fun d _ => y_falls hok d) (fun d _ => ⟨Nat.le_refl _, Nat.le_refl _⟩) (fun d _ => ⟨Nat.le_refl _, Nat.le_refl _⟩) (fun d _ => au_falls hok d)
      hB hR hX (fun w' t => dep_x hok hP (low w' t)) hY (fun w' t => dep_y hok (low w' t)) hZ (fun w' _ => dz_ _ _ w') hT (fun w' _ => dz_ _ _ w') hV (fun h w' t => dep_v0 hok hP h (low w' t)) (fun h w' t => dep_v1 hok hP h (low w' t)) hnv hge
  have r5 := hR.cell 5
  have rl := hR.lt
  simp at r5
  rw [h0] at r5
  conv => arg 2; whnf
  conv => arg 2; arg 2; change fallsK 8
  clear hP hB hR hX hY hZ hT hV hnv hge low dz_ hok h0 hfr
  go_wp2
  exact H.out _ _ _ _ _ _ _ _ _ _ _ _ _ _ _ _ _ _ _ _ _ _ _ _ _ _ _ _ _ _ _ _ _ _ _ _ _ _ _ _ _ _ _ _ _ _ _ _ _ _ _ _ _ _ _ _ _ _ _ _ _ _ _ _ _ _ _ _ _ _ _ _ _ _ _ _ _ _ _ _ _ _ _ _ _ _ _ _ _ _ _ _ _ _ _ _ _ _ _ _ _ _ _ _ _ _ _ _ _ _ _ _ _ _ _ _ _ _ _ _ _ _ _ _ _ _ _ _ _ _ _ _ _ _ _ _ _ _ _ _ _ _ _ _ _ _ _ _ _ _ _ _ _ _ _ _ _ _ _ _ _ _ _ _ _ _ _ _ _ _ _ _ _ _ _ _ _ _ _ _ _ _ _ _ _ _ _ _ _ _ _ _ _ _ _ _ _ _ _ _ _ _ _ _ _ _ _ _ _ _ _ _ _ _ _ _ _ _ _ _ _ _ _ _ _ _ _ _ _ _ _ _ _ _ _
set_option maxRecDepth 100000 in
set_option maxHeartbeats 6400000 in
theorem falls6 (hok : okR r = true) (hfc : fl ≤ fc) {wh mu : Nat} (hwh : wh ≤ 255) (hmu : mu ≤ 255) {w0 W : World} (hP : RvIn w0 w0.heap.size fa fl la ll r) (hB : Below w0.heap.size w0 W)
    (hR : Blk W b3 27 #[.int .i64 r.depth.lo, .int .i64 r.depth.hi, .int .i64 r.fall.lo, .int .i64 r.fall.hi, .int .i64 r.days, .slice fa fl fc, .slice la ll lc]) (hX : Blk W dx 27 #[.int .i64 r.depth.lo, .int .i64 r.depth.hi, .int .i64 r.fall.lo, .int .i64 r.fall.hi, .int .i64 r.days, .slice fa fl fc, .slice none 0 0]) (hY : Blk W dy 27 #[.int .i64 r.depth.lo, .int .i64 r.depth.hi, .int .i64 r.fall.lo, .int .i64 r.fall.hi, .int .i64 r.days, .slice none 0 0, .slice none 0 0]) (hZ : Blk W dz 27 #[.int .i64 r.depth.lo, .int .i64 r.depth.hi, .int .i64 r.fall.lo, .int .i64 r.fall.hi, .int .i64 r.days, .slice fa fl fc, .slice none 0 0]) (hT : Blk W dt 27 #[.int .i64 r.depth.lo, .int .i64 r.depth.hi, .int .i64 r.fall.lo, .int .i64 r.fall.hi, .int .i64 r.days, .slice fa fl fc, .slice none 0 0]) (hV : Blk W dv 27 #[.int .i64 r.depth.lo, .int .i64 r.depth.hi, .int .i64 r.fall.lo, .int .i64 r.fall.hi, .int .i64 r.days, .slice fa fl fc, .slice none 0 0])
    (hne : b3 ≠ dz ∧ b3 ≠ dt ∧ dx ≠ dz ∧ dx ≠ dt ∧ dy ≠ dz ∧ dy ≠ dt ∧ dz ≠ dt) (hnv : dv ≠ b3 ∧ dv ≠ dx ∧ dv ≠ dy ∧ dv ≠ dz ∧ dv ≠ dt) (hge : w0.heap.size ≤ dz ∧ w0.heap.size ≤ dt ∧ w0.heap.size ≤ dv) (c0 c4 c5 c6 c12 c13 c14 c15 c16 c17 c18 c19 c20 c21 c22 c23 c24 c25 c26 c27 c28 c29 c30 c31 c32 c33 c34 c35 c36 c37 c38 c39 c40 c41 c42 c43 c44 c45 c46 c47 c48 c49 c50 c51 c52 c53 c54 c55 c56 c57 c58 c59 c60 c61 c62 c63 c64 c65 c66 c67 c68 c69 c70 c71 c72 c73 c74 c75 c76 c77 c78 c79 c80 c81 c82 c83 c84 c85 c86 c87 c88 c89 c90 c91 c92 c93 c94 c95 c96 c97 c98 c99 c100 c101 c102 c103 c104 c105 c106 c107 c108 c109 c110 c111 c112 c113 c114 c115 c116 c117 c118 c119 c120 c121 c122 c123 c124 c125 c126 c127 c128 c129 c130 c131 c132 c133 c134 c135 c136 c137 c138 c139 c140 c141 c142 c143 c144 c145 c146 c147 c148 c149 c150 c151 c152 c153 c154 c155 c156 c157 c158 c159 c160 c161 c162 c163 c164 c165 c166 c167 c168 c169 c170 c171 c172 c173 c174 c175 c176 c177 c178 c179 c180 c181 c182 c183 c184 c185 c186 c187 c188 c189 c190 c191 c192 c193 c194 c195 c196 c197 c198 c199 c200 c201 c202 c203 c204 c205 c206 c207 c208 c209 c210 c211 c212 c213 c214 c215 c216 c217 c218 c219 c220 c221 c222 c223 c224 c225 c226 c227 c228 c229 c230 c231 c232 c233 c234 c235 c236 c237 c238 c239 c240 : Value) :
    Code.wp Try.prog (fallsK 6) (bodyPost Try.prog Try.f9 (LawTrueF w0)) ⟨(c0 :: (.int .u8 wh) :: (.int .u8 mu) :: (.pointer (some ⟨b3, 0, none⟩)) :: c4 :: c5 :: c6 :: (.pointer (some ⟨dx, 0, none⟩)) :: (.pointer (some ⟨dy, 0, none⟩)) :: (.pointer (some ⟨dz, 0, none⟩)) :: (.pointer (some ⟨dt, 0, none⟩)) :: (.pointer (some ⟨dv, 0, none⟩)) :: c12 :: c13 :: c14 :: c15 :: c16 :: c17 :: c18 :: c19 :: c20 :: c21 :: c22 :: c23 :: c24 :: c25 :: c26 :: c27 :: c28 :: c29 :: c30 :: c31 :: c32 :: c33 :: c34 :: c35 :: c36 :: c37 :: c38 :: c39 :: c40 :: c41 :: c42 :: c43 :: c44 :: c45 :: c46 :: c47 :: c48 :: c49 :: c50 :: c51 :: c52 :: c53 :: c54 :: c55 :: c56 :: c57 :: c58 :: c59 :: c60 :: c61 :: c62 :: c63 :: c64 :: c65 :: c66 :: c67 :: c68 :: c69 :: c70 :: c71 :: c72 :: c73 :: c74 :: c75 :: c76 :: c77 :: c78 :: c79 :: c80 :: c81 :: c82 :: c83 :: c84 :: c85 :: c86 :: c87 :: c88 :: c89 :: c90 :: c91 :: c92 :: c93 :: c94 :: c95 :: c96 :: c97 :: c98 :: c99 :: c100 :: c101 :: c102 :: c103 :: c104 :: c105 :: c106 :: c107 :: c108 :: c109 :: c110 :: c111 :: c112 :: c113 :: c114 :: c115 :: c116 :: c117 :: c118 :: c119 :: c120 :: c121 :: c122 :: c123 :: c124 :: c125 :: c126 :: c127 :: c128 :: c129 :: c130 :: c131 :: c132 :: c133 :: c134 :: c135 :: c136 :: c137 :: c138 :: c139 :: c140 :: c141 :: c142 :: c143 :: c144 :: c145 :: c146 :: c147 :: c148 :: c149 :: c150 :: c151 :: c152 :: c153 :: c154 :: c155 :: c156 :: c157 :: c158 :: c159 :: c160 :: c161 :: c162 :: c163 :: c164 :: c165 :: c166 :: c167 :: c168 :: c169 :: c170 :: c171 :: c172 :: c173 :: c174 :: c175 :: c176 :: c177 :: c178 :: c179 :: c180 :: c181 :: c182 :: c183 :: c184 :: c185 :: c186 :: c187 :: c188 :: c189 :: c190 :: c191 :: c192 :: c193 :: c194 :: c195 :: c196 :: c197 :: c198 :: c199 :: c200 :: c201 :: c202 :: c203 :: c204 :: c205 :: c206 :: c207 :: c208 :: c209 :: c210 :: c211 :: c212 :: c213 :: c214 :: c215 :: c216 :: c217 :: c218 :: c219 :: c220 :: c221 :: c222 :: c223 :: c224 :: c225 :: c226 :: c227 :: c228 :: c229 :: c230 :: c231 :: c232 :: c233 :: c234 :: c235 :: c236 :: c237 :: c238 :: c239 :: c240 :: []).toArray, []⟩ W := by
  have HEF := Lib.hid hP.efl
  have hfl3 : fl ≤ 3 := by rw [← hP.efl]; exact (okR_pts hok).1.2.2.2.1
  have HOK := Lib.hid hok
  have HP := Lib.hid hP
  have HB := Lib.hid hB
  have HR := Lib.hid hR
  have HX := Lib.hid hX
  have HY := Lib.hid hY
  have HZ := Lib.hid hZ
  have HT := Lib.hid hT
  have HV := Lib.hid hV
  have HNE := Lib.hid hne
  have HNV := Lib.hid hnv
  have HGE := Lib.hid hge
  have HN3 : Hid (¬ (b3 = dz ∨ b3 = dt)) := fun e => e.elim hne.1 hne.2.1
  have HZT : Hid (dz ≠ dt) := hne.2.2.2.2.2.2
  have HLT : Hid (dz < W.heap.size ∧ dt < W.heap.size) := ⟨hZ.lt, hT.lt⟩
  have HSG : Hid (∀ b, (b = dz ∨ b = dt) → w0.heap.size ≤ b) := fun b e => by
    rcases e with rfl | rfl
    · exact hge.1
    · exact hge.2.1
  obtain ⟨i0, hi, hz0, hz1, hz2⟩ := info_parts infoE55
  have HI := Lib.hid hi
  have HI0 := Lib.hid hz0
  have HI1 := Lib.hid hz1
  have HI2 := Lib.hid hz2
  conv => arg 2; whnf
  conv => arg 2; arg 2; change fallsK 7
  clear hi hz0 hz1 hz2 hP hB hR hX hY hZ hT hV hne hnv hge hok
  go_upto_region 7 with fail
  rename ∀ a w, Code.wp Try.prog (fallsK 7) _ a w → _ => hKU
  have HKU := Lib.hid hKU
  clear hKU
  refine HavG.wp_region_tabX (R := (TP (ι := Empty) (fun x => x = dz ∨ x = dt) (fun i _ => i.elim) (fun i => i.elim))) (fun i V w => fall7T W.heap.size dz dt b3 fa fl fc r i V w) (fun i w => fall7S dz dt fa fl fc r i w) (nwF fl) [some 42, some 43, some 44, some 45, some 46, some 47, some 48, some 49, some 50, none, some 51, none] (by kernel_rfl) (by kernel_rfl) (by rfl) (fun i _ => fall7S_grow (fall7S_zero HZ.out HT.out i) (Below.drew (Below.refl _ _))) ?_ (fun i hi V w h => by obtain ⟨-, rfl | rfl⟩ := nwF_mem.1 hi <;> (obtain ⟨g, c, e, h⟩ := h; rw [e]; exact (own_blk h).choose_spec.1.lt)) ?_ ?_
  · intro i hi V V' w h hV
    match i, hi, h, hV with
    | 0, _, h, hV => (obtain ⟨g, e, h⟩ := h; exact ⟨g, (hV 0 (.inl rfl)).symm.trans e, h⟩)
    | 1, _, h, hV => exact (hV _ (.inl rfl)).symm.trans h
    | 2, _, h, hV => exact (hV _ (.inl rfl)).symm.trans h
    | 3, _, h, hV => (obtain ⟨g, c, e, h⟩ := h; exact ⟨g, c, (hV 3 (.inl rfl)).symm.trans e, h⟩)
    | 4, _, h, hV => (obtain ⟨g, e, h⟩ := h; exact ⟨g, (hV 4 (.inl rfl)).symm.trans e, h⟩)
    | 5, _, h, hV => exact (hV _ (.inl rfl)).symm.trans h
    | 6, _, h, hV => exact (hV _ (.inl rfl)).symm.trans h
    | 7, _, h, hV => (obtain ⟨g, c, e, h⟩ := h; exact ⟨g, c, (hV 7 (.inl rfl)).symm.trans e, h⟩)
    | 8, _, h, hV => exact (hV _ (.inl rfl)).symm.trans h
    | 9, _, h, hV => (obtain ⟨g, c, e, h⟩ := h; exact ⟨g, c, (hV 3 (.inr (by kernel_rfl))).symm.trans e, h⟩)
    | 10, _, h, hV => exact (hV _ (.inl rfl)).symm.trans h
    | 11, _, h, hV => (obtain ⟨g, c, e, h⟩ := h; exact ⟨g, c, (hV 7 (.inr (by kernel_rfl))).symm.trans e, h⟩)
    | j + 12, hj, _, _ => exact absurd hj (by simp)
  · intro i hi oo a' w' ho hag hg hd hps
    match i, hi, ho, hd, hps with
    | 0, _, ho, hd, hps =>
      (simp only [List.getElem?_toArray, List.getElem?_cons_zero, Option.some.injEq] at ho; subst ho)
      refine HavG.tabX_val rfl (by simp) ⟨.slice (some ⟨w'.heap.size, 0, none⟩) 0 0, w'.alloc (.cells #[] 55), ?_, ⟨(Turn.refl _ _).alloc _, fun i => i.elim⟩, fun j V _ _ h => fall7_grow h ((Below.refl _ _).alloc (Nat.le_refl _) _), fun j _ _ _ h => fall7S_grow h ((Below.refl _ _).alloc (Nat.le_refl _) _), fun V _ hv => ⟨w'.heap.size, hv, own_base (ownsRow_empty rfl 55 4) hg.1.size⟩, fun h => absurd (nwF_mem.1 h).2 (by decide)⟩
      go_simp
    | 1, _, ho, hd, hps =>
      (simp only [List.getElem?_toArray, List.getElem?_cons_succ, List.getElem?_cons_zero, Option.some.injEq] at ho; subst ho)
      have s3 : a'.tmps[3]?.getD undef = (.pointer (some ⟨b3, 0, none⟩)) := by rw [← Array.getD_eq_getD_getElem?]; exact hag.slot 3 (by kernel_rfl)
      have r3 : a'.tmps.getD 3 undef = (.pointer (some ⟨b3, 0, none⟩)) := hag.slot 3 (by kernel_rfl)
      refine HavG.tabX_val rfl (by simp) ⟨.pointer (some ⟨b3, 5, none⟩), w', ?_, HavG.Rel.refl _ _, fun _ _ _ _ h => h, fun _ _ _ _ h => h, fun V _ hv => hv, fun h => absurd (nwF_mem.1 h).2 (by decide)⟩
      go_simp
      try rfl
    | 2, _, ho, hd, hps =>
      (simp only [List.getElem?_toArray, List.getElem?_cons_succ, List.getElem?_cons_zero, Option.some.injEq] at ho; subst ho)
      have d43 : a'.tmps.getD 43 undef = (.pointer (some ⟨b3, 5, none⟩)) := hd 1 (by kernel_rfl) (by decide)
      have c43 : a'.tmps[43]?.getD undef = (.pointer (some ⟨b3, 5, none⟩)) := by rw [← Array.getD_eq_getD_getElem?]; exact d43
      have hb3 := HR.out.turn hg.1 HN3.out
      have z5 := hb3.cell 5
      have zl := hb3.lt
      simp at z5
      clear hb3
      refine HavG.tabX_val rfl (by simp) ⟨.slice fa fl fc, w', ?_, HavG.Rel.refl _ _, fun _ _ _ _ h => h, fun _ _ _ _ h => h, fun V _ hv => hv, fun h => absurd (nwF_mem.1 h).2 (by decide)⟩
      go_simp
      try rfl
    | 3, _, ho, hd, hps =>
      (simp only [List.getElem?_toArray, List.getElem?_cons_succ, List.getElem?_cons_zero, Option.some.injEq] at ho; subst ho)
      obtain ⟨g, e3, h3⟩ : ∃ g, HavG.slot a' 42 = .slice (some ⟨g, 0, none⟩) 0 0 ∧ _ := hd 0 (by kernel_rfl) (by decide)
      have e4 : HavG.slot a' 44 = .slice fa fl fc := hd 2 (by kernel_rfl) (by decide)
      obtain ⟨v', w2, hrun, ⟨g', c', rfl, hnew⟩, hown, hb⟩ := append_copy (P := Try.prog) (α := IFr) (f := frI) (n := fl) (c := fc) (A := fa) (l := r.fr) 24 24 55 i0 _ 4 32 Try.underlying24 HI.out HI0.out HI1.out HI2.out rfl (by decide) frI_len HEF.out (HP.out.grow (HB.out.trans (hg.1.below HB.out.size HSG.out))).hfr (by omega) (by omega) hg.1.size h3
      exact HavG.tabX_val rfl (by simp) ⟨_, w2, append_oper rfl e3 e4 hrun, ⟨Turn.of_below hb, fun i => i.elim⟩, fun j V _ _ h => fall7_grow h hb, fun j _ _ _ h => fall7S_grow h hb, fun V _ hv => ⟨_, _, hv, hown⟩, fun h => hnew (nwF_mem.1 h).1⟩
    | 4, _, ho, hd, hps =>
      (simp only [List.getElem?_toArray, List.getElem?_cons_succ, List.getElem?_cons_zero, Option.some.injEq] at ho; subst ho)
      refine HavG.tabX_val rfl (by simp) ⟨.slice (some ⟨w'.heap.size, 0, none⟩) 0 0, w'.alloc (.cells #[] 55), ?_, ⟨(Turn.refl _ _).alloc _, fun i => i.elim⟩, fun j V _ _ h => fall7_grow h ((Below.refl _ _).alloc (Nat.le_refl _) _), fun j _ _ _ h => fall7S_grow h ((Below.refl _ _).alloc (Nat.le_refl _) _), fun V _ hv => ⟨w'.heap.size, hv, own_base (ownsRow_empty rfl 55 4) hg.1.size⟩, fun h => absurd (nwF_mem.1 h).2 (by decide)⟩
      go_simp
    | 5, _, ho, hd, hps =>
      (simp only [List.getElem?_toArray, List.getElem?_cons_succ, List.getElem?_cons_zero, Option.some.injEq] at ho; subst ho)
      have s3 : a'.tmps[3]?.getD undef = (.pointer (some ⟨b3, 0, none⟩)) := by rw [← Array.getD_eq_getD_getElem?]; exact hag.slot 3 (by kernel_rfl)
      have r3 : a'.tmps.getD 3 undef = (.pointer (some ⟨b3, 0, none⟩)) := hag.slot 3 (by kernel_rfl)
      refine HavG.tabX_val rfl (by simp) ⟨.pointer (some ⟨b3, 5, none⟩), w', ?_, HavG.Rel.refl _ _, fun _ _ _ _ h => h, fun _ _ _ _ h => h, fun V _ hv => hv, fun h => absurd (nwF_mem.1 h).2 (by decide)⟩
      go_simp
      try rfl
    | 6, _, ho, hd, hps =>
      (simp only [List.getElem?_toArray, List.getElem?_cons_succ, List.getElem?_cons_zero, Option.some.injEq] at ho; subst ho)
      have d47 : a'.tmps.getD 47 undef = (.pointer (some ⟨b3, 5, none⟩)) := hd 5 (by kernel_rfl) (by decide)
      have c47 : a'.tmps[47]?.getD undef = (.pointer (some ⟨b3, 5, none⟩)) := by rw [← Array.getD_eq_getD_getElem?]; exact d47
      have hb3 := HR.out.turn hg.1 HN3.out
      have z5 := hb3.cell 5
      have zl := hb3.lt
      simp at z5
      clear hb3
      refine HavG.tabX_val rfl (by simp) ⟨.slice fa fl fc, w', ?_, HavG.Rel.refl _ _, fun _ _ _ _ h => h, fun _ _ _ _ h => h, fun V _ hv => hv, fun h => absurd (nwF_mem.1 h).2 (by decide)⟩
      go_simp
      try rfl
    | 7, _, ho, hd, hps =>
      (simp only [List.getElem?_toArray, List.getElem?_cons_succ, List.getElem?_cons_zero, Option.some.injEq] at ho; subst ho)
      obtain ⟨g, e3, h3⟩ : ∃ g, HavG.slot a' 46 = .slice (some ⟨g, 0, none⟩) 0 0 ∧ _ := hd 4 (by kernel_rfl) (by decide)
      have e4 : HavG.slot a' 48 = .slice fa fl fc := hd 6 (by kernel_rfl) (by decide)
      obtain ⟨v', w2, hrun, ⟨g', c', rfl, hnew⟩, hown, hb⟩ := append_copy (P := Try.prog) (α := IFr) (f := frI) (n := fl) (c := fc) (A := fa) (l := r.fr) 24 24 55 i0 _ 4 32 Try.underlying24 HI.out HI0.out HI1.out HI2.out rfl (by decide) frI_len HEF.out (HP.out.grow (HB.out.trans (hg.1.below HB.out.size HSG.out))).hfr (by omega) (by omega) hg.1.size h3
      exact HavG.tabX_val rfl (by simp) ⟨_, w2, append_oper rfl e3 e4 hrun, ⟨Turn.of_below hb, fun i => i.elim⟩, fun j V _ _ h => fall7_grow h hb, fun j _ _ _ h => fall7S_grow h hb, fun V _ hv => ⟨_, _, hv, hown⟩, fun h => hnew (nwF_mem.1 h).1⟩
    | 8, _, ho, hd, hps =>
      (simp only [List.getElem?_toArray, List.getElem?_cons_succ, List.getElem?_cons_zero, Option.some.injEq] at ho; subst ho)
      have s9 : a'.tmps[9]?.getD undef = (.pointer (some ⟨dz, 0, none⟩)) := by rw [← Array.getD_eq_getD_getElem?]; exact hag.slot 9 (by kernel_rfl)
      have r9 : a'.tmps.getD 9 undef = (.pointer (some ⟨dz, 0, none⟩)) := hag.slot 9 (by kernel_rfl)
      refine HavG.tabX_val rfl (by simp) ⟨.pointer (some ⟨dz, 5, none⟩), w', ?_, HavG.Rel.refl _ _, fun _ _ _ _ h => h, fun _ _ _ _ h => h, fun V _ hv => hv, fun h => absurd (nwF_mem.1 h).2 (by decide)⟩
      go_simp
      try rfl
    | 9, _, ho, hd, hps =>
      (simp only [List.getElem?_toArray, List.getElem?_cons_succ, List.getElem?_cons_zero, Option.some.injEq] at ho; subst ho)
      have d50 : a'.tmps.getD 50 undef = (.pointer (some ⟨dz, 5, none⟩)) := hd 8 (by kernel_rfl) (by decide)
      have c50 : a'.tmps[50]?.getD undef = (.pointer (some ⟨dz, 5, none⟩)) := by rw [← Array.getD_eq_getD_getElem?]; exact d50
      obtain ⟨g, c, e9, -⟩ : ∃ g c, HavG.slot a' 45 = .slice (some ⟨g, 0, none⟩) fl c ∧ _ := hd 3 (by kernel_rfl) (by decide)
      have d45 : a'.tmps.getD 45 undef = .slice (some ⟨g, 0, none⟩) fl c := e9
      have c45 : a'.tmps[45]?.getD undef = .slice (some ⟨g, 0, none⟩) fl c := by rw [← Array.getD_eq_getD_getElem?]; exact d45
      have hps' : Blk w' dz 27 #[.int .i64 r.depth.lo, .int .i64 r.depth.hi, .int .i64 r.fall.lo, .int .i64 r.fall.hi, .int .i64 r.days, .slice fa fl fc, .slice none 0 0] := hps
      have z5 := hps'.cell 5
      have z6 := hps'.frozen 5
      have zl := hps'.lt
      simp at z5
      have hnew : Blk (w'.setCell ⟨dz, 5, none⟩ (.slice (some ⟨g, 0, none⟩) fl c)) dz 27 #[.int .i64 r.depth.lo, .int .i64 r.depth.hi, .int .i64 r.fall.lo, .int .i64 r.fall.hi, .int .i64 r.days, .slice (some ⟨g, 0, none⟩) fl c, .slice none 0 0] := by have h := hps'.set_ 5 (.slice (some ⟨g, 0, none⟩) fl c); simpa using h
      refine HavG.tabX_store rfl rfl (fun h => absurd (nwF_mem.1 h).2 (by decide)) ⟨w'.setCell ⟨dz, 5, none⟩ (.slice (some ⟨g, 0, none⟩) fl c), ?_, ⟨Turn.set _ _ (fun _ => .inl rfl), fun i => i.elim⟩, fun j V _ hj h => fall7_setz HLT.out HZT.out hj h, fun j _ hj _ h => fall7_setzS HZT.out hj h, fun V hV => ⟨g, c, (hV 3 (by decide)).trans e9, hnew⟩⟩
      clear hnew hps hps' e9
      go_simp
      try rfl
    | 10, _, ho, hd, hps =>
      (simp only [List.getElem?_toArray, List.getElem?_cons_succ, List.getElem?_cons_zero, Option.some.injEq] at ho; subst ho)
      have s10 : a'.tmps[10]?.getD undef = (.pointer (some ⟨dt, 0, none⟩)) := by rw [← Array.getD_eq_getD_getElem?]; exact hag.slot 10 (by kernel_rfl)
      have r10 : a'.tmps.getD 10 undef = (.pointer (some ⟨dt, 0, none⟩)) := hag.slot 10 (by kernel_rfl)
      refine HavG.tabX_val rfl (by simp) ⟨.pointer (some ⟨dt, 5, none⟩), w', ?_, HavG.Rel.refl _ _, fun _ _ _ _ h => h, fun _ _ _ _ h => h, fun V _ hv => hv, fun h => absurd (nwF_mem.1 h).2 (by decide)⟩
      go_simp
      try rfl
    | 11, _, ho, hd, hps =>
      (simp only [List.getElem?_toArray, List.getElem?_cons_succ, List.getElem?_cons_zero, Option.some.injEq] at ho; subst ho)
      have d51 : a'.tmps.getD 51 undef = (.pointer (some ⟨dt, 5, none⟩)) := hd 10 (by kernel_rfl) (by decide)
      have c51 : a'.tmps[51]?.getD undef = (.pointer (some ⟨dt, 5, none⟩)) := by rw [← Array.getD_eq_getD_getElem?]; exact d51
      obtain ⟨g, c, e9, -⟩ : ∃ g c, HavG.slot a' 49 = .slice (some ⟨g, 0, none⟩) fl c ∧ _ := hd 7 (by kernel_rfl) (by decide)
      have d49 : a'.tmps.getD 49 undef = .slice (some ⟨g, 0, none⟩) fl c := e9
      have c49 : a'.tmps[49]?.getD undef = .slice (some ⟨g, 0, none⟩) fl c := by rw [← Array.getD_eq_getD_getElem?]; exact d49
      have hps' : Blk w' dt 27 #[.int .i64 r.depth.lo, .int .i64 r.depth.hi, .int .i64 r.fall.lo, .int .i64 r.fall.hi, .int .i64 r.days, .slice fa fl fc, .slice none 0 0] := hps
      have z5 := hps'.cell 5
      have z6 := hps'.frozen 5
      have zl := hps'.lt
      simp at z5
      have hnew : Blk (w'.setCell ⟨dt, 5, none⟩ (.slice (some ⟨g, 0, none⟩) fl c)) dt 27 #[.int .i64 r.depth.lo, .int .i64 r.depth.hi, .int .i64 r.fall.lo, .int .i64 r.fall.hi, .int .i64 r.days, .slice (some ⟨g, 0, none⟩) fl c, .slice none 0 0] := by have h := hps'.set_ 5 (.slice (some ⟨g, 0, none⟩) fl c); simpa using h
      refine HavG.tabX_store rfl rfl (fun h => absurd (nwF_mem.1 h).2 (by decide)) ⟨w'.setCell ⟨dt, 5, none⟩ (.slice (some ⟨g, 0, none⟩) fl c), ?_, ⟨Turn.set _ _ (fun _ => .inr rfl), fun i => i.elim⟩, fun j V _ hj h => fall7_sett HLT.out HZT.out hj h, fun j _ hj _ h => fall7_settS HZT.out hj h, fun V hV => ⟨g, c, (hV 7 (by decide)).trans e9, hnew⟩⟩
      clear hnew hps hps' e9
      go_simp
      try rfl
    | j + 12, hj, _, _, _ => exact absurd hj (by simp)
  intro f w2 hg hf hap
  obtain ⟨g42, q42, -⟩ : ∃ g, f 42 = .slice (some ⟨g, 0, none⟩) 0 0 ∧ _ := hf 0 (by decide)
  have q43 : f 43 = _ := hf 1 (by decide)
  have q44 : f 44 = _ := hf 2 (by decide)
  obtain ⟨gz, cz, q45, oz⟩ : ∃ g c, f 45 = .slice (some ⟨g, 0, none⟩) fl c ∧ _ := hf 3 (by decide)
  obtain ⟨g46, q46, -⟩ : ∃ g, f 46 = .slice (some ⟨g, 0, none⟩) 0 0 ∧ _ := hf 4 (by decide)
  have q47 : f 47 = _ := hf 5 (by decide)
  have q48 : f 48 = _ := hf 6 (by decide)
  obtain ⟨gt, ct, q49, ot⟩ : ∃ g c, f 49 = .slice (some ⟨g, 0, none⟩) fl c ∧ _ := hf 7 (by decide)
  have q50 : f 50 = _ := hf 8 (by decide)
  have q51 : f 51 = _ := hf 10 (by decide)
  obtain ⟨g9, c9, k9, hz2⟩ : ∃ g c, f 45 = .slice (some ⟨g, 0, none⟩) fl c ∧ Blk w2 dz 27 #[.int .i64 r.depth.lo, .int .i64 r.depth.hi, .int .i64 r.fall.lo, .int .i64 r.fall.hi, .int .i64 r.days, .slice (some ⟨g, 0, none⟩) fl c, .slice none 0 0] := hf 9 (by decide)
  obtain ⟨g11, c11, k11, ht2⟩ : ∃ g c, f 49 = .slice (some ⟨g, 0, none⟩) fl c ∧ Blk w2 dt 27 #[.int .i64 r.depth.lo, .int .i64 r.depth.hi, .int .i64 r.fall.lo, .int .i64 r.fall.hi, .int .i64 r.days, .slice (some ⟨g, 0, none⟩) fl c, .slice none 0 0] := hf 11 (by decide)
  obtain ⟨rfl, rfl⟩ : gz = g9 ∧ cz = c9 := by rw [q45] at k9; injection k9 with a1 a2 a3; injection a1 with a1; injection a1 with a1; exact ⟨a1, a3⟩
  obtain ⟨rfl, rfl⟩ : gt = g11 ∧ ct = c11 := by rw [q49] at k11; injection k11 with a1 a2 a3; injection a1 with a1; injection a1 with a1; exact ⟨a1, a3⟩
  have hgg : 0 < fl → gz ≠ gt := fun h0 e => by
    have h := hap 3 7 (nwF_mem.2 ⟨h0, .inl rfl⟩) (nwF_mem.2 ⟨h0, .inr rfl⟩) (by decide) (by simp) (by simp)
    have h' : HavG.bkV (f 45) ≠ HavG.bkV (f 49) := h
    rw [q45, q49] at h'
    exact h' e
  have tt := hg.1
  simp only [List.filterMap, HavG.puts, List.foldl_cons, List.foldl_nil, Act.put, List.setIfInBounds_toArray, List.set_cons_succ, List.set_cons_zero]
  rw [q42, q43, q44, q45, q46, q47, q48, q49, q50, q51]
  clear hf hap q42 q43 q44 q45 q46 q47 q48 q49 q50 q51 k9 k11 hg
  have n4 : ∀ {g cs}, Blk W g 27 cs → g ≠ dz → g ≠ dt → Blk w2 g 27 cs := fun hb hn hn2 => hb.turn tt (fun e => e.elim hn hn2)
  have b2 : Below w0.heap.size w0 w2 := HB.out.trans (tt.below HB.out.size HSG.out)
  obtain ⟨n1, n2, n3, n5, n6, n7, n8⟩ := HNE.out
  have HE := Lib.hid (And.intro (n4 HR.out n1 n2) (And.intro (n4 HX.out n3 n5) (And.intro (n4 HY.out n6 n7) (And.intro hz2 (And.intro ht2 (And.intro (n4 HV.out HNV.out.2.2.2.1 HNV.out.2.2.2.2) (And.intro b2 (And.intro (own_base oz HB.out.size) (And.intro (own_base ot HB.out.size) hgg)))))))))
  clear n4 b2 hz2 ht2 oz ot hgg tt n1 n2 n3 n5 n6 n7 n8
  go_wp2_with fail
  obtain ⟨e1, e2, e3, e4, e5, e6, e7, e8, e9, e10⟩ := HE.out
  by_cases h0 : 0 < fl
  · obtain ⟨f0, hf0⟩ : ∃ f, r.fr[0]? = some f := ⟨r.fr[0]'(by rw [HEF.out]; exact h0), by simp⟩
    obtain ⟨fb, fo, rfl, -⟩ := HP.out.hfr 0 f0 hf0
    exact HKU.out _ _ (falls7a HOK.out hfc h0 hwh hmu HP.out e7 e1 e2 e3 e4 e5 e6 e8 e9 ⟨HNE.out.1, HNE.out.2.2.1, HNE.out.2.2.2.2.1, Ne.symm HZT.out, HNV.out.2.2.2.1⟩ HNV.out (e10 h0) ⟨HGE.out.1, HGE.out.2.2⟩ _ _ _ _ _ _ _ _ _ _ _ _ _ _ _ _ _ _ _ _ _ _ _ _ _ _ _ _ _ _ _ _ _ _ _ _ _ _ _ _ _ _ _ _ _ _ _ _ _ _ _ _ _ _ _ _ _ _ _ _ _ _ _ _ _ _ _ _ _ _ _ _ _ _ _ _ _ _ _ _ _ _ _ _ _ _ _ _ _ _ _ _ _ _ _ _ _ _ _ _ _ _ _ _ _ _ _ _ _ _ _ _ _ _ _ _ _ _ _ _ _ _ _ _ _ _ _ _ _ _ _ _ _ _ _ _ _ _ _ _ _ _ _ _ _ _ _ _ _ _ _ _ _ _ _ _ _ _ _ _ _ _ _ _ _ _ _ _ _ _ _ _ _ _ _ _ _ _ _ _ _ _ _ _ _ _ _ _ _ _ _ _ _ _ _ _ _ _ _ _ _ _ _ _ _ _ _ _ _ _ _ _ _ _ _ _ _ _ _ _ _ _ _ _ _ _ _ _ _ _ _ _ _)
  · exact HKU.out _ _ (falls7b HOK.out (by omega) HP.out e7 e1 e2 e3 e4 e5 e6 HNV.out HGE.out.2.2 _ _ _ _ _ _ _ _ _ _ _ _ _ _ _ _ _ _ _ _ _ _ _ _ _ _ _ _ _ _ _ _ _ _ _ _ _ _ _ _ _ _ _ _ _ _ _ _ _ _ _ _ _ _ _ _ _ _ _ _ _ _ _ _ _ _ _ _ _ _ _ _ _ _ _ _ _ _ _ _ _ _ _ _ _ _ _ _ _ _ _ _ _ _ _ _ _ _ _ _ _ _ _ _ _ _ _ _ _ _ _ _ _ _ _ _ _ _ _ _ _ _ _ _ _ _ _ _ _ _ _ _ _ _ _ _ _ _ _ _ _ _ _ _ _ _ _ _ _ _ _ _ _ _ _ _ _ _ _ _ _ _ _ _ _ _ _ _ _ _ _ _ _ _ _ _ _ _ _ _ _ _ _ _ _ _ _ _ _ _ _ _ _ _ _ _ _ _ _ _ _ _ _ _ _ _ _ _ _ _ _ _ _ _ _ _ _ _ _ _ _ _ _ _ _ _ _ _ _ _ _ _ _ _ _)
/-- A river, stored in a box. -/
theorem store27 {a : Act} {o : Oper} {d e g : Nat} {u0 u1 u2 u3 u4 u5 u6 : Value} {i0 i1 i2 i3 i4 : Int} {A A' : Option Addr} {n c n' c' : Nat} (ho : o.op = .store 27 (.tmp d) (.tmp e)) (h1 : a.tmps[d]?.getD undef = .pointer (some ⟨g, 0, none⟩)) (h2 : a.tmps[e]?.getD undef = .agg #[.int .i64 i0, .int .i64 i1, .int .i64 i2, .int .i64 i3, .int .i64 i4, .slice A n c, .slice A' n' c']) (hb : Blk w g 27 #[u0, u1, u2, u3, u4, u5, u6]) :
    (execOp a.eval o).run Try.prog w = .ok .skip (set7 w g (.int .i64 i0) (.int .i64 i1) (.int .i64 i2) (.int .i64 i3) (.int .i64 i4) (.slice A n c) (.slice A' n' c')) := by
  have c0 := hb.cell 0
  have c1 := hb.cell 1
  have c2 := hb.cell 2
  have c3 := hb.cell 3
  have c4 := hb.cell 4
  have c5 := hb.cell 5
  have c6 := hb.cell 6
  have f0 := hb.frozen 0
  have f1 := hb.frozen 1
  have f2 := hb.frozen 2
  have f3 := hb.frozen 3
  have f4 := hb.frozen 4
  have f5 := hb.frozen 5
  have f6 := hb.frozen 6
  have hl := hb.lt
  simp at c0 c1 c2 c3 c4 c5 c6
  unfold execOp set7
  rw [ho]
  go_simp
def zeroC : Array Value := #[.int .i64 0, .int .i64 0, .int .i64 0, .int .i64 0, .int .i64 0, .slice none 0 0, .slice none 0 0]
def fall5T (B : Nat) (X : Array Value) (i : Nat) (V : Nat → Value) (w : World) : Prop :=
  match i with
  | 0 => V 0 = .agg X
  | 1 => V 1 = .agg X
  | 2 => V 2 = .agg X
  | 3 => V 3 = .agg X
  | 4 => ∃ g, V 4 = .pointer (some ⟨g, 0, none⟩) ∧ B ≤ g ∧ (Blk w g 27 zeroC ∨ Blk w g 27 X)
  | 5 => ∃ g, V 5 = .pointer (some ⟨g, 0, none⟩) ∧ B ≤ g ∧ (Blk w g 27 zeroC ∨ Blk w g 27 X)
  | 6 => ∃ g, V 6 = .pointer (some ⟨g, 0, none⟩) ∧ B ≤ g ∧ (Blk w g 27 zeroC ∨ Blk w g 27 X)
  | 7 => ∃ g, V 7 = .pointer (some ⟨g, 0, none⟩) ∧ B ≤ g ∧ (Blk w g 27 zeroC ∨ Blk w g 27 X)
  | 8 => ∃ g, V 4 = .pointer (some ⟨g, 0, none⟩) ∧ B ≤ g ∧ Blk w g 27 X
  | 9 => ∃ g, V 5 = .pointer (some ⟨g, 0, none⟩) ∧ B ≤ g ∧ Blk w g 27 X
  | 10 => ∃ g, V 6 = .pointer (some ⟨g, 0, none⟩) ∧ B ≤ g ∧ Blk w g 27 X
  | _ => ∃ g, V 7 = .pointer (some ⟨g, 0, none⟩) ∧ B ≤ g ∧ Blk w g 27 X
theorem fall5_keep {X : Array Value} {i : Nat} {V : Nat → Value} (h : fall5T B X i V w) (k1 : ∀ g, Blk w g 27 X → Blk w' g 27 X) (k2 : ∀ g, Blk w g 27 zeroC → Blk w' g 27 zeroC ∨ Blk w' g 27 X) : fall5T B X i V w' := by
  unfold fall5T at h ⊢
  split at h
  all_goals first
    | exact h
    | (obtain ⟨g, e, hg, h⟩ := h; exact ⟨g, e, hg, h.elim (k2 g) (fun x => .inr (k1 g x))⟩)
    | (obtain ⟨g, e, hg, h⟩ := h; exact ⟨g, e, hg, k1 g h⟩)
theorem fall5_grow {X : Array Value} {i : Nat} {V : Nat → Value} (h : fall5T B X i V w) (hb : Below w.heap.size w w') : fall5T B X i V w' := fall5_keep h (fun _ x => x.below hb x.lt) (fun _ x => .inl (x.below hb x.lt))
theorem set7_far {g g' : Nat} {t : TypeId} {cs : Array Value} {u0 u1 u2 u3 u4 u5 u6 : Value} (h : Blk w g' t cs) (hn : g' ≠ g) : Blk (set7 w g u0 u1 u2 u3 u4 u5 u6) g' t cs := h.turn (set7_turn w g u0 u1 u2 u3 u4 u5 u6) hn
set_option maxRecDepth 100000 in
set_option maxHeartbeats 6400000 in
theorem falls4 (hok : okR r = true) (hfc : fl ≤ fc) {wh mu : Nat} (hwh : wh ≤ 255) (hmu : mu ≤ 255) {w0 K : World} (hP : RvIn w0 w0.heap.size fa fl la ll r) (hB : Below w0.heap.size w0 K)
    (hR : Blk K b3 27 #[.int .i64 r.depth.lo, .int .i64 r.depth.hi, .int .i64 r.fall.lo, .int .i64 r.fall.hi, .int .i64 r.days, .slice fa fl fc, .slice la ll lc]) (hX : Blk K dx 27 #[.int .i64 r.depth.lo, .int .i64 r.depth.hi, .int .i64 r.fall.lo, .int .i64 r.fall.hi, .int .i64 r.days, .slice fa fl fc, .slice none 0 0]) (c0 c4 c5 c6 c8 c9 c10 c11 c12 c13 c14 c15 c16 c17 c18 c19 c20 c21 c22 c23 c24 c25 c26 c27 c28 c29 c30 c31 c32 c33 c34 c35 c36 c37 c38 c39 c40 c41 c42 c43 c44 c45 c46 c47 c48 c49 c50 c51 c52 c53 c54 c55 c56 c57 c58 c59 c60 c61 c62 c63 c64 c65 c66 c67 c68 c69 c70 c71 c72 c73 c74 c75 c76 c77 c78 c79 c80 c81 c82 c83 c84 c85 c86 c87 c88 c89 c90 c91 c92 c93 c94 c95 c96 c97 c98 c99 c100 c101 c102 c103 c104 c105 c106 c107 c108 c109 c110 c111 c112 c113 c114 c115 c116 c117 c118 c119 c120 c121 c122 c123 c124 c125 c126 c127 c128 c129 c130 c131 c132 c133 c134 c135 c136 c137 c138 c139 c140 c141 c142 c143 c144 c145 c146 c147 c148 c149 c150 c151 c152 c153 c154 c155 c156 c157 c158 c159 c160 c161 c162 c163 c164 c165 c166 c167 c168 c169 c170 c171 c172 c173 c174 c175 c176 c177 c178 c179 c180 c181 c182 c183 c184 c185 c186 c187 c188 c189 c190 c191 c192 c193 c194 c195 c196 c197 c198 c199 c200 c201 c202 c203 c204 c205 c206 c207 c208 c209 c210 c211 c212 c213 c214 c215 c216 c217 c218 c219 c220 c221 c222 c223 c224 c225 c226 c227 c228 c229 c230 c231 c232 c233 c234 c235 c236 c237 c238 c239 c240 : Value) :
    Code.wp Try.prog (fallsK 4) (bodyPost Try.prog Try.f9 (LawTrueF w0)) ⟨(c0 :: (.int .u8 wh) :: (.int .u8 mu) :: (.pointer (some ⟨b3, 0, none⟩)) :: c4 :: c5 :: c6 :: (.pointer (some ⟨dx, 0, none⟩)) :: c8 :: c9 :: c10 :: c11 :: c12 :: c13 :: c14 :: c15 :: c16 :: c17 :: c18 :: c19 :: c20 :: c21 :: c22 :: c23 :: c24 :: c25 :: c26 :: c27 :: c28 :: c29 :: c30 :: c31 :: c32 :: c33 :: c34 :: c35 :: c36 :: c37 :: c38 :: c39 :: c40 :: c41 :: c42 :: c43 :: c44 :: c45 :: c46 :: c47 :: c48 :: c49 :: c50 :: c51 :: c52 :: c53 :: c54 :: c55 :: c56 :: c57 :: c58 :: c59 :: c60 :: c61 :: c62 :: c63 :: c64 :: c65 :: c66 :: c67 :: c68 :: c69 :: c70 :: c71 :: c72 :: c73 :: c74 :: c75 :: c76 :: c77 :: c78 :: c79 :: c80 :: c81 :: c82 :: c83 :: c84 :: c85 :: c86 :: c87 :: c88 :: c89 :: c90 :: c91 :: c92 :: c93 :: c94 :: c95 :: c96 :: c97 :: c98 :: c99 :: c100 :: c101 :: c102 :: c103 :: c104 :: c105 :: c106 :: c107 :: c108 :: c109 :: c110 :: c111 :: c112 :: c113 :: c114 :: c115 :: c116 :: c117 :: c118 :: c119 :: c120 :: c121 :: c122 :: c123 :: c124 :: c125 :: c126 :: c127 :: c128 :: c129 :: c130 :: c131 :: c132 :: c133 :: c134 :: c135 :: c136 :: c137 :: c138 :: c139 :: c140 :: c141 :: c142 :: c143 :: c144 :: c145 :: c146 :: c147 :: c148 :: c149 :: c150 :: c151 :: c152 :: c153 :: c154 :: c155 :: c156 :: c157 :: c158 :: c159 :: c160 :: c161 :: c162 :: c163 :: c164 :: c165 :: c166 :: c167 :: c168 :: c169 :: c170 :: c171 :: c172 :: c173 :: c174 :: c175 :: c176 :: c177 :: c178 :: c179 :: c180 :: c181 :: c182 :: c183 :: c184 :: c185 :: c186 :: c187 :: c188 :: c189 :: c190 :: c191 :: c192 :: c193 :: c194 :: c195 :: c196 :: c197 :: c198 :: c199 :: c200 :: c201 :: c202 :: c203 :: c204 :: c205 :: c206 :: c207 :: c208 :: c209 :: c210 :: c211 :: c212 :: c213 :: c214 :: c215 :: c216 :: c217 :: c218 :: c219 :: c220 :: c221 :: c222 :: c223 :: c224 :: c225 :: c226 :: c227 :: c228 :: c229 :: c230 :: c231 :: c232 :: c233 :: c234 :: c235 :: c236 :: c237 :: c238 :: c239 :: c240 :: []).toArray, []⟩ K := by
  have HOK := Lib.hid hok
  have HP := Lib.hid hP
  have HB := Lib.hid hB
  have HR := Lib.hid hR
  have HX := Lib.hid hX
  have HXB : Hid (¬ K.heap.size ≤ dx) := by have := hX.lt; show ¬ _; omega
  conv => arg 2; whnf
  conv => arg 2; arg 2; arg 2; change fallsK 6
  clear hP hB hR hX hok
  go_upto_region 5 with fail
  refine HavG.wp_region_tabX (R := (TP (ι := Empty) (fun x => K.heap.size ≤ x) (fun i _ => i.elim) (fun i => i.elim))) (fun i V w => fall5T K.heap.size #[.int .i64 r.depth.lo, .int .i64 r.depth.hi, .int .i64 r.fall.lo, .int .i64 r.fall.hi, .int .i64 r.days, .slice fa fl fc, .slice none 0 0] i V w) (fun i w => True) [4,5,6,7] [some 37, some 38, some 39, some 40, some 8, some 9, some 10, some 11, none, none, none, none] (by kernel_rfl) (by kernel_rfl) (by rfl) (fun _ _ => trivial) ?_ (fun i hi V w h => by simp only [List.mem_cons, List.not_mem_nil, or_false] at hi; rcases hi with rfl | rfl | rfl | rfl <;> (obtain ⟨g, e, -, h⟩ := h; rw [e]; exact h.elim (fun x => x.lt) fun x => x.lt)) ?_ ?_
  · intro i hi V V' w h hV
    match i, hi, h, hV with
    | 0, _, h, hV => exact (hV _ (.inl rfl)).symm.trans h
    | 1, _, h, hV => exact (hV _ (.inl rfl)).symm.trans h
    | 2, _, h, hV => exact (hV _ (.inl rfl)).symm.trans h
    | 3, _, h, hV => exact (hV _ (.inl rfl)).symm.trans h
    | 4, _, h, hV => (obtain ⟨g, e, h⟩ := h; exact ⟨g, (hV 4 (.inl rfl)).symm.trans e, h⟩)
    | 5, _, h, hV => (obtain ⟨g, e, h⟩ := h; exact ⟨g, (hV 5 (.inl rfl)).symm.trans e, h⟩)
    | 6, _, h, hV => (obtain ⟨g, e, h⟩ := h; exact ⟨g, (hV 6 (.inl rfl)).symm.trans e, h⟩)
    | 7, _, h, hV => (obtain ⟨g, e, h⟩ := h; exact ⟨g, (hV 7 (.inl rfl)).symm.trans e, h⟩)
    | 8, _, h, hV => (obtain ⟨g, e, h⟩ := h; exact ⟨g, (hV 4 (.inr (by kernel_rfl))).symm.trans e, h⟩)
    | 9, _, h, hV => (obtain ⟨g, e, h⟩ := h; exact ⟨g, (hV 5 (.inr (by kernel_rfl))).symm.trans e, h⟩)
    | 10, _, h, hV => (obtain ⟨g, e, h⟩ := h; exact ⟨g, (hV 6 (.inr (by kernel_rfl))).symm.trans e, h⟩)
    | 11, _, h, hV => (obtain ⟨g, e, h⟩ := h; exact ⟨g, (hV 7 (.inr (by kernel_rfl))).symm.trans e, h⟩)
    | j + 12, hj, _, _ => exact absurd hj (by simp)
  · intro i hi oo a' w' ho hag hg hd hps
    match i, hi, ho, hd, hps with
    | 0, _, ho, hd, hps =>
      (simp only [List.getElem?_toArray, List.getElem?_cons_zero, Option.some.injEq] at ho; subst ho)
      have s7 : a'.tmps[7]?.getD undef = (.pointer (some ⟨dx, 0, none⟩)) := by rw [← Array.getD_eq_getD_getElem?]; exact hag.slot 7 (by kernel_rfl)
      have r7 : a'.tmps.getD 7 undef = (.pointer (some ⟨dx, 0, none⟩)) := hag.slot 7 (by kernel_rfl)
      have hx := HX.out.turn hg.1 HXB.out
      have z0 := hx.cell 0
      have z1 := hx.cell 1
      have z2 := hx.cell 2
      have z3 := hx.cell 3
      have z4 := hx.cell 4
      have z5 := hx.cell 5
      have z6 := hx.cell 6
      have zl := hx.lt
      simp at z0 z1 z2 z3 z4 z5 z6
      clear hx
      refine HavG.tabX_val rfl (by simp) ⟨.agg #[.int .i64 r.depth.lo, .int .i64 r.depth.hi, .int .i64 r.fall.lo, .int .i64 r.fall.hi, .int .i64 r.days, .slice fa fl fc, .slice none 0 0], w', ?_, HavG.Rel.refl _ _, fun _ _ _ _ h => h, fun _ _ _ _ h => h, fun V _ hv => hv, fun h => by simp at h⟩
      go_simp
      try rfl
    | 1, _, ho, hd, hps =>
      (simp only [List.getElem?_toArray, List.getElem?_cons_succ, List.getElem?_cons_zero, Option.some.injEq] at ho; subst ho)
      have s7 : a'.tmps[7]?.getD undef = (.pointer (some ⟨dx, 0, none⟩)) := by rw [← Array.getD_eq_getD_getElem?]; exact hag.slot 7 (by kernel_rfl)
      have r7 : a'.tmps.getD 7 undef = (.pointer (some ⟨dx, 0, none⟩)) := hag.slot 7 (by kernel_rfl)
      have hx := HX.out.turn hg.1 HXB.out
      have z0 := hx.cell 0
      have z1 := hx.cell 1
      have z2 := hx.cell 2
      have z3 := hx.cell 3
      have z4 := hx.cell 4
      have z5 := hx.cell 5
      have z6 := hx.cell 6
      have zl := hx.lt
      simp at z0 z1 z2 z3 z4 z5 z6
      clear hx
      refine HavG.tabX_val rfl (by simp) ⟨.agg #[.int .i64 r.depth.lo, .int .i64 r.depth.hi, .int .i64 r.fall.lo, .int .i64 r.fall.hi, .int .i64 r.days, .slice fa fl fc, .slice none 0 0], w', ?_, HavG.Rel.refl _ _, fun _ _ _ _ h => h, fun _ _ _ _ h => h, fun V _ hv => hv, fun h => by simp at h⟩
      go_simp
      try rfl
    | 2, _, ho, hd, hps =>
      (simp only [List.getElem?_toArray, List.getElem?_cons_succ, List.getElem?_cons_zero, Option.some.injEq] at ho; subst ho)
      have s7 : a'.tmps[7]?.getD undef = (.pointer (some ⟨dx, 0, none⟩)) := by rw [← Array.getD_eq_getD_getElem?]; exact hag.slot 7 (by kernel_rfl)
      have r7 : a'.tmps.getD 7 undef = (.pointer (some ⟨dx, 0, none⟩)) := hag.slot 7 (by kernel_rfl)
      have hx := HX.out.turn hg.1 HXB.out
      have z0 := hx.cell 0
      have z1 := hx.cell 1
      have z2 := hx.cell 2
      have z3 := hx.cell 3
      have z4 := hx.cell 4
      have z5 := hx.cell 5
      have z6 := hx.cell 6
      have zl := hx.lt
      simp at z0 z1 z2 z3 z4 z5 z6
      clear hx
      refine HavG.tabX_val rfl (by simp) ⟨.agg #[.int .i64 r.depth.lo, .int .i64 r.depth.hi, .int .i64 r.fall.lo, .int .i64 r.fall.hi, .int .i64 r.days, .slice fa fl fc, .slice none 0 0], w', ?_, HavG.Rel.refl _ _, fun _ _ _ _ h => h, fun _ _ _ _ h => h, fun V _ hv => hv, fun h => by simp at h⟩
      go_simp
      try rfl
    | 3, _, ho, hd, hps =>
      (simp only [List.getElem?_toArray, List.getElem?_cons_succ, List.getElem?_cons_zero, Option.some.injEq] at ho; subst ho)
      have s7 : a'.tmps[7]?.getD undef = (.pointer (some ⟨dx, 0, none⟩)) := by rw [← Array.getD_eq_getD_getElem?]; exact hag.slot 7 (by kernel_rfl)
      have r7 : a'.tmps.getD 7 undef = (.pointer (some ⟨dx, 0, none⟩)) := hag.slot 7 (by kernel_rfl)
      have hx := HX.out.turn hg.1 HXB.out
      have z0 := hx.cell 0
      have z1 := hx.cell 1
      have z2 := hx.cell 2
      have z3 := hx.cell 3
      have z4 := hx.cell 4
      have z5 := hx.cell 5
      have z6 := hx.cell 6
      have zl := hx.lt
      simp at z0 z1 z2 z3 z4 z5 z6
      clear hx
      refine HavG.tabX_val rfl (by simp) ⟨.agg #[.int .i64 r.depth.lo, .int .i64 r.depth.hi, .int .i64 r.fall.lo, .int .i64 r.fall.hi, .int .i64 r.days, .slice fa fl fc, .slice none 0 0], w', ?_, HavG.Rel.refl _ _, fun _ _ _ _ h => h, fun _ _ _ _ h => h, fun V _ hv => hv, fun h => by simp at h⟩
      go_simp
      try rfl
    | 4, _, ho, hd, hps =>
      (simp only [List.getElem?_toArray, List.getElem?_cons_succ, List.getElem?_cons_zero, Option.some.injEq] at ho; subst ho)
      refine HavG.tabX_val rfl (by simp) ⟨.pointer (some ⟨w'.heap.size, 0, none⟩), w'.alloc (.cells #[.int .i64 0, .int .i64 0, .int .i64 0, .int .i64 0, .int .i64 0, .slice none 0 0, .slice none 0 0] 27), ?_, ⟨(Turn.refl _ _).alloc _, fun i => i.elim⟩, fun j V _ _ h => fall5_grow h ((Below.refl _ _).alloc (Nat.le_refl _) _), fun _ _ _ _ h => h, fun V _ hv => ⟨w'.heap.size, hv, hg.1.size, .inl (Blk.new w' 27 _)⟩, fun _ => Nat.le_refl _⟩
      go_simp
      try rfl
    | 5, _, ho, hd, hps =>
      (simp only [List.getElem?_toArray, List.getElem?_cons_succ, List.getElem?_cons_zero, Option.some.injEq] at ho; subst ho)
      refine HavG.tabX_val rfl (by simp) ⟨.pointer (some ⟨w'.heap.size, 0, none⟩), w'.alloc (.cells #[.int .i64 0, .int .i64 0, .int .i64 0, .int .i64 0, .int .i64 0, .slice none 0 0, .slice none 0 0] 27), ?_, ⟨(Turn.refl _ _).alloc _, fun i => i.elim⟩, fun j V _ _ h => fall5_grow h ((Below.refl _ _).alloc (Nat.le_refl _) _), fun _ _ _ _ h => h, fun V _ hv => ⟨w'.heap.size, hv, hg.1.size, .inl (Blk.new w' 27 _)⟩, fun _ => Nat.le_refl _⟩
      go_simp
      try rfl
    | 6, _, ho, hd, hps =>
      (simp only [List.getElem?_toArray, List.getElem?_cons_succ, List.getElem?_cons_zero, Option.some.injEq] at ho; subst ho)
      refine HavG.tabX_val rfl (by simp) ⟨.pointer (some ⟨w'.heap.size, 0, none⟩), w'.alloc (.cells #[.int .i64 0, .int .i64 0, .int .i64 0, .int .i64 0, .int .i64 0, .slice none 0 0, .slice none 0 0] 27), ?_, ⟨(Turn.refl _ _).alloc _, fun i => i.elim⟩, fun j V _ _ h => fall5_grow h ((Below.refl _ _).alloc (Nat.le_refl _) _), fun _ _ _ _ h => h, fun V _ hv => ⟨w'.heap.size, hv, hg.1.size, .inl (Blk.new w' 27 _)⟩, fun _ => Nat.le_refl _⟩
      go_simp
      try rfl
    | 7, _, ho, hd, hps =>
      (simp only [List.getElem?_toArray, List.getElem?_cons_succ, List.getElem?_cons_zero, Option.some.injEq] at ho; subst ho)
      refine HavG.tabX_val rfl (by simp) ⟨.pointer (some ⟨w'.heap.size, 0, none⟩), w'.alloc (.cells #[.int .i64 0, .int .i64 0, .int .i64 0, .int .i64 0, .int .i64 0, .slice none 0 0, .slice none 0 0] 27), ?_, ⟨(Turn.refl _ _).alloc _, fun i => i.elim⟩, fun j V _ _ h => fall5_grow h ((Below.refl _ _).alloc (Nat.le_refl _) _), fun _ _ _ _ h => h, fun V _ hv => ⟨w'.heap.size, hv, hg.1.size, .inl (Blk.new w' 27 _)⟩, fun _ => Nat.le_refl _⟩
      go_simp
      try rfl
    | 8, _, ho, hd, hps =>
      (simp only [List.getElem?_toArray, List.getElem?_cons_succ, List.getElem?_cons_zero, Option.some.injEq] at ho; subst ho)
      obtain ⟨g, e, hgB, hk⟩ : ∃ g, HavG.slot a' 8 = .pointer (some ⟨g, 0, none⟩) ∧ _ ∧ _ := hd 4 (by kernel_rfl) (by decide)
      have e0 : HavG.slot a' 37 = .agg #[.int .i64 r.depth.lo, .int .i64 r.depth.hi, .int .i64 r.fall.lo, .int .i64 r.fall.hi, .int .i64 r.days, .slice fa fl fc, .slice none 0 0] := hd 0 (by kernel_rfl) (by decide)
      have d1 : a'.tmps[8]?.getD undef = .pointer (some ⟨g, 0, none⟩) := by rw [← Array.getD_eq_getD_getElem?]; exact e
      have d2 : a'.tmps[37]?.getD undef = .agg #[.int .i64 r.depth.lo, .int .i64 r.depth.hi, .int .i64 r.fall.lo, .int .i64 r.fall.hi, .int .i64 r.days, .slice fa fl fc, .slice none 0 0] := by rw [← Array.getD_eq_getD_getElem?]; exact e0
      obtain ⟨u0, u1, u2, u3, u4, u5, u6, hk7⟩ : ∃ u0 u1 u2 u3 u4 u5 u6, Blk w' g 27 #[u0, u1, u2, u3, u4, u5, u6] := hk.elim (fun x => ⟨_, _, _, _, _, _, _, x⟩) (fun x => ⟨_, _, _, _, _, _, _, x⟩)
      have hC : Blk (set7 w' g (.int .i64 r.depth.lo) (.int .i64 r.depth.hi) (.int .i64 r.fall.lo) (.int .i64 r.fall.hi) (.int .i64 r.days) (.slice fa fl fc) (.slice none 0 0)) g 27 #[.int .i64 r.depth.lo, .int .i64 r.depth.hi, .int .i64 r.fall.lo, .int .i64 r.fall.hi, .int .i64 r.days, .slice fa fl fc, .slice none 0 0] := set7_blk hk7
      refine HavG.tabX_store rfl rfl (by decide) ⟨_, store27 rfl d1 d2 hk7, ⟨(set7_turn _ _ _ _ _ _ _ _ _).mono (fun b e => by rw [e]; exact hgB), fun i => i.elim⟩, fun j V _ _ h => fall5_keep h (fun g' x => ?_) (fun g' x => ?_), fun _ _ _ _ h => h, fun V hV => ⟨g, (hV 4 (by decide)).trans e, hgB, hC⟩⟩
      · by_cases e : g' = g
        · rw [e]; exact hC
        · exact set7_far x e
      · by_cases e : g' = g
        · rw [e]; exact .inr hC
        · exact .inl (set7_far x e)
    | 9, _, ho, hd, hps =>
      (simp only [List.getElem?_toArray, List.getElem?_cons_succ, List.getElem?_cons_zero, Option.some.injEq] at ho; subst ho)
      obtain ⟨g, e, hgB, hk⟩ : ∃ g, HavG.slot a' 9 = .pointer (some ⟨g, 0, none⟩) ∧ _ ∧ _ := hd 5 (by kernel_rfl) (by decide)
      have e0 : HavG.slot a' 38 = .agg #[.int .i64 r.depth.lo, .int .i64 r.depth.hi, .int .i64 r.fall.lo, .int .i64 r.fall.hi, .int .i64 r.days, .slice fa fl fc, .slice none 0 0] := hd 1 (by kernel_rfl) (by decide)
      have d1 : a'.tmps[9]?.getD undef = .pointer (some ⟨g, 0, none⟩) := by rw [← Array.getD_eq_getD_getElem?]; exact e
      have d2 : a'.tmps[38]?.getD undef = .agg #[.int .i64 r.depth.lo, .int .i64 r.depth.hi, .int .i64 r.fall.lo, .int .i64 r.fall.hi, .int .i64 r.days, .slice fa fl fc, .slice none 0 0] := by rw [← Array.getD_eq_getD_getElem?]; exact e0
      obtain ⟨u0, u1, u2, u3, u4, u5, u6, hk7⟩ : ∃ u0 u1 u2 u3 u4 u5 u6, Blk w' g 27 #[u0, u1, u2, u3, u4, u5, u6] := hk.elim (fun x => ⟨_, _, _, _, _, _, _, x⟩) (fun x => ⟨_, _, _, _, _, _, _, x⟩)
      have hC : Blk (set7 w' g (.int .i64 r.depth.lo) (.int .i64 r.depth.hi) (.int .i64 r.fall.lo) (.int .i64 r.fall.hi) (.int .i64 r.days) (.slice fa fl fc) (.slice none 0 0)) g 27 #[.int .i64 r.depth.lo, .int .i64 r.depth.hi, .int .i64 r.fall.lo, .int .i64 r.fall.hi, .int .i64 r.days, .slice fa fl fc, .slice none 0 0] := set7_blk hk7
      refine HavG.tabX_store rfl rfl (by decide) ⟨_, store27 rfl d1 d2 hk7, ⟨(set7_turn _ _ _ _ _ _ _ _ _).mono (fun b e => by rw [e]; exact hgB), fun i => i.elim⟩, fun j V _ _ h => fall5_keep h (fun g' x => ?_) (fun g' x => ?_), fun _ _ _ _ h => h, fun V hV => ⟨g, (hV 5 (by decide)).trans e, hgB, hC⟩⟩
      · by_cases e : g' = g
        · rw [e]; exact hC
        · exact set7_far x e
      · by_cases e : g' = g
        · rw [e]; exact .inr hC
        · exact .inl (set7_far x e)
    | 10, _, ho, hd, hps =>
      (simp only [List.getElem?_toArray, List.getElem?_cons_succ, List.getElem?_cons_zero, Option.some.injEq] at ho; subst ho)
      obtain ⟨g, e, hgB, hk⟩ : ∃ g, HavG.slot a' 10 = .pointer (some ⟨g, 0, none⟩) ∧ _ ∧ _ := hd 6 (by kernel_rfl) (by decide)
      have e0 : HavG.slot a' 39 = .agg #[.int .i64 r.depth.lo, .int .i64 r.depth.hi, .int .i64 r.fall.lo, .int .i64 r.fall.hi, .int .i64 r.days, .slice fa fl fc, .slice none 0 0] := hd 2 (by kernel_rfl) (by decide)
      have d1 : a'.tmps[10]?.getD undef = .pointer (some ⟨g, 0, none⟩) := by rw [← Array.getD_eq_getD_getElem?]; exact e
      have d2 : a'.tmps[39]?.getD undef = .agg #[.int .i64 r.depth.lo, .int .i64 r.depth.hi, .int .i64 r.fall.lo, .int .i64 r.fall.hi, .int .i64 r.days, .slice fa fl fc, .slice none 0 0] := by rw [← Array.getD_eq_getD_getElem?]; exact e0
      obtain ⟨u0, u1, u2, u3, u4, u5, u6, hk7⟩ : ∃ u0 u1 u2 u3 u4 u5 u6, Blk w' g 27 #[u0, u1, u2, u3, u4, u5, u6] := hk.elim (fun x => ⟨_, _, _, _, _, _, _, x⟩) (fun x => ⟨_, _, _, _, _, _, _, x⟩)
      have hC : Blk (set7 w' g (.int .i64 r.depth.lo) (.int .i64 r.depth.hi) (.int .i64 r.fall.lo) (.int .i64 r.fall.hi) (.int .i64 r.days) (.slice fa fl fc) (.slice none 0 0)) g 27 #[.int .i64 r.depth.lo, .int .i64 r.depth.hi, .int .i64 r.fall.lo, .int .i64 r.fall.hi, .int .i64 r.days, .slice fa fl fc, .slice none 0 0] := set7_blk hk7
      refine HavG.tabX_store rfl rfl (by decide) ⟨_, store27 rfl d1 d2 hk7, ⟨(set7_turn _ _ _ _ _ _ _ _ _).mono (fun b e => by rw [e]; exact hgB), fun i => i.elim⟩, fun j V _ _ h => fall5_keep h (fun g' x => ?_) (fun g' x => ?_), fun _ _ _ _ h => h, fun V hV => ⟨g, (hV 6 (by decide)).trans e, hgB, hC⟩⟩
      · by_cases e : g' = g
        · rw [e]; exact hC
        · exact set7_far x e
      · by_cases e : g' = g
        · rw [e]; exact .inr hC
        · exact .inl (set7_far x e)
    | 11, _, ho, hd, hps =>
      (simp only [List.getElem?_toArray, List.getElem?_cons_succ, List.getElem?_cons_zero, Option.some.injEq] at ho; subst ho)
      obtain ⟨g, e, hgB, hk⟩ : ∃ g, HavG.slot a' 11 = .pointer (some ⟨g, 0, none⟩) ∧ _ ∧ _ := hd 7 (by kernel_rfl) (by decide)
      have e0 : HavG.slot a' 40 = .agg #[.int .i64 r.depth.lo, .int .i64 r.depth.hi, .int .i64 r.fall.lo, .int .i64 r.fall.hi, .int .i64 r.days, .slice fa fl fc, .slice none 0 0] := hd 3 (by kernel_rfl) (by decide)
      have d1 : a'.tmps[11]?.getD undef = .pointer (some ⟨g, 0, none⟩) := by rw [← Array.getD_eq_getD_getElem?]; exact e
      have d2 : a'.tmps[40]?.getD undef = .agg #[.int .i64 r.depth.lo, .int .i64 r.depth.hi, .int .i64 r.fall.lo, .int .i64 r.fall.hi, .int .i64 r.days, .slice fa fl fc, .slice none 0 0] := by rw [← Array.getD_eq_getD_getElem?]; exact e0
      obtain ⟨u0, u1, u2, u3, u4, u5, u6, hk7⟩ : ∃ u0 u1 u2 u3 u4 u5 u6, Blk w' g 27 #[u0, u1, u2, u3, u4, u5, u6] := hk.elim (fun x => ⟨_, _, _, _, _, _, _, x⟩) (fun x => ⟨_, _, _, _, _, _, _, x⟩)
      have hC : Blk (set7 w' g (.int .i64 r.depth.lo) (.int .i64 r.depth.hi) (.int .i64 r.fall.lo) (.int .i64 r.fall.hi) (.int .i64 r.days) (.slice fa fl fc) (.slice none 0 0)) g 27 #[.int .i64 r.depth.lo, .int .i64 r.depth.hi, .int .i64 r.fall.lo, .int .i64 r.fall.hi, .int .i64 r.days, .slice fa fl fc, .slice none 0 0] := set7_blk hk7
      refine HavG.tabX_store rfl rfl (by decide) ⟨_, store27 rfl d1 d2 hk7, ⟨(set7_turn _ _ _ _ _ _ _ _ _).mono (fun b e => by rw [e]; exact hgB), fun i => i.elim⟩, fun j V _ _ h => fall5_keep h (fun g' x => ?_) (fun g' x => ?_), fun _ _ _ _ h => h, fun V hV => ⟨g, (hV 7 (by decide)).trans e, hgB, hC⟩⟩
      · by_cases e : g' = g
        · rw [e]; exact hC
        · exact set7_far x e
      · by_cases e : g' = g
        · rw [e]; exact .inr hC
        · exact .inl (set7_far x e)
    | j + 12, hj, _, _, _ => exact absurd hj (by simp)
  intro f w2 hg hf hap
  have q37 : f 37 = _ := hf 0 (by decide)
  have q38 : f 38 = _ := hf 1 (by decide)
  have q39 : f 39 = _ := hf 2 (by decide)
  have q40 : f 40 = _ := hf 3 (by decide)
  obtain ⟨dy, q8, by_, hy⟩ : ∃ g, f 8 = .pointer (some ⟨g, 0, none⟩) ∧ K.heap.size ≤ g ∧ Blk w2 g 27 #[.int .i64 r.depth.lo, .int .i64 r.depth.hi, .int .i64 r.fall.lo, .int .i64 r.fall.hi, .int .i64 r.days, .slice fa fl fc, .slice none 0 0] := hf 8 (by decide)
  obtain ⟨dz, q9, bz, hz⟩ : ∃ g, f 9 = .pointer (some ⟨g, 0, none⟩) ∧ K.heap.size ≤ g ∧ Blk w2 g 27 #[.int .i64 r.depth.lo, .int .i64 r.depth.hi, .int .i64 r.fall.lo, .int .i64 r.fall.hi, .int .i64 r.days, .slice fa fl fc, .slice none 0 0] := hf 9 (by decide)
  obtain ⟨dt, q10, bt, ht⟩ : ∃ g, f 10 = .pointer (some ⟨g, 0, none⟩) ∧ K.heap.size ≤ g ∧ Blk w2 g 27 #[.int .i64 r.depth.lo, .int .i64 r.depth.hi, .int .i64 r.fall.lo, .int .i64 r.fall.hi, .int .i64 r.days, .slice fa fl fc, .slice none 0 0] := hf 10 (by decide)
  obtain ⟨dv, q11, bv, hv⟩ : ∃ g, f 11 = .pointer (some ⟨g, 0, none⟩) ∧ K.heap.size ≤ g ∧ Blk w2 g 27 #[.int .i64 r.depth.lo, .int .i64 r.depth.hi, .int .i64 r.fall.lo, .int .i64 r.fall.hi, .int .i64 r.days, .slice fa fl fc, .slice none 0 0] := hf 11 (by decide)
  have n0 : HavG.bkV (f 8) ≠ HavG.bkV (f 9) := hap 4 5 (by decide) (by decide) (by decide) (by decide) (by decide)
  have n1 : HavG.bkV (f 8) ≠ HavG.bkV (f 10) := hap 4 6 (by decide) (by decide) (by decide) (by decide) (by decide)
  have n2 : HavG.bkV (f 8) ≠ HavG.bkV (f 11) := hap 4 7 (by decide) (by decide) (by decide) (by decide) (by decide)
  have n3 : HavG.bkV (f 9) ≠ HavG.bkV (f 10) := hap 5 6 (by decide) (by decide) (by decide) (by decide) (by decide)
  have n4 : HavG.bkV (f 9) ≠ HavG.bkV (f 11) := hap 5 7 (by decide) (by decide) (by decide) (by decide) (by decide)
  have n5 : HavG.bkV (f 10) ≠ HavG.bkV (f 11) := hap 6 7 (by decide) (by decide) (by decide) (by decide) (by decide)
  rw [q8, q9] at n0
  rw [q8, q10] at n1
  rw [q8, q11] at n2
  rw [q9, q10] at n3
  rw [q9, q11] at n4
  rw [q10, q11] at n5
  have nyz : dy ≠ dz := n0
  have nyt : dy ≠ dt := n1
  have nyv : dy ≠ dv := n2
  have nzt : dz ≠ dt := n3
  have nzv : dz ≠ dv := n4
  have ntv : dt ≠ dv := n5
  have tt := hg.1
  simp only [List.filterMap, HavG.puts, List.foldl_cons, List.foldl_nil, Act.put, List.setIfInBounds_toArray, List.set_cons_succ, List.set_cons_zero]
  rw [q37, q38, q39, q40, q8, q9, q10, q11]
  clear hf hap q37 q38 q39 q40 q8 q9 q10 q11 n0 n1 n2 n3 n4 n5 hg
  have l3 := HR.out.lt
  have lx := HX.out.lt
  have hR2 := Lib.hid (HR.out.turn tt (by show ¬ K.heap.size ≤ b3; omega))
  have hX2 := Lib.hid (HX.out.turn tt (by show ¬ K.heap.size ≤ dx; omega))
  have hB2 := Lib.hid (HB.out.trans (tt.below HB.out.size (fun b e => by have e' : K.heap.size ≤ b := e; have := HB.out.size; omega)))
  have hs := HB.out.size
  have HY := Lib.hid hy
  have HZ := Lib.hid hz
  have HT := Lib.hid ht
  have HV := Lib.hid hv
  have y5 := hy.cell 5
  have y6 := hy.frozen 5
  have yl := hy.lt
  simp at y5
  clear tt hy hz ht hv
  go_wp2_with fail
  have t2 : Turn (fun x => x = dy) w2 (w2.setCell ⟨dy, 5, none⟩ (.slice none 0 0)) := Turn.set _ _ (fun _ => rfl)
  refine falls6 HOK.out hfc hwh hmu HP.out (hB2.out.trans (t2.below hB2.out.size (fun b e => by have e' : b = dy := e; omega))) (hR2.out.turn t2 (by show ¬ b3 = dy; omega)) (hX2.out.turn t2 (by show ¬ dx = dy; omega)) ?_ (HZ.out.turn t2 (fun e => nyz (Eq.symm e))) (HT.out.turn t2 (fun e => nyt (Eq.symm e))) (HV.out.turn t2 (fun e => nyv (Eq.symm e)))
    ⟨by omega, by omega, by omega, by omega, nyz, nyt, nzt⟩ ⟨by omega, by omega, Ne.symm nyv, Ne.symm nzv, Ne.symm ntv⟩ ⟨by omega, by omega, by omega⟩ _ _ _ _ _ _ _ _ _ _ _ _ _ _ _ _ _ _ _ _ _ _ _ _ _ _ _ _ _ _ _ _ _ _ _ _ _ _ _ _ _ _ _ _ _ _ _ _ _ _ _ _ _ _ _ _ _ _ _ _ _ _ _ _ _ _ _ _ _ _ _ _ _ _ _ _ _ _ _ _ _ _ _ _ _ _ _ _ _ _ _ _ _ _ _ _ _ _ _ _ _ _ _ _ _ _ _ _ _ _ _ _ _ _ _ _ _ _ _ _ _ _ _ _ _ _ _ _ _ _ _ _ _ _ _ _ _ _ _ _ _ _ _ _ _ _ _ _ _ _ _ _ _ _ _ _ _ _ _ _ _ _ _ _ _ _ _ _ _ _ _ _ _ _ _ _ _ _ _ _ _ _ _ _ _ _ _ _ _ _ _ _ _ _ _ _ _ _ _ _ _ _ _ _ _ _ _ _ _ _ _ _ _ _ _ _ _ _ _ _ _ _ _ _ _ _ _ _ _ _ _ _ _
  have h := HY.out.set_ 5 (.slice none 0 0)
  simpa using h
end
end Go.Proofs.Ytiodmkokpfgkkaa
