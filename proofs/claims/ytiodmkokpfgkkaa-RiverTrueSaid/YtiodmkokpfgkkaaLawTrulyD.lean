/- The laws' truth: days and rises of the freshes. Conditions: the river is valid; what the frame holds. -/
import Derived.Test.YtiodmkokpfgkkaaLawTrulyC
namespace Go.Proofs.Ytiodmkokpfgkkaa
open Go.RowKit Go.Hav Go.Shelf Go.Sq
attribute [local go_sem] Oper.semAt_some
def t5T (BW B0 c s g0 : Nat) (dv rv : Value) (k : Nat) (xs ys : List Nat) (p0 p1 q0 q1 : Nat) (i : Nat) (V : Nat → Value) (w : World) : Prop :=
 match i with
 | 0 => V 0 = dv
 | 1 => V 1 = (.func (.func 98) #[] #[.pointer (some ⟨c, 0, none⟩), .pointer (some ⟨s, 0, none⟩)])
 | 2 => V 2 = .pointer (some ⟨g0, 0, none⟩)
 | 3 => V 3 = .agg #[.int .i64 (p0 : Nat), .int .i64 (p1 : Nat)]
 | 4 => ∃ x : Nat, p0 ≤ x ∧ x ≤ p1 ∧ V 4 = .int .i64 x
 | 5 => ∃ x g : Nat, p0 ≤ x ∧ x ≤ p1 ∧ V 4 = .int .i64 x ∧ V 5 = .slice (some ⟨g, 0, none⟩) 1 1 ∧ BW ≤ g ∧ Blk w g 3 #[Value.int .i64 x]
 | 6 => ∃ x g cp : Nat, p0 ≤ x ∧ x ≤ p1 ∧ V 4 = .int .i64 x ∧ V 6 = .slice (some ⟨g, 0, none⟩) (k + 1) cp ∧ w.ownsRow B0 3 1 (.slice (some ⟨g, 0, none⟩) (k + 1) cp) (k + 1) ((xs ++ [x]).map nV) ∧ (dv.ownBlock = some g ∨ BW ≤ g)
 | 7 => V 7 = rv
 | 8 => V 8 = (.func (.func 98) #[] #[.pointer (some ⟨c, 0, none⟩), .pointer (some ⟨s, 0, none⟩)])
 | 9 => V 9 = .pointer (some ⟨g0, 2, none⟩)
 | 10 => V 10 = .agg #[.int .i64 (q0 : Nat), .int .i64 (q1 : Nat)]
 | 11 => ∃ x : Nat, q0 ≤ x ∧ x ≤ q1 ∧ V 11 = .int .i64 x
 | 12 => ∃ x g : Nat, q0 ≤ x ∧ x ≤ q1 ∧ V 11 = .int .i64 x ∧ V 12 = .slice (some ⟨g, 0, none⟩) 1 1 ∧ BW ≤ g ∧ Blk w g 3 #[Value.int .i64 x]
 | 13 => ∃ x g cp : Nat, q0 ≤ x ∧ x ≤ q1 ∧ V 11 = .int .i64 x ∧ V 13 = .slice (some ⟨g, 0, none⟩) (k + 1) cp ∧ w.ownsRow B0 3 1 (.slice (some ⟨g, 0, none⟩) (k + 1) cp) (k + 1) ((ys ++ [x]).map nV) ∧ (rv.ownBlock = some g ∨ BW ≤ g)
 | 14 => V 14 = V 6
 | 15 => V 15 = V 13
 | _ => True
def t5S (B0 : Nat) (dv rv : Value) (k : Nat) (xs ys : List Nat) (i : Nat) (w : World) : Prop :=
 match i with
 | 6 => w.ownsRow B0 3 1 dv k (xs.map nV)
 | 13 => w.ownsRow B0 3 1 rv k (ys.map nV)
 | _ => True
section
variable {BW B0 c s g0 k p0 p1 q0 q1 i : Nat} {dv rv : Value} {xs ys : List Nat} {V : Nat → Value} {w w' : World} {S : Nat → Prop}
theorem t5_keep (h : t5T BW B0 c s g0 dv rv k xs ys p0 p1 q0 q1 i V w) (t : Turn S w w') (h5 : i = 5 ∨ i = 12 → ∀ b, S b → b < BW) (h6 : i = 6 → ∀ g, B0 ≤ g → (dv.ownBlock = some g ∨ BW ≤ g) → ¬ S g) (h13 : i = 13 → ∀ g, B0 ≤ g → (rv.ownBlock = some g ∨ BW ≤ g) → ¬ S g) : t5T BW B0 c s g0 dv rv k xs ys p0 p1 q0 q1 i V w' := by
 unfold t5T at h ⊢
 split at h
 case h_6 => obtain ⟨x, g, h1, h2, e, e2, hg, h⟩ := h; exact ⟨x, g, h1, h2, e, e2, hg, h.turn t (fun hs => by have := h5 (.inl rfl) g hs; omega)⟩
 case h_7 => obtain ⟨x, g, cp, h1, h2, e, e2, h, hg⟩ := h; exact ⟨x, g, cp, h1, h2, e, e2, own_turn h t (fun q hq => by cases hq; exact h6 rfl g (own_blk h).choose_spec.2.1 hg), hg⟩
 case h_13 => obtain ⟨x, g, h1, h2, e, e2, hg, h⟩ := h; exact ⟨x, g, h1, h2, e, e2, hg, h.turn t (fun hs => by have := h5 (.inr rfl) g hs; omega)⟩
 case h_14 => obtain ⟨x, g, cp, h1, h2, e, e2, h, hg⟩ := h; exact ⟨x, g, cp, h1, h2, e, e2, own_turn h t (fun q hq => by cases hq; exact h13 rfl g (own_blk h).choose_spec.2.1 hg), hg⟩
 all_goals exact h
theorem t5_grow (h : t5T BW B0 c s g0 dv rv k xs ys p0 p1 q0 q1 i V w) (hb : Below w.heap.size w w') : t5T BW B0 c s g0 dv rv k xs ys p0 p1 q0 q1 i V w' := t5_keep (S := fun _ => False) h (Turn.of_below hb) (fun _ _ h => h.elim) (fun _ _ _ _ h => h) (fun _ _ _ _ h => h)
theorem t5_low (h : t5T BW B0 c s g0 dv rv k xs ys p0 p1 q0 q1 i V w) (t : Turn (fun b => b = c) w w') (hc : c < B0 ∧ B0 ≤ BW) : t5T BW B0 c s g0 dv rv k xs ys p0 p1 q0 q1 i V w' := t5_keep h t (fun _ b e => by have e' : b = c := e; omega) (fun _ g hg _ e => by have e' : g = c := e; omega) (fun _ g hg _ e => by have e' : g = c := e; omega)
theorem t5_apd (h : t5T BW B0 c s g0 dv rv k xs ys p0 p1 q0 q1 i V w) (t : Turn (fun b => dv.ownBlock = some b) w w') (hf : (∀ g, dv.ownBlock = some g → B0 ≤ g ∧ g < BW) ∧ (∀ g, rv.ownBlock = some g → B0 ≤ g ∧ g < BW) ∧ B0 ≤ BW) (ha : ∀ g, dv.ownBlock = some g → ¬ rv.ownBlock = some g) (hi : i ≠ 6) : t5T BW B0 c s g0 dv rv k xs ys p0 p1 q0 q1 i V w' :=
 t5_keep h t (fun _ b e => (hf.1 b e).2) (fun e => absurd e hi) (fun _ g _ hg e => hg.elim (ha g e) (fun h => by have := (hf.1 g e).2; omega))
theorem t5_apr (h : t5T BW B0 c s g0 dv rv k xs ys p0 p1 q0 q1 i V w) (t : Turn (fun b => rv.ownBlock = some b) w w') (hf : (∀ g, dv.ownBlock = some g → B0 ≤ g ∧ g < BW) ∧ (∀ g, rv.ownBlock = some g → B0 ≤ g ∧ g < BW) ∧ B0 ≤ BW) (ha : ∀ g, dv.ownBlock = some g → ¬ rv.ownBlock = some g) (hi : i ≠ 13) : t5T BW B0 c s g0 dv rv k xs ys p0 p1 q0 q1 i V w' :=
 t5_keep h t (fun _ b e => (hf.2.1 b e).2) (fun _ g _ hg e => hg.elim (fun h => ha g h e) (fun h => by have := (hf.2.1 g e).2; omega)) (fun e => absurd e hi)
theorem t5S_zero (h1 : w.ownsRow B0 3 1 dv k (xs.map nV)) (h2 : w.ownsRow B0 3 1 rv k (ys.map nV)) (i : Nat) : t5S B0 dv rv k xs ys i w := by
 unfold t5S
 split
 ·exact h1
 ·exact h2
 ·trivial
theorem t5S_keep (h : t5S B0 dv rv k xs ys i w) (t : Turn S w w') (h6 : i = 6 → ∀ g, B0 ≤ g → dv.ownBlock = some g → ¬ S g) (h13 : i = 13 → ∀ g, B0 ≤ g → rv.ownBlock = some g → ¬ S g) : t5S B0 dv rv k xs ys i w' := by
 unfold t5S at h ⊢
 split at h
 ·exact own_turn h t (fun g hg => h6 rfl g (own_block h hg).1 hg)
 ·exact own_turn h t (fun g hg => h13 rfl g (own_block h hg).1 hg)
 ·trivial
theorem t5S_grow (h : t5S B0 dv rv k xs ys i w) (hb : Below w.heap.size w w') : t5S B0 dv rv k xs ys i w' := t5S_keep (S := fun _ => False) h (Turn.of_below hb) (fun _ _ _ _ h => h) (fun _ _ _ _ h => h)
theorem t5S_low (h : t5S B0 dv rv k xs ys i w) (t : Turn (fun b => b = c) w w') (hc : c < B0 ∧ B0 ≤ BW) : t5S B0 dv rv k xs ys i w' := t5S_keep h t (fun _ g hg _ e => by have e' : g = c := e; omega) (fun _ g hg _ e => by have e' : g = c := e; omega)
theorem t5_apdS (h : t5S B0 dv rv k xs ys i w) (t : Turn (fun b => dv.ownBlock = some b) w w') (ha : ∀ g, dv.ownBlock = some g → ¬ rv.ownBlock = some g) (hi : i ≠ 6) : t5S B0 dv rv k xs ys i w' := t5S_keep h t (fun e => absurd e hi) (fun _ g _ hg e => ha g e hg)
theorem t5_aprS (h : t5S B0 dv rv k xs ys i w) (t : Turn (fun b => rv.ownBlock = some b) w w') (ha : ∀ g, dv.ownBlock = some g → ¬ rv.ownBlock = some g) (hi : i ≠ 13) : t5S B0 dv rv k xs ys i w' := t5S_keep h t (fun _ g _ hg e => ha g hg e) (fun e => absurd e hi)
end
section
variable {b2 b4 c s fl fc ll lc B ul uc N : Nat} {fa la ua : Option Addr} {r : IRiv} {t : Tr} {dv pv : Value} {w0 w : World} {U : List Nat}
set_option maxRecDepth 100000 in
set_option maxHeartbeats 6400000 in
theorem truly3 {dA rA : Option Addr} {dc rc : Nat} {xs ys : List Nat} (hok : okR r = true) (hP : RvIn w0 B fa fl la ll r) (hU : UIn w0 B ua ul U) (hs : Blk w0 s 45 #[.slice ua ul uc]) (hBc : B ≤ c) (hBw : B ≤ w0.heap.size) (hc0 : c < w0.heap.size) (hsc : ¬ s = c) (hDR : Drawn r r.fr.length xs ys) (hT : Turn (fun b => b = c) w0 w) (hN : Cnt c N w) (hNM : N ≤ 40) (h2 : Blk w b2 27 #[.int .i64 r.depth.lo, .int .i64 r.depth.hi, .int .i64 r.fall.lo, .int .i64 r.fall.hi, .int .i64 r.days, .slice fa fl fc, .slice la ll lc]) (h20 : w0.heap.size ≤ b2) (h4 : Blk w b4 27 #[.int .i64 0, .int .i64 0, .int .i64 0, .int .i64 0, .int .i64 0, .slice none 0 0, .slice none 0 0]) (h40 : w0.heap.size ≤ b4) (h24 : b2 ≠ b4)
  (oD : w.ownsRow w0.heap.size 3 1 (.slice dA fl dc) fl (xs.map nV)) (oR : w.ownsRow w0.heap.size 3 1 (.slice rA fl rc) fl (ys.map nV)) (c0 c3 c5 c7 c9 c10 c11 c12 c13 c14 c15 c16 c17 c18 c19 c20 c21 c22 c23 c24 c25 c26 c27 c28 c29 c30 c31 c32 c33 c34 c35 c36 c37 c38 c39 c40 c41 c42 c43 c44 c45 c46 c47 c48 c49 c50 c51 c52 c53 c54 c55 c56 c57 c58 c59 c60 c61 c62 c63 c64 c65 c66 c67 c68 c69 c70 c71 c72 c73 c74 c75 c76 c77 c78 c79 c80 c81 c82 c83 c84 c85 c86 c87 : Value) :
  Code.wp Try.prog (trulyK 3) (bodyPost Try.prog Try.f36 (TrulyPost c fa fl fc r w0)) ⟨(c0::(.func (.func 98) #[] #[.pointer (some ⟨c, 0, none⟩), .pointer (some ⟨s, 0, none⟩)])::(.pointer (some ⟨b2, 0, none⟩))::c3::(.pointer (some ⟨b4, 0, none⟩))::c5::(.slice dA fl dc)::c7::(.slice rA fl rc)::c9::c10::c11::c12::c13::c14::c15::c16::c17::c18::c19::c20::c21::c22::c23::c24::c25::c26::c27::c28::c29::c30::c31::c32::c33::c34::c35::c36::c37::c38::c39::c40::c41::c42::c43::c44::c45::c46::c47::c48::c49::c50::c51::c52::c53::c54::c55::c56::c57::c58::c59::c60::c61::c62::c63::c64::c65::c66::c67::c68::c69::c70::c71::c72::c73::c74::c75::c76::c77::c78::c79::c80::c81::c82::c83::c84::c85::c86::c87::[]).toArray, []⟩ w := by
 obtain ⟨a1, a2, a3, a4, a5, a6, -⟩ := okR_sp hok
 obtain ⟨flo, hflo⟩ : ∃ flo : Nat, r.fall.lo = flo := ⟨r.fall.lo.toNat, by omega⟩
 obtain ⟨fhi, hfhi⟩ : ∃ fhi : Nat, r.fall.hi = fhi := ⟨r.fall.hi.toNat, by omega⟩
 have hfle : flo ≤ fhi := by omega
 have hf60 : fhi ≤ 5 := by omega
 have HU : Hid (UIn w B ua ul U) := hU.turn hBw hT (fun b hb e => by have e' : b = c := e; omega)
 have HSB : Hid (Blk w s 45 #[.slice ua ul uc]) := hs.turn hT hsc
 have hBK : B ≤ w.heap.size := Nat.le_trans hBw hT.size
 have HCN : Hid (Cnt c N w) := hN
 have HK : Hid (∀ (w' : World) (by_ : Nat), Turn (fun b => b = c) w w' → Cnt c (N + 1) w' → flo ≤ by_ → by_ ≤ fhi → ∀ (c0 c3 c7 c9 c10 c11 c12 c13 c14 c15 c16 c17 c18 c19 c20 c21 c22 c23 c24 c25 c26 c27 c28 c29 c30 c31 c32 c33 c34 c35 c36 c37 c38 c39 c40 c41 c42 c43 c44 c45 c46 c47 c48 c49 c50 c51 c52 c53 c54 c55 c56 c57 c58 c59 c60 c61 c62 c63 c64 c65 c66 c67 c68 c69 c70 c71 c72 c73 c74 c75 c76 c77 c78 c79 c80 c81 c82 c83 c84 c85 c86 c87 : Value), Code.wp Try.prog (trulyK 4) (bodyPost Try.prog Try.f36 (TrulyPost c fa fl fc r w0)) ⟨(c0::(.func (.func 98) #[] #[.pointer (some ⟨c, 0, none⟩), .pointer (some ⟨s, 0, none⟩)])::(.pointer (some ⟨b2, 0, none⟩))::c3::(.pointer (some ⟨b4, 0, none⟩))::(.int .i64 (by_ : Nat))::(.slice dA fl dc)::c7::(.slice rA fl rc)::c9::c10::c11::c12::c13::c14::c15::c16::c17::c18::c19::c20::c21::c22::c23::c24::c25::c26::c27::c28::c29::c30::c31::c32::c33::c34::c35::c36::c37::c38::c39::c40::c41::c42::c43::c44::c45::c46::c47::c48::c49::c50::c51::c52::c53::c54::c55::c56::c57::c58::c59::c60::c61::c62::c63::c64::c65::c66::c67::c68::c69::c70::c71::c72::c73::c74::c75::c76::c77::c78::c79::c80::c81::c82::c83::c84::c85::c86::c87::[]).toArray, []⟩ w') := fun w' by_ t hc h1 h2' =>
  truly4 hok hP hU hs hBc hBw hc0 hsc hDR (by show r.fall.lo.toNat ≤ by_; omega) (by show by_ ≤ r.fall.hi.toNat; omega) (hT.trans t) hc (by omega) (h2.turn t (by show ¬ b2 = c; omega)) h20 (h4.turn t (by show ¬ b4 = c; omega)) h40 h24
   (own_turn oD t (fun g hg e => by have := (own_block oD hg).1; have e' : g = c := e; omega)) (own_turn oR t (fun g hg e => by have := (own_block oR hg).1; have e' : g = c := e; omega))
 have f98 := enters_of Try.func98 (by kernel_rfl) rfl
 have q2 := h2.cell 2
 have q3 := h2.cell 3
 have ql := h2.lt
 simp at q2 q3
 rw [hflo] at q2
 rw [hfhi] at q3
 conv => arg 2; whnf
 conv => arg 2; arg 2; change trulyK 4
 clear hok hP hU hs hsc hDR hT hN h2 h4 h24 oD oR a1 a2 a3 a4 a5 a6
 go_wp2_with fail
 refine (draw98_any (by omega) hfle (by omega) w HSB.out HCN.out hBK hBc HU.out).mono ?_
 rintro e w2 ⟨⟨v, rfl, hv1, hv2⟩, hc2, ht⟩
 have HG : Hid (Turn (fun b => b = c) w w2 ∧ Cnt c (N + 1) w2) := ⟨ht, hc2⟩
 clear ht hc2 q2 q3 ql
 go_wp2
 exact HK.out w2 v HG.out.1 HG.out.2 hv1 hv2 _ _ _ _ _ _ _ _ _ _ _ _ _ _ _ _ _ _ _ _ _ _ _ _ _ _ _ _ _ _ _ _ _ _ _ _ _ _ _ _ _ _ _ _ _ _ _ _ _ _ _ _ _ _ _ _ _ _ _ _ _ _ _ _ _ _ _ _ _ _ _ _ _ _ _ _ _ _ _ _ _ _
set_option maxRecDepth 100000 in
set_option maxHeartbeats 6400000 in
theorem truly2 (hok : okR r = true) (hP : RvIn w0 B fa fl la ll r) (hU : UIn w0 B ua ul U) (hs : Blk w0 s 45 #[.slice ua ul uc]) (hBc : B ≤ c) (hBw : B ≤ w0.heap.size) (hc0 : c < w0.heap.size) (hsc : ¬ s = c) (hT : Turn (fun b => b = c) w0 w) (hN : Cnt c N w) (hNM : N ≤ 30) (h2 : Blk w b2 27 #[.int .i64 r.depth.lo, .int .i64 r.depth.hi, .int .i64 r.fall.lo, .int .i64 r.fall.hi, .int .i64 r.days, .slice fa fl fc, .slice la ll lc]) (h20 : w0.heap.size ≤ b2) (h4 : Blk w b4 27 #[.int .i64 0, .int .i64 0, .int .i64 0, .int .i64 0, .int .i64 0, .slice none 0 0, .slice none 0 0]) (h40 : w0.heap.size ≤ b4) (h24 : b2 ≠ b4) (c0 c3 c5 c7 c9 c10 c11 c12 c13 c14 c15 c16 c17 c18 c19 c20 c21 c22 c23 c24 c25 c26 c27 c28 c29 c30 c31 c32 c33 c34 c35 c36 c37 c38 c39 c40 c41 c42 c43 c44 c45 c46 c47 c48 c49 c50 c51 c52 c53 c54 c55 c56 c57 c58 c59 c60 c61 c62 c63 c64 c65 c66 c67 c68 c69 c70 c71 c72 c73 c74 c75 c76 c77 c78 c79 c80 c81 c82 c83 c84 c85 c86 c87 : Value) :
  Code.wp Try.prog (trulyK 2) (bodyPost Try.prog Try.f36 (TrulyPost c fa fl fc r w0)) ⟨(c0::(.func (.func 98) #[] #[.pointer (some ⟨c, 0, none⟩), .pointer (some ⟨s, 0, none⟩)])::(.pointer (some ⟨b2, 0, none⟩))::c3::(.pointer (some ⟨b4, 0, none⟩))::c5::(.slice none 0 0)::c7::(.slice none 0 0)::c9::c10::c11::c12::c13::c14::c15::c16::c17::c18::c19::c20::c21::c22::c23::c24::c25::c26::c27::c28::c29::c30::c31::c32::c33::c34::c35::c36::c37::c38::c39::c40::c41::c42::c43::c44::c45::c46::c47::c48::c49::c50::c51::c52::c53::c54::c55::c56::c57::c58::c59::c60::c61::c62::c63::c64::c65::c66::c67::c68::c69::c70::c71::c72::c73::c74::c75::c76::c77::c78::c79::c80::c81::c82::c83::c84::c85::c86::c87::[]).toArray, []⟩ w := by
 have hfl3 : fl ≤ 3 := by rw [← hP.efl]; exact (okR_pts hok).1.2.2.2.1
 have HEF := Lib.hid hP.efl
 have HOK := Lib.hid hok
 have HP := Lib.hid hP
 have HU0 := Lib.hid hU
 have HS0 := Lib.hid hs
 have HT := Lib.hid hT
 have HN := Lib.hid hN
 have H2 := Lib.hid h2
 have H4 := Lib.hid h4
 have HSC := Lib.hid hsc
 have H24 := Lib.hid h24
 have hBW0 : w0.heap.size ≤ w.heap.size := hT.size
 have hs0 := hs.lt
 have h2w := h2.lt
 have h4w := h4.lt
 have f98 := enters_of Try.func98 (by kernel_rfl) rfl
 obtain ⟨i0, hi, hz0, hz1, hz2⟩ := info_parts infoE3
 have HI := Lib.hid hi
 have HI0 := Lib.hid hz0
 have HI1 := Lib.hid hz1
 have HI2 := Lib.hid hz2
 have q5 := h2.cell 5
 have ql := h2.lt
 simp at q5
 conv => arg 2; whnf
 conv => arg 2; arg 2; change trulyK 3
 clear hok hP hU hs hT hN h2 h4 hsc hi hz0 hz1 hz2 h24
 go_wp2
 clear q5 ql
 go_loopw [17, 6, 8] (fun i d e wr => ∃ (k : Nat) (xs ys : List Nat) (dA rA : Option Addr) (dc rc : Nat), k ≤ fl ∧ i = .int .i64 k ∧ d = .slice dA k dc ∧ e = .slice rA k rc ∧ Hid (Drawn r k xs ys) ∧ Hid (wr.ownsRow w.heap.size 3 1 (.slice dA k dc) k (xs.map nV)) ∧ Hid (wr.ownsRow w.heap.size 3 1 (.slice rA k rc) k (ys.map nV)) ∧ Hid (∀ g, (Value.slice dA k dc).ownBlock = some g → ¬ (Value.slice rA k rc).ownBlock = some g) ∧ Hid (Cnt c (N + 2 * k) wr) ∧ Hid (Turn (fun b => b = c) w wr)) (fun i _ _ _ => fl - (intOf i).toNat)
 case atStart => exact ⟨0, [], [], none, none, 0, 0, Nat.zero_le _, rfl, rfl, rfl, ⟨rfl, rfl, fun i f h => by omega⟩, World.ownsRow_nil _ _ _ _, World.ownsRow_nil _ _ _ _, fun g h => (by cases h), HN.out, Turn.refl _ _⟩
 case round =>
  obtain ⟨k, xs, ys, dA, rA, dc, rc, hk, rfl, rfl, rfl, HDR, HO1, HO2, HAP, HC0, HTR⟩ := hrel
  by_cases hlt : k < fl
  ·obtain ⟨f0, hf0⟩ : ∃ f0, r.fr[k]? = some f0 := ⟨r.fr[k]'(by rw [HEF.out]; exact hlt), by simp⟩
   have HF0 := Lib.hid hf0
   have hsp : 0 ≤ f0.days.lo ∧ f0.days.lo ≤ f0.days.hi ∧ f0.days.hi ≤ 10 ∧ 0 ≤ f0.rise.lo ∧ f0.rise.lo ≤ f0.rise.hi ∧ f0.rise.hi ≤ 20 := by
    have h6 := List.all_eq_true.1 (okR_pts HOK.out).2.1 f0 (List.mem_of_getElem? hf0)
    have h3 := inB_iff.1 (okR_pts HOK.out).1.2.2.1
    unfold frB at h6
    rw [Bool.and_eq_true] at h6
    have a := spB_iff.1 h6.1
    have b := spB_iff.1 h6.2
    omega
   obtain ⟨⟨e0, e1⟩, ⟨e2, e3⟩⟩ := f0
   simp only at hsp
   obtain ⟨p0, rfl⟩ : ∃ n : Nat, e0 = n := ⟨e0.toNat, by omega⟩
   obtain ⟨p1, rfl⟩ : ∃ n : Nat, e1 = n := ⟨e1.toNat, by omega⟩
   obtain ⟨q0, rfl⟩ : ∃ n : Nat, e2 = n := ⟨e2.toNat, by omega⟩
   obtain ⟨q1, rfl⟩ : ∃ n : Nat, e3 = n := ⟨e3.toNat, by omega⟩
   have hp : p0 ≤ p1 := by omega
   have hp1 : p1 ≤ 10 := by omega
   have hq : q0 ≤ q1 := by omega
   have hq1 : q1 ≤ 20 := by omega
   have tw : Turn (fun b => b = c) w0 wr := HT.out.trans HTR.out
   have hPw : RdG frI 4 wr B fa r.fr := (HP.out.hfr).keep fun b hb _ => tw.block b (by omega) (fun e => by have e' : b = c := e; omega)
   obtain ⟨bl, off, hA, hbl, H0, H1, H2', H3⟩ := rd_frI hPw k _ hf0
   subst hA
   have hsz := HTR.out.size
   have hblw : bl < wr.heap.size := by omega
   simp only at H0 H1 H2' H3
   clear hf0 hPw tw hsp
   go_upto_region 5 with (fail)
   obtain ⟨K, hK⟩ : ∃ K, K = wr.alloc (.cells #[.int .i64 (p0 : Nat), .int .i64 (p1 : Nat), .int .i64 (q0 : Nat), .int .i64 (q1 : Nat)] 55) := ⟨_, rfl⟩
   obtain ⟨g0, hg0⟩ : ∃ g, g = wr.heap.size := ⟨_, rfl⟩
   have HBK : Below wr.heap.size wr K := by rw [hK]; exact (Below.refl _ _).alloc (Nat.le_refl _) _
   have HE0 : Hid (Blk K g0 55 #[.int .i64 (p0 : Nat), .int .i64 (p1 : Nat), .int .i64 (q0 : Nat), .int .i64 (q1 : Nat)]) := by rw [hK, hg0]; exact Blk.new wr 55 _
   rw [← hK, ← hg0]
   have tw : Turn (fun b => b = c) w0 K := (HT.out.trans HTR.out).trans (Turn.of_below HBK)
   have HOD : Hid (K.ownsRow w.heap.size 3 1 (Value.slice dA k dc) k (xs.map nV)) := own_below HO1.out HBK
   have HOR : Hid (K.ownsRow w.heap.size 3 1 (Value.slice rA k rc) k (ys.map nV)) := own_below HO2.out HBK
   have HCN : Hid (Cnt c (N + 2 * k) K) := HC0.out.below HBK
   have HU : Hid (UIn K B ua ul U) := HU0.out.turn hBw tw (fun b hb e => by have e' : b = c := e; omega)
   have HSB : Hid (Blk K s 45 #[.slice ua ul uc]) := HS0.out.turn tw HSC.out
   have hB1 : w.heap.size ≤ K.heap.size := Nat.le_trans hsz HBK.size
   have hBK : B ≤ K.heap.size := by omega
   have hfd : ∀ g, (Value.slice dA k dc).ownBlock = some g → w.heap.size ≤ g ∧ g < wr.heap.size := fun g hg => by
    obtain ⟨h1, cs, hcs⟩ := own_block HO1.out hg
    exact ⟨h1, hcs.lt⟩
   have hfr : ∀ g, (Value.slice rA k rc).ownBlock = some g → w.heap.size ≤ g ∧ g < wr.heap.size := fun g hg => by
    obtain ⟨h1, cs, hcs⟩ := own_block HO2.out hg
    exact ⟨h1, hcs.lt⟩
   have hKs := HBK.size
   have out5 : ∀ b, (b < w.heap.size ∨ wr.heap.size ≤ b) → ¬ b = c → ¬ (b = c ∨ (Value.slice dA k dc).ownBlock = some b ∨ (Value.slice rA k rc).ownBlock = some b) := fun b hb hn => by
    rintro (e | e | e)
    ·exact hn e
    ·have := hfd b e; omega
    ·have := hfr b e; omega
   have HSS : Hid (¬ (s = c ∨ (Value.slice dA k dc).ownBlock = some s ∨ (Value.slice rA k rc).ownBlock = some s)) := out5 s (.inl (by omega)) HSC.out
   have HES : Hid (¬ (g0 = c ∨ (Value.slice dA k dc).ownBlock = some g0 ∨ (Value.slice rA k rc).ownBlock = some g0)) := out5 g0 (.inr (by omega)) (by omega)
   have HSB2 : Hid (∀ b, b < B → ¬ (b = c ∨ (Value.slice dA k dc).ownBlock = some b ∨ (Value.slice rA k rc).ownBlock = some b)) := fun b hb => out5 b (.inl (by omega)) (by omega)
   have HCB : Hid (c < w.heap.size ∧ w.heap.size ≤ K.heap.size) := ⟨by omega, hB1⟩
   have HFV : Hid ((∀ g, (Value.slice dA k dc).ownBlock = some g → w.heap.size ≤ g ∧ g < K.heap.size) ∧ (∀ g, (Value.slice rA k rc).ownBlock = some g → w.heap.size ≤ g ∧ g < K.heap.size) ∧ w.heap.size ≤ K.heap.size) := ⟨fun g hg => by have := hfd g hg; omega, fun g hg => by have := hfr g hg; omega, hB1⟩
   have HCD : Hid (¬ (Value.slice dA k dc).ownBlock = some c) := fun e => by have := hfd c e; omega
   have HCR : Hid (¬ (Value.slice rA k rc).ownBlock = some c) := fun e => by have := hfr c e; omega
   have HTK : Hid (Turn (fun b => b = c) w K) := HTR.out.trans (Turn.of_below HBK)
   clear HBK tw hfd hfr out5 hK hg0 H0 H1 H2' H3 hbl hblw
   refine HavG.wp_region_tabY (R := (TP (ι := Empty) (fun b => b = c ∨ (Value.slice dA k dc).ownBlock = some b ∨ (Value.slice rA k rc).ownBlock = some b) (fun i _ => i.elim) (fun i => i.elim))) (fun i V wx => t5T K.heap.size w.heap.size c s g0 (Value.slice dA k dc) (Value.slice rA k rc) k xs ys p0 p1 q0 q1 i V wx) (fun i wx => t5S w.heap.size (Value.slice dA k dc) (Value.slice rA k rc) k xs ys i wx) (fun rem _ w => cntJ c (N + 2 * k) 4 11 rem w) (fun i b => (i = 6 ∧ (Value.slice dA k dc).ownBlock = some b) ∨ (i = 13 ∧ (Value.slice rA k rc).ownBlock = some b)) [6, 13] [some 21, some 22, some 23, some 24, some 25, some 26, some 27, some 28, some 29, some 30, some 31, some 32, some 33, some 34, some 6, some 8] (by kernel_rfl) (by kernel_rfl) (by rfl) (fun i _ => t5S_grow (t5S_zero HOD.out HOR.out i) (Below.drew (Below.refl _ _))) (cntJ_below (cntJ_start HCN.out) (Below.drew (Below.refl _ _))) (fun i b h => h.elim (fun h => (HFV.out.1 b h.2).2) (fun h => (HFV.out.2.1 b h.2).2)) (fun i j b hij h1 h2 => by rcases h1 with ⟨rfl, h1⟩ | ⟨rfl, h1⟩ <;> rcases h2 with ⟨rfl, h2⟩ | ⟨rfl, h2⟩ <;> first | exact hij rfl | exact HAP.out b h1 h2 | exact HAP.out b h2 h1) (fun h => h.1.size) ?_ (fun i hi V w h => by simp only [List.mem_cons, List.not_mem_nil, or_false] at hi; rcases hi with rfl | rfl <;> (obtain ⟨x, g, cp, -, -, -, e2, h, -⟩ := h; rw [e2]; exact (own_blk h).choose_spec.1.lt)) ?_ ?_
   ·intro i hi V V' w h hV
    match i, hi, h, hV with
    | 0, _, h, hV => exact (hV _ (.inl rfl)).symm.trans h
    | 1, _, h, hV => exact (hV _ (.inl rfl)).symm.trans h
    | 2, _, h, hV => exact (hV _ (.inl rfl)).symm.trans h
    | 3, _, h, hV => exact (hV _ (.inl rfl)).symm.trans h
    | 4, _, h, hV => (obtain ⟨x, h1, h2, e⟩ := h; exact ⟨x, h1, h2, (hV 4 (.inl rfl)).symm.trans e⟩)
    | 5, _, h, hV => (obtain ⟨x, g, h1, h2, e, e2, h⟩ := h; exact ⟨x, g, h1, h2, (hV 4 (.inr (by kernel_rfl))).symm.trans e, (hV 5 (.inl rfl)).symm.trans e2, h⟩)
    | 6, _, h, hV => (obtain ⟨x, g, cp, h1, h2, e, e2, h⟩ := h; exact ⟨x, g, cp, h1, h2, (hV 4 (.inr (by kernel_rfl))).symm.trans e, (hV 6 (.inl rfl)).symm.trans e2, h⟩)
    | 7, _, h, hV => exact (hV _ (.inl rfl)).symm.trans h
    | 8, _, h, hV => exact (hV _ (.inl rfl)).symm.trans h
    | 9, _, h, hV => exact (hV _ (.inl rfl)).symm.trans h
    | 10, _, h, hV => exact (hV _ (.inl rfl)).symm.trans h
    | 11, _, h, hV => (obtain ⟨x, h1, h2, e⟩ := h; exact ⟨x, h1, h2, (hV 11 (.inl rfl)).symm.trans e⟩)
    | 12, _, h, hV => (obtain ⟨x, g, h1, h2, e, e2, h⟩ := h; exact ⟨x, g, h1, h2, (hV 11 (.inr (by kernel_rfl))).symm.trans e, (hV 12 (.inl rfl)).symm.trans e2, h⟩)
    | 13, _, h, hV => (obtain ⟨x, g, cp, h1, h2, e, e2, h⟩ := h; exact ⟨x, g, cp, h1, h2, (hV 11 (.inr (by kernel_rfl))).symm.trans e, (hV 13 (.inl rfl)).symm.trans e2, h⟩)
    | 14, _, h, hV => exact ((hV 14 (.inl rfl)).symm.trans h).trans (hV 6 (.inr (by kernel_rfl)))
    | 15, _, h, hV => exact ((hV 15 (.inl rfl)).symm.trans h).trans (hV 13 (.inr (by kernel_rfl)))
    | j + 16, hj, _, _ => exact absurd hj (by simp)
   ·intro i hi oo a' w' ho hag hg hd hps hsl rem him hnd hj
    match i, hi, ho, hd, hps, hsl, him with
    | 0, _, ho, hd, hps, hsl, him =>
     (simp only [List.getElem?_toArray, List.getElem?_cons_zero, Option.some.injEq] at ho; subst ho)
     have r6 : a'.tmps.getD 6 undef = (Value.slice dA k dc) := hsl 6 (by kernel_rfl)
     have s6 : a'.tmps[6]?.getD undef = (Value.slice dA k dc) := by rw [← Array.getD_eq_getD_getElem?]; exact r6
     refine HavG.tabY_val rfl (by simp) ⟨(Value.slice dA k dc), w', ?_, ⟨HavG.Rel.refl _ _, cntJ_skip (by decide) (by decide) hj⟩, fun _ _ _ _ _ h => h, fun _ _ _ _ h => h, fun V _ hv => hv, fun h => by simp at h⟩
     go_simp
     try rfl
    | 1, _, ho, hd, hps, hsl, him =>
     (simp only [List.getElem?_toArray, List.getElem?_cons_succ, List.getElem?_cons_zero, Option.some.injEq] at ho; subst ho)
     have s1 : a'.tmps[1]?.getD undef = (.func (.func 98) #[] #[.pointer (some ⟨c, 0, none⟩), .pointer (some ⟨s, 0, none⟩)]) := by rw [← Array.getD_eq_getD_getElem?]; exact hag.slot 1 (by kernel_rfl)
     have r1 : a'.tmps.getD 1 undef = (.func (.func 98) #[] #[.pointer (some ⟨c, 0, none⟩), .pointer (some ⟨s, 0, none⟩)]) := hag.slot 1 (by kernel_rfl)
     refine HavG.tabY_val rfl (by simp) ⟨(Value.func (.func 98) #[] #[.pointer (some ⟨c, 0, none⟩), .pointer (some ⟨s, 0, none⟩)]), w', ?_, ⟨HavG.Rel.refl _ _, cntJ_skip (by decide) (by decide) hj⟩, fun _ _ _ _ _ h => h, fun _ _ _ _ h => h, fun V _ hv => hv, fun h => by simp at h⟩
     go_simp
     try rfl
    | 2, _, ho, hd, hps, hsl, him =>
     (simp only [List.getElem?_toArray, List.getElem?_cons_succ, List.getElem?_cons_zero, Option.some.injEq] at ho; subst ho)
     have s10 : a'.tmps[10]?.getD undef = (.pointer (some ⟨g0, 0, none⟩)) := by rw [← Array.getD_eq_getD_getElem?]; exact hag.slot 10 (by kernel_rfl)
     have r10 : a'.tmps.getD 10 undef = (.pointer (some ⟨g0, 0, none⟩)) := hag.slot 10 (by kernel_rfl)
     refine HavG.tabY_val rfl (by simp) ⟨.pointer (some ⟨g0, 0, none⟩), w', ?_, ⟨HavG.Rel.refl _ _, cntJ_skip (by decide) (by decide) hj⟩, fun _ _ _ _ _ h => h, fun _ _ _ _ h => h, fun V _ hv => hv, fun h => by simp at h⟩
     go_simp
     try rfl
    | 3, _, ho, hd, hps, hsl, him =>
     (simp only [List.getElem?_toArray, List.getElem?_cons_succ, List.getElem?_cons_zero, Option.some.injEq] at ho; subst ho)
     have d23 : a'.tmps.getD 23 undef = (.pointer (some ⟨g0, 0, none⟩)) := hd 2 (by kernel_rfl) (by decide)
     have c23 : a'.tmps[23]?.getD undef = (.pointer (some ⟨g0, 0, none⟩)) := by rw [← Array.getD_eq_getD_getElem?]; exact d23
     have hkb := HE0.out.turn hg.1 HES.out
     have z0 := hkb.cell 0
     have z1 := hkb.cell 1
     have zl := hkb.lt
     simp at z0 z1
     clear hkb
     refine HavG.tabY_val rfl (by simp) ⟨.agg #[.int .i64 (p0 : Nat), .int .i64 (p1 : Nat)], w', ?_, ⟨HavG.Rel.refl _ _, cntJ_skip (by decide) (by decide) hj⟩, fun _ _ _ _ _ h => h, fun _ _ _ _ h => h, fun V _ hv => hv, fun h => by simp at h⟩
     go_simp
     try rfl
    | 4, _, ho, hd, hps, hsl, him =>
     (simp only [List.getElem?_toArray, List.getElem?_cons_succ, List.getElem?_cons_zero, Option.some.injEq] at ho; subst ho)
     have d22 : a'.tmps.getD 22 undef = (.func (.func 98) #[] #[.pointer (some ⟨c, 0, none⟩), .pointer (some ⟨s, 0, none⟩)]) := hd 1 (by kernel_rfl) (by decide)
     have c22 : a'.tmps[22]?.getD undef = (.func (.func 98) #[] #[.pointer (some ⟨c, 0, none⟩), .pointer (some ⟨s, 0, none⟩)]) := by rw [← Array.getD_eq_getD_getElem?]; exact d22
     have d24 : a'.tmps.getD 24 undef = .agg #[.int .i64 (p0 : Nat), .int .i64 (p1 : Nat)] := hd 3 (by kernel_rfl) (by decide)
     have c24 : a'.tmps[24]?.getD undef = .agg #[.int .i64 (p0 : Nat), .int .i64 (p1 : Nat)] := by rw [← Array.getD_eq_getD_getElem?]; exact d24
     obtain ⟨M, hM, hc, hnx⟩ := cntJ_p him hnd (by decide) hj
     refine HavG.tabY_call rfl (by simp) (f := 98) (args := #[.agg #[.int .i64 (p0 : Nat), .int .i64 (p1 : Nat)], .pointer (some ⟨c, 0, none⟩), .pointer (some ⟨s, 0, none⟩)]) (by go_simp; try rfl) ((draw98_any (by omega) hp (by omega) w' (HSB.out.turn hg.1 HSS.out) hc (Nat.le_trans hBK hg.1.size) hBc (HU.out.turn hBK hg.1 HSB2.out)).mono ?_)
     rintro e w2 ⟨⟨v, rfl, hv1, hv2⟩, hc2, ht⟩
     exact ⟨_, rfl, ⟨⟨ht.mono (fun b e => .inl e), fun i => i.elim⟩, hnx _ hc2⟩, fun j V _ _ _ h => t5_low h ht HCB.out, fun j _ _ _ h => t5S_low h ht HCB.out, fun V _ hv => ⟨v, hv1, hv2, hv⟩, fun h => by simp at h⟩
    | 5, _, ho, hd, hps, hsl, him =>
     (simp only [List.getElem?_toArray, List.getElem?_cons_succ, List.getElem?_cons_zero, Option.some.injEq] at ho; subst ho)
     obtain ⟨x, hx1, hx2, e4⟩ : ∃ x : Nat, _ ≤ x ∧ x ≤ _ ∧ HavG.slot a' 25 = .int .i64 x := hd 4 (by kernel_rfl) (by decide)
     have d25 : a'.tmps.getD 25 undef = .int .i64 x := e4
     have c25 : a'.tmps[25]?.getD undef = .int .i64 x := by rw [← Array.getD_eq_getD_getElem?]; exact d25
     have HB : Below w'.heap.size w' (w'.alloc (.cells #[.int .i64 x] 3)) := (Below.refl _ _).alloc (Nat.le_refl _) _
     refine HavG.tabY_val rfl (by simp) ⟨.slice (some ⟨w'.heap.size, 0, none⟩) 1 1, w'.alloc (.cells #[.int .i64 x] 3), ?_, ⟨⟨Turn.of_below HB, fun i => i.elim⟩, cntJ_below (cntJ_skip (by decide) (by decide) hj) HB⟩, fun j V _ _ _ h => t5_grow h HB, fun j _ _ _ h => t5S_grow h HB, fun V hV hv => ⟨x, w'.heap.size, hx1, hx2, (hV 4 (by decide)).trans e4, hv, hg.1.size, Blk.new w' 3 _⟩, fun h => by simp at h⟩
     go_simp
     try rfl
    | 6, _, ho, hd, hps, hsl, him =>
     (simp only [List.getElem?_toArray, List.getElem?_cons_succ, List.getElem?_cons_zero, Option.some.injEq] at ho; subst ho)
     have e1 : HavG.slot a' 21 = (Value.slice dA k dc) := hd 0 (by kernel_rfl) (by decide)
     obtain ⟨x, g, hx1, hx2, e4, e16, hgB, hk16⟩ : ∃ x g : Nat, _ ≤ x ∧ x ≤ _ ∧ HavG.slot a' 25 = .int .i64 x ∧ HavG.slot a' 26 = .slice (some ⟨g, 0, none⟩) 1 1 ∧ K.heap.size ≤ g ∧ Blk w' g 3 #[Value.int .i64 x] := hd 5 (by kernel_rfl) (by decide)
     have hps' : w'.ownsRow w.heap.size 3 1 (Value.slice dA k dc) k (xs.map nV) := hps
     obtain ⟨g2, cp, w2, hrun, hown, ht, hgg⟩ := append_at (P := Try.prog) w.heap.size 47 47 3 i0 _ 1 8 Try.underlying47 HI.out HI0.out HI1.out HI2.out rfl (by decide) (Value.slice dA k dc) k _ hps' ⟨g, 0, none⟩ 1 [Value.int .i64 x] rfl (news_block hk16) (by simp [Value.oneCell']) (by omega) (by omega) (Nat.le_trans hB1 hg.1.size)
     exact HavG.tabY_val rfl (by simp) ⟨_, w2, append_oper rfl e1 e16 hrun, ⟨⟨ht.mono (fun b e => .inr (.inl e)), fun i => i.elim⟩, cntJ_turn (cntJ_skip (by decide) (by decide) hj) ht HCD.out⟩, fun j V _ hji _ h => t5_apd h ht HFV.out HAP.out hji, fun j _ hji _ h => t5_apdS h ht HAP.out hji, fun V hV hv => ⟨x, g2, cp, hx1, hx2, (hV 4 (by decide)).trans e4, hv, by rw [List.map_append]; exact hown, hgg.imp id (fun h => Nat.le_trans hg.1.size h)⟩, fun _ => hgg.elim (fun h => .inr (.inl ⟨rfl, h⟩)) .inl⟩
    | 7, _, ho, hd, hps, hsl, him =>
     (simp only [List.getElem?_toArray, List.getElem?_cons_succ, List.getElem?_cons_zero, Option.some.injEq] at ho; subst ho)
     have r8 : a'.tmps.getD 8 undef = (Value.slice rA k rc) := hsl 8 (by kernel_rfl)
     have s8 : a'.tmps[8]?.getD undef = (Value.slice rA k rc) := by rw [← Array.getD_eq_getD_getElem?]; exact r8
     refine HavG.tabY_val rfl (by simp) ⟨(Value.slice rA k rc), w', ?_, ⟨HavG.Rel.refl _ _, cntJ_skip (by decide) (by decide) hj⟩, fun _ _ _ _ _ h => h, fun _ _ _ _ h => h, fun V _ hv => hv, fun h => by simp at h⟩
     go_simp
     try rfl
    | 8, _, ho, hd, hps, hsl, him =>
     (simp only [List.getElem?_toArray, List.getElem?_cons_succ, List.getElem?_cons_zero, Option.some.injEq] at ho; subst ho)
     have s1 : a'.tmps[1]?.getD undef = (.func (.func 98) #[] #[.pointer (some ⟨c, 0, none⟩), .pointer (some ⟨s, 0, none⟩)]) := by rw [← Array.getD_eq_getD_getElem?]; exact hag.slot 1 (by kernel_rfl)
     have r1 : a'.tmps.getD 1 undef = (.func (.func 98) #[] #[.pointer (some ⟨c, 0, none⟩), .pointer (some ⟨s, 0, none⟩)]) := hag.slot 1 (by kernel_rfl)
     refine HavG.tabY_val rfl (by simp) ⟨(Value.func (.func 98) #[] #[.pointer (some ⟨c, 0, none⟩), .pointer (some ⟨s, 0, none⟩)]), w', ?_, ⟨HavG.Rel.refl _ _, cntJ_skip (by decide) (by decide) hj⟩, fun _ _ _ _ _ h => h, fun _ _ _ _ h => h, fun V _ hv => hv, fun h => by simp at h⟩
     go_simp
     try rfl
    | 9, _, ho, hd, hps, hsl, him =>
     (simp only [List.getElem?_toArray, List.getElem?_cons_succ, List.getElem?_cons_zero, Option.some.injEq] at ho; subst ho)
     have s10 : a'.tmps[10]?.getD undef = (.pointer (some ⟨g0, 0, none⟩)) := by rw [← Array.getD_eq_getD_getElem?]; exact hag.slot 10 (by kernel_rfl)
     have r10 : a'.tmps.getD 10 undef = (.pointer (some ⟨g0, 0, none⟩)) := hag.slot 10 (by kernel_rfl)
     refine HavG.tabY_val rfl (by simp) ⟨.pointer (some ⟨g0, 2, none⟩), w', ?_, ⟨HavG.Rel.refl _ _, cntJ_skip (by decide) (by decide) hj⟩, fun _ _ _ _ _ h => h, fun _ _ _ _ h => h, fun V _ hv => hv, fun h => by simp at h⟩
     go_simp
     try rfl
    | 10, _, ho, hd, hps, hsl, him =>
     (simp only [List.getElem?_toArray, List.getElem?_cons_succ, List.getElem?_cons_zero, Option.some.injEq] at ho; subst ho)
     have d30 : a'.tmps.getD 30 undef = (.pointer (some ⟨g0, 2, none⟩)) := hd 9 (by kernel_rfl) (by decide)
     have c30 : a'.tmps[30]?.getD undef = (.pointer (some ⟨g0, 2, none⟩)) := by rw [← Array.getD_eq_getD_getElem?]; exact d30
     have hkb := HE0.out.turn hg.1 HES.out
     have z2 := hkb.cell 2
     have z3 := hkb.cell 3
     have zl := hkb.lt
     simp at z2 z3
     clear hkb
     refine HavG.tabY_val rfl (by simp) ⟨.agg #[.int .i64 (q0 : Nat), .int .i64 (q1 : Nat)], w', ?_, ⟨HavG.Rel.refl _ _, cntJ_skip (by decide) (by decide) hj⟩, fun _ _ _ _ _ h => h, fun _ _ _ _ h => h, fun V _ hv => hv, fun h => by simp at h⟩
     go_simp
     try rfl
    | 11, _, ho, hd, hps, hsl, him =>
     (simp only [List.getElem?_toArray, List.getElem?_cons_succ, List.getElem?_cons_zero, Option.some.injEq] at ho; subst ho)
     have d29 : a'.tmps.getD 29 undef = (.func (.func 98) #[] #[.pointer (some ⟨c, 0, none⟩), .pointer (some ⟨s, 0, none⟩)]) := hd 8 (by kernel_rfl) (by decide)
     have c29 : a'.tmps[29]?.getD undef = (.func (.func 98) #[] #[.pointer (some ⟨c, 0, none⟩), .pointer (some ⟨s, 0, none⟩)]) := by rw [← Array.getD_eq_getD_getElem?]; exact d29
     have d31 : a'.tmps.getD 31 undef = .agg #[.int .i64 (q0 : Nat), .int .i64 (q1 : Nat)] := hd 10 (by kernel_rfl) (by decide)
     have c31 : a'.tmps[31]?.getD undef = .agg #[.int .i64 (q0 : Nat), .int .i64 (q1 : Nat)] := by rw [← Array.getD_eq_getD_getElem?]; exact d31
     obtain ⟨M, hM, hc, hnx⟩ := cntJ_q him hnd (by decide) hj
     refine HavG.tabY_call rfl (by simp) (f := 98) (args := #[.agg #[.int .i64 (q0 : Nat), .int .i64 (q1 : Nat)], .pointer (some ⟨c, 0, none⟩), .pointer (some ⟨s, 0, none⟩)]) (by go_simp; try rfl) ((draw98_any (by omega) hq (by omega) w' (HSB.out.turn hg.1 HSS.out) hc (Nat.le_trans hBK hg.1.size) hBc (HU.out.turn hBK hg.1 HSB2.out)).mono ?_)
     rintro e w2 ⟨⟨v, rfl, hv1, hv2⟩, hc2, ht⟩
     exact ⟨_, rfl, ⟨⟨ht.mono (fun b e => .inl e), fun i => i.elim⟩, hnx _ hc2⟩, fun j V _ _ _ h => t5_low h ht HCB.out, fun j _ _ _ h => t5S_low h ht HCB.out, fun V _ hv => ⟨v, hv1, hv2, hv⟩, fun h => by simp at h⟩
    | 12, _, ho, hd, hps, hsl, him =>
     (simp only [List.getElem?_toArray, List.getElem?_cons_succ, List.getElem?_cons_zero, Option.some.injEq] at ho; subst ho)
     obtain ⟨x, hx1, hx2, e4⟩ : ∃ x : Nat, _ ≤ x ∧ x ≤ _ ∧ HavG.slot a' 32 = .int .i64 x := hd 11 (by kernel_rfl) (by decide)
     have d32 : a'.tmps.getD 32 undef = .int .i64 x := e4
     have c32 : a'.tmps[32]?.getD undef = .int .i64 x := by rw [← Array.getD_eq_getD_getElem?]; exact d32
     have HB : Below w'.heap.size w' (w'.alloc (.cells #[.int .i64 x] 3)) := (Below.refl _ _).alloc (Nat.le_refl _) _
     refine HavG.tabY_val rfl (by simp) ⟨.slice (some ⟨w'.heap.size, 0, none⟩) 1 1, w'.alloc (.cells #[.int .i64 x] 3), ?_, ⟨⟨Turn.of_below HB, fun i => i.elim⟩, cntJ_below (cntJ_skip (by decide) (by decide) hj) HB⟩, fun j V _ _ _ h => t5_grow h HB, fun j _ _ _ h => t5S_grow h HB, fun V hV hv => ⟨x, w'.heap.size, hx1, hx2, (hV 11 (by decide)).trans e4, hv, hg.1.size, Blk.new w' 3 _⟩, fun h => by simp at h⟩
     go_simp
     try rfl
    | 13, _, ho, hd, hps, hsl, him =>
     (simp only [List.getElem?_toArray, List.getElem?_cons_succ, List.getElem?_cons_zero, Option.some.injEq] at ho; subst ho)
     have e1 : HavG.slot a' 28 = (Value.slice rA k rc) := hd 7 (by kernel_rfl) (by decide)
     obtain ⟨x, g, hx1, hx2, e4, e16, hgB, hk16⟩ : ∃ x g : Nat, _ ≤ x ∧ x ≤ _ ∧ HavG.slot a' 32 = .int .i64 x ∧ HavG.slot a' 33 = .slice (some ⟨g, 0, none⟩) 1 1 ∧ K.heap.size ≤ g ∧ Blk w' g 3 #[Value.int .i64 x] := hd 12 (by kernel_rfl) (by decide)
     have hps' : w'.ownsRow w.heap.size 3 1 (Value.slice rA k rc) k (ys.map nV) := hps
     obtain ⟨g2, cp, w2, hrun, hown, ht, hgg⟩ := append_at (P := Try.prog) w.heap.size 47 47 3 i0 _ 1 8 Try.underlying47 HI.out HI0.out HI1.out HI2.out rfl (by decide) (Value.slice rA k rc) k _ hps' ⟨g, 0, none⟩ 1 [Value.int .i64 x] rfl (news_block hk16) (by simp [Value.oneCell']) (by omega) (by omega) (Nat.le_trans hB1 hg.1.size)
     exact HavG.tabY_val rfl (by simp) ⟨_, w2, append_oper rfl e1 e16 hrun, ⟨⟨ht.mono (fun b e => .inr (.inr e)), fun i => i.elim⟩, cntJ_turn (cntJ_skip (by decide) (by decide) hj) ht HCR.out⟩, fun j V _ hji _ h => t5_apr h ht HFV.out HAP.out hji, fun j _ hji _ h => t5_aprS h ht HAP.out hji, fun V hV hv => ⟨x, g2, cp, hx1, hx2, (hV 11 (by decide)).trans e4, hv, by rw [List.map_append]; exact hown, hgg.imp id (fun h => Nat.le_trans hg.1.size h)⟩, fun _ => hgg.elim (fun h => .inr (.inr ⟨rfl, h⟩)) .inl⟩
    | 14, _, ho, hd, hps, hsl, him =>
     (simp only [List.getElem?_toArray, List.getElem?_cons_succ, List.getElem?_cons_zero, Option.some.injEq] at ho; subst ho)
     obtain ⟨vv, hvv⟩ : ∃ v, HavG.slot a' 27 = v := ⟨_, rfl⟩
     have d27 : a'.tmps.getD 27 undef = vv := hvv
     have c27 : a'.tmps[27]?.getD undef = vv := by rw [← Array.getD_eq_getD_getElem?]; exact d27
     refine HavG.tabY_val rfl (by simp) ⟨vv, w', ?_, ⟨HavG.Rel.refl _ _, cntJ_skip (by decide) (by decide) hj⟩, fun _ _ _ _ _ h => h, fun _ _ _ _ h => h, fun V hV hv => hv.trans (hvv.symm.trans (hV 6 (by decide)).symm), fun h => by simp at h⟩
     go_simp
    | 15, _, ho, hd, hps, hsl, him =>
     (simp only [List.getElem?_toArray, List.getElem?_cons_succ, List.getElem?_cons_zero, Option.some.injEq] at ho; subst ho)
     obtain ⟨vv, hvv⟩ : ∃ v, HavG.slot a' 34 = v := ⟨_, rfl⟩
     have d34 : a'.tmps.getD 34 undef = vv := hvv
     have c34 : a'.tmps[34]?.getD undef = vv := by rw [← Array.getD_eq_getD_getElem?]; exact d34
     refine HavG.tabY_val rfl (by simp) ⟨vv, w', ?_, ⟨HavG.Rel.refl _ _, cntJ_skip (by decide) (by decide) hj⟩, fun _ _ _ _ _ h => h, fun _ _ _ _ h => h, fun V hV hv => hv.trans (hvv.symm.trans (hV 13 (by decide)).symm), fun h => by simp at h⟩
     go_simp
    | j + 16, hj, _, _, _, _, _ => exact absurd hj (by simp)
   intro f w2 hg hjj hf hap
   have q21 : f 21 = _ := hf 0 (by decide)
   have q22 : f 22 = _ := hf 1 (by decide)
   have q23 : f 23 = _ := hf 2 (by decide)
   have q24 : f 24 = _ := hf 3 (by decide)
   have q28 : f 28 = _ := hf 7 (by decide)
   have q29 : f 29 = _ := hf 8 (by decide)
   have q30 : f 30 = _ := hf 9 (by decide)
   have q31 : f 31 = _ := hf 10 (by decide)
   obtain ⟨x, g, cp, hx1, hx2, q25, q27, ho1, -⟩ : ∃ x g cp : Nat, p0 ≤ x ∧ x ≤ p1 ∧ f 25 = .int .i64 x ∧ f 27 = .slice (some ⟨g, 0, none⟩) (k + 1) cp ∧ w2.ownsRow w.heap.size 3 1 (.slice (some ⟨g, 0, none⟩) (k + 1) cp) (k + 1) ((xs ++ [x]).map nV) ∧ ((Value.slice dA k dc).ownBlock = some g ∨ K.heap.size ≤ g) := hf 6 (by decide)
   obtain ⟨_, g26, -, -, -, q26, -⟩ : ∃ x g : Nat, p0 ≤ x ∧ x ≤ p1 ∧ f 25 = .int .i64 x ∧ f 26 = .slice (some ⟨g, 0, none⟩) 1 1 ∧ K.heap.size ≤ g ∧ Blk w2 g 3 #[Value.int .i64 x] := hf 5 (by decide)
   obtain ⟨y, h, cq, hy1, hy2, q32, q34, ho2, -⟩ : ∃ x g cp : Nat, q0 ≤ x ∧ x ≤ q1 ∧ f 32 = .int .i64 x ∧ f 34 = .slice (some ⟨g, 0, none⟩) (k + 1) cp ∧ w2.ownsRow w.heap.size 3 1 (.slice (some ⟨g, 0, none⟩) (k + 1) cp) (k + 1) ((ys ++ [x]).map nV) ∧ ((Value.slice rA k rc).ownBlock = some g ∨ K.heap.size ≤ g) := hf 13 (by decide)
   obtain ⟨_, g33, -, -, -, q33, -⟩ : ∃ x g : Nat, q0 ≤ x ∧ x ≤ q1 ∧ f 32 = .int .i64 x ∧ f 33 = .slice (some ⟨g, 0, none⟩) 1 1 ∧ K.heap.size ≤ g ∧ Blk w2 g 3 #[Value.int .i64 x] := hf 12 (by decide)
   have q6 : f 6 = f 27 := hf 14 (by decide)
   have q8 : f 8 = f 34 := hf 15 (by decide)
   have hne : HavG.bkV (f 27) ≠ HavG.bkV (f 34) := hap 6 13 (by decide) (by decide) (by decide) (by decide) (by decide)
   rw [q27, q34] at hne
   rw [q27] at q6
   rw [q34] at q8
   have tg := hg.1
   simp only [List.filterMap, HavG.puts, List.foldl_cons, List.foldl_nil, Act.put, List.setIfInBounds_toArray, List.set_cons_succ, List.set_cons_zero]
   rw [q21, q22, q23, q24, q25, q26, q27, q28, q29, q30, q31, q32, q33, q34, q6, q8]
   clear hf hap q21 q22 q23 q24 q25 q26 q27 q28 q29 q30 q31 q32 q33 q34 q6 q8 hg
   have HJ : Hid (Cnt c (N + 2 * (k + 1)) w2) := by have h := cntJ_end hjj; exact h
   have HRO1 := Lib.hid ho1
   have HRO2 := Lib.hid ho2
   have HRA : Hid (∀ b, (Value.slice (some ⟨g, 0, none⟩) (k + 1) cp).ownBlock = some b → ¬ (Value.slice (some ⟨h, 0, none⟩) (k + 1) cq).ownBlock = some b) := fun b e1 e2 => by cases e1; cases e2; exact hne rfl
   have HRT : Hid (Turn (fun b => b = c) w w2) := HTK.out.join tg (fun b e hb => by
    rcases e with e | e | e
    ·exact e
    ·have := HFV.out.1 b e; omega
    ·have := HFV.out.2.1 b e; omega)
   have HRD : Hid (Drawn r (k + 1) (xs ++ [x]) (ys ++ [y])) := ⟨by rw [List.length_append, HDR.out.lx]; rfl, by rw [List.length_append, HDR.out.ly]; rfl, fun i f hi hf => by
    by_cases e : i < k
    ·obtain ⟨x', y', h1, h2, h3⟩ := HDR.out.sp i f e hf
     exact ⟨x', y', by rw [List.getElem?_append_left (by rw [HDR.out.lx]; exact e)]; exact h1, by rw [List.getElem?_append_left (by rw [HDR.out.ly]; exact e)]; exact h2, h3⟩
    ·obtain rfl : i = k := by omega
     rw [HF0.out] at hf
     injection hf with hf
     subst hf
     exact ⟨x, y, by rw [List.getElem?_append_right (by rw [HDR.out.lx]; exact Nat.le_refl _), HDR.out.lx, Nat.sub_self]; rfl, by rw [List.getElem?_append_right (by rw [HDR.out.ly]; exact Nat.le_refl _), HDR.out.ly, Nat.sub_self]; rfl, by show ((p0 : Nat) : Int) ≤ x; omega, by show (x : Int) ≤ ((p1 : Nat) : Int); omega, by show ((q0 : Nat) : Int) ≤ y; omega, by show (y : Int) ≤ ((q1 : Nat) : Int); omega⟩⟩
   clear ho1 ho2 hne tg hjj
   go_wp2
   go_roundw
   case rel => exact ⟨k + 1, _, _, some ⟨g, 0, none⟩, some ⟨h, 0, none⟩, cp, cq, by omega, by go_num, by go_num, by go_num, HRD, HRO1, HRO2, HRA, HJ, HRT⟩
   case measure => simp [intOf]; omega
  ·obtain rfl : k = fl := by omega
   have HFIN : Hid (∀ (c0 c3 c5 c7 c9 c10 c11 c12 c13 c14 c15 c16 c17 c18 c19 c20 c21 c22 c23 c24 c25 c26 c27 c28 c29 c30 c31 c32 c33 c34 c35 c36 c37 c38 c39 c40 c41 c42 c43 c44 c45 c46 c47 c48 c49 c50 c51 c52 c53 c54 c55 c56 c57 c58 c59 c60 c61 c62 c63 c64 c65 c66 c67 c68 c69 c70 c71 c72 c73 c74 c75 c76 c77 c78 c79 c80 c81 c82 c83 c84 c85 c86 c87 : Value), Code.wp Try.prog (trulyK 3) (bodyPost Try.prog Try.f36 (TrulyPost c fa k fc r w0)) ⟨(c0::(.func (.func 98) #[] #[.pointer (some ⟨c, 0, none⟩), .pointer (some ⟨s, 0, none⟩)])::(.pointer (some ⟨b2, 0, none⟩))::c3::(.pointer (some ⟨b4, 0, none⟩))::c5::(.slice dA k dc)::c7::(.slice rA k rc)::c9::c10::c11::c12::c13::c14::c15::c16::c17::c18::c19::c20::c21::c22::c23::c24::c25::c26::c27::c28::c29::c30::c31::c32::c33::c34::c35::c36::c37::c38::c39::c40::c41::c42::c43::c44::c45::c46::c47::c48::c49::c50::c51::c52::c53::c54::c55::c56::c57::c58::c59::c60::c61::c62::c63::c64::c65::c66::c67::c68::c69::c70::c71::c72::c73::c74::c75::c76::c77::c78::c79::c80::c81::c82::c83::c84::c85::c86::c87::[]).toArray, []⟩ wr) :=
    truly3 HOK.out HP.out HU0.out HS0.out hBc hBw hc0 HSC.out (by rw [HEF.out]; exact HDR.out) (HT.out.trans HTR.out) HC0.out (by omega) (H2.out.turn HTR.out (by show ¬ b2 = c; omega)) h20 (H4.out.turn HTR.out (by show ¬ b4 = c; omega)) h40 H24.out (own_base HO1.out hBW0) (own_base HO2.out hBW0)
   go_wp2
   exact HFIN.out _ _ _ _ _ _ _ _ _ _ _ _ _ _ _ _ _ _ _ _ _ _ _ _ _ _ _ _ _ _ _ _ _ _ _ _ _ _ _ _ _ _ _ _ _ _ _ _ _ _ _ _ _ _ _ _ _ _ _ _ _ _ _ _ _ _ _ _ _ _ _ _ _ _ _ _ _ _ _ _ _ _ _
end
end Go.Proofs.Ytiodmkokpfgkkaa
