/- The laws' truth: how deep it is, and how fast it falls. Conditions: the river is valid; what the frame holds. -/
import Derived.Test.YtiodmkokpfgkkaaLawTrulyB
namespace Go.Proofs.Ytiodmkokpfgkkaa
open Go.RowKit Go.Hav Go.Shelf Go.Sq
attribute [local go_sem] Oper.semAt_some
section
variable {b2 b4 c s fl fc ll lc B ul uc N : Nat} {fa la ua : Option Addr} {r : IRiv} {t : Tr} {dv pv : Value} {w0 w : World} {U : List Nat}
/-- Of the first k freshes days and rises are drawn. -/
structure Drawn (r : IRiv) (k : Nat) (xs ys : List Nat) : Prop where
 lx : xs.length = k
 ly : ys.length = k
 sp : ∀ (i : Nat) (f : IFr), i < k → r.fr[i]? = some f → ∃ x y, xs[i]? = some x ∧ ys[i]? = some y ∧ f.days.lo ≤ (x : Int) ∧ (x : Int) ≤ f.days.hi ∧ f.rise.lo ≤ (y : Int) ∧ (y : Int) ≤ f.rise.hi
theorem Drawn.true_ {xs ys : List Nat} {d b : Nat} (h : Drawn r r.fr.length xs ys) (b1 : r.nat.fall.lo ≤ b) (b2 : b ≤ r.nat.fall.hi) (d1 : r.nat.depth.lo ≤ d) (d2 : d ≤ r.nat.depth.hi) : TrueT r ⟨d, b, xs, ys⟩ :=
 ⟨b1, b2, d1, d2, fun i f hf => by
  have hf' : (r.fr.map (·.nat))[i]? = some f := hf
  rw [List.getElem?_map] at hf'
  obtain ⟨g, hg, rfl⟩ := Option.map_eq_some_iff.1 hf'
  obtain ⟨x, y, e1, e2, h1, h2, h3, h4⟩ := h.sp i g (List.getElem?_eq_some_iff.1 hg).1 hg
  have ex : (⟨d, b, xs, ys⟩ : Tr).dsF i = x := by show xs.getD i 0 = x; rw [List.getD_eq_getElem?_getD, e1]; rfl
  have ey : (⟨d, b, xs, ys⟩ : Tr).rsF i = y := by show ys.getD i 0 = y; rw [List.getD_eq_getElem?_getD, e2]; rfl
  rw [ex, ey]
  show g.days.lo.toNat ≤ x ∧ x ≤ g.days.hi.toNat ∧ g.rise.lo.toNat ≤ y ∧ y ≤ g.rise.hi.toNat
  omega, h.lx, h.ly⟩
theorem Drawn.small {xs ys : List Nat} {d b : Nat} (hok : okR r = true) (h : Drawn r r.fr.length xs ys) (hd : d ≤ 60) (hb : b ≤ 60) : Tr.Small ⟨d, b, xs, ys⟩ r.fr.length := by
 have h3 := (okR_pts hok).1.2.2.2.1
 have hdy := inB_iff.1 (okR_pts hok).1.2.2.1
 have key : ∀ (i : Nat) (f : IFr), r.fr[i]? = some f → f.days.hi ≤ 10 ∧ f.rise.hi ≤ 20 := fun i f hf => by
  have h6 := List.all_eq_true.1 (okR_pts hok).2.1 f (List.mem_of_getElem? hf)
  unfold frB at h6
  rw [Bool.and_eq_true] at h6
  have a := spB_iff.1 h6.1
  have b := spB_iff.1 h6.2
  omega
 refine ⟨hd, hb, h3, h.lx, h.ly, fun x hx => ?_, fun y hy => ?_⟩
 ·obtain ⟨i, hi⟩ := List.getElem?_of_mem hx
  have hlt : i < r.fr.length := by have h1 := (List.getElem?_eq_some_iff.1 hi).1; have h2 := h.lx; simp only at h1; omega
  have hf : r.fr[i]? = some r.fr[i] := List.getElem?_eq_getElem hlt
  obtain ⟨x', y', e1, e2, h1, h2, h3, h4⟩ := h.sp i _ hlt hf
  obtain rfl : x' = x := by simp only at hi; rw [e1] at hi; exact Option.some.inj hi
  have := (key i _ hf).1
  omega
 ·obtain ⟨i, hi⟩ := List.getElem?_of_mem hy
  have hlt : i < r.fr.length := by have h1 := (List.getElem?_eq_some_iff.1 hi).1; have h2 := h.ly; simp only at h1; omega
  have hf : r.fr[i]? = some r.fr[i] := List.getElem?_eq_getElem hlt
  obtain ⟨x', y', e1, e2, h1, h2, h3, h4⟩ := h.sp i _ hlt hf
  obtain rfl : y' = y := by simp only at hi; rw [e2] at hi; exact Option.some.inj hi
  have := (key i _ hf).2
  omega
set_option maxRecDepth 100000 in
set_option maxHeartbeats 6400000 in
theorem truly5 (hok : okR r = true) (hP : RvIn w0 B fa fl la ll r) (hU : UIn w0 B ua ul U) (hs : Blk w0 s 45 #[.slice ua ul uc]) (hBc : B ≤ c) (hBw : B ≤ w0.heap.size) (hc0 : c < w0.heap.size) (hsc : ¬ s = c) (ht : TrueT r t) (hT : Turn (fun b => b = c) w0 w) (hN : Cnt c N w) (hNM : N ≤ 100) (h2 : Blk w b2 27 #[.int .i64 r.depth.lo, .int .i64 r.depth.hi, .int .i64 r.fall.lo, .int .i64 r.fall.hi, .int .i64 r.days, .slice fa fl fc, .slice la ll lc]) (h20 : w0.heap.size ≤ b2) (h4 : Blk w b4 27 #[.int .i64 0, .int .i64 0, .int .i64 0, .int .i64 0, .int .i64 0, .slice none 0 0, .slice none 0 0]) (h40 : w0.heap.size ≤ b4) (h24 : b2 ≠ b4)
  (oD : w.ownsRow w0.heap.size 3 1 dv fl (t.ds.map nV)) (oP : w.ownsRow w0.heap.size 3 1 pv (r.nat.days + 1) ((List.range (r.nat.days + 1)).map fun d => nV (t.at_ d))) (c0 c3 c8 c9 c10 c11 c12 c13 c14 c15 c16 c17 c18 c19 c20 c21 c22 c23 c24 c25 c26 c27 c28 c29 c30 c31 c32 c33 c34 c35 c36 c37 c38 c39 c40 c41 c42 c43 c44 c45 c46 c47 c48 c49 c50 c51 c52 c53 c54 c55 c56 c57 c58 c59 c60 c61 c62 c63 c64 c65 c66 c67 c68 c69 c70 c71 c72 c73 c74 c75 c76 c77 c78 c79 c80 c81 c82 c83 c84 c85 c86 c87 : Value) :
  Code.wp Try.prog (trulyK 5) (bodyPost Try.prog Try.f36 (TrulyPost c fa fl fc r w0)) ⟨(c0::(.func (.func 98) #[] #[.pointer (some ⟨c, 0, none⟩), .pointer (some ⟨s, 0, none⟩)])::(.pointer (some ⟨b2, 0, none⟩))::c3::(.pointer (some ⟨b4, 0, none⟩))::(.int .i64 t.by_)::dv::pv::c8::c9::c10::c11::c12::c13::c14::c15::c16::c17::c18::c19::c20::c21::c22::c23::c24::c25::c26::c27::c28::c29::c30::c31::c32::c33::c34::c35::c36::c37::c38::c39::c40::c41::c42::c43::c44::c45::c46::c47::c48::c49::c50::c51::c52::c53::c54::c55::c56::c57::c58::c59::c60::c61::c62::c63::c64::c65::c66::c67::c68::c69::c70::c71::c72::c73::c74::c75::c76::c77::c78::c79::c80::c81::c82::c83::c84::c85::c86::c87::[]).toArray, []⟩ w := by
 have H4 := Lib.hid h4
 have H : Hid (∀ w', Turn (fun b => b = b4) w w' → Blk w' b4 27 #[.int .i64 r.depth.lo, .int .i64 r.depth.hi, .int .i64 r.fall.lo, .int .i64 r.fall.hi, .int .i64 r.days, .slice fa fl fc, .slice none 0 0] → ∀ (c0 c3 c8 c9 c10 c11 c12 c13 c14 c15 c16 c17 c18 c19 c20 c21 c22 c23 c24 c25 c26 c27 c28 c29 c30 c31 c32 c33 c34 c35 c36 c37 c38 c39 c40 c41 c42 c43 c44 c45 c46 c47 c48 c49 c50 c51 c52 c53 c54 c55 c56 c57 c58 c59 c60 c61 c62 c63 c64 c65 c66 c67 c68 c69 c70 c71 c72 c73 c74 c75 c76 c77 c78 c79 c80 c81 c82 c83 c84 c85 c86 c87 : Value), Code.wp Try.prog (trulyK 7) (bodyPost Try.prog Try.f36 (TrulyPost c fa fl fc r w0)) ⟨(c0::(.func (.func 98) #[] #[.pointer (some ⟨c, 0, none⟩), .pointer (some ⟨s, 0, none⟩)])::(.pointer (some ⟨b2, 0, none⟩))::c3::(.pointer (some ⟨b4, 0, none⟩))::(.int .i64 t.by_)::dv::pv::c8::c9::c10::c11::c12::c13::c14::c15::c16::c17::c18::c19::c20::c21::c22::c23::c24::c25::c26::c27::c28::c29::c30::c31::c32::c33::c34::c35::c36::c37::c38::c39::c40::c41::c42::c43::c44::c45::c46::c47::c48::c49::c50::c51::c52::c53::c54::c55::c56::c57::c58::c59::c60::c61::c62::c63::c64::c65::c66::c67::c68::c69::c70::c71::c72::c73::c74::c75::c76::c77::c78::c79::c80::c81::c82::c83::c84::c85::c86::c87::[]).toArray, []⟩ w') := fun w' t4 hb4 => by
  have far : ∀ {v : Value} {sz n : Nat} {xs : List Value}, w.ownsRow w0.heap.size 3 sz v n xs → w'.ownsRow w0.heap.size 3 sz v n xs := fun ho => own_turn ho t4 (fun g hg e => by
   obtain ⟨hge, cs, hcs⟩ := own_block ho hg
   exact blk_ne hcs h4 (by decide) e)
  exact truly7 hok hP hU hs hBc hBw hc0 hsc ht (hT.join t4 (fun b e hb => by have e' : b = b4 := e; omega)) (hN.turn t4 (by show ¬ c = b4; omega)) hNM (h2.turn t4 h24) h20 hb4 h40 (far oD) (far oP)
 have q0 := h2.cell 0
 have q1 := h2.cell 1
 have q2 := h2.cell 2
 have q3 := h2.cell 3
 have q4 := h2.cell 4
 have q5 := h2.cell 5
 have q6 := h2.cell 6
 have ql := h2.lt
 have v0 := h4.cell 0
 have v1 := h4.cell 1
 have v2 := h4.cell 2
 have v3 := h4.cell 3
 have v4 := h4.cell 4
 have v5 := h4.cell 5
 have v6 := h4.cell 6
 have z0 := h4.frozen 0
 have z1 := h4.frozen 1
 have z2 := h4.frozen 2
 have z3 := h4.frozen 3
 have z4 := h4.frozen 4
 have z5 := h4.frozen 5
 have z6 := h4.frozen 6
 have vl := h4.lt
 simp at q0 q1 q2 q3 q4 q5 q6 v0 v1 v2 v3 v4 v5 v6
 conv => arg 2; whnf
 conv => arg 2; arg 2; arg 2; change trulyK 7
 clear hok hP hU hs hBc hBw hc0 hsc ht hT hN hNM h2 h20 h4 h40 h24 oD oP
 go_wp2
 refine H.out _ ((set7_turn w b4 _ _ _ _ _ _ _).trans (Turn.set (S := fun b => b = b4) ⟨b4, 6, none⟩ _ (fun _ => rfl))) ?_ _ _ _ _ _ _ _ _ _ _ _ _ _ _ _ _ _ _ _ _ _ _ _ _ _ _ _ _ _ _ _ _ _ _ _ _ _ _ _ _ _ _ _ _ _ _ _ _ _ _ _ _ _ _ _ _ _ _ _ _ _ _ _ _ _ _ _ _ _ _ _ _ _ _ _ _ _ _ _ _ _ _
 have h := (set7_blk (a := .int .i64 r.depth.lo) (b := .int .i64 r.depth.hi) (c := .int .i64 r.fall.lo) (d := .int .i64 r.fall.hi) (e := .int .i64 r.days) (f := .slice fa fl fc) (h := .slice la ll lc) H4.out).set_ 6 (.slice none 0 0)
 exact h
def t8T (BW b2 c s dlo dhi by_ : Nat) (dA : Option Addr) (fl dc : Nat) (rA : Option Addr) (rc : Nat) (r : IRiv) (xs ys : List Nat) (i : Nat) (V : Nat → Value) (w : World) : Prop :=
 match i with
 | 0 => V 0 = (.func (.func 98) #[] #[.pointer (some ⟨c, 0, none⟩), .pointer (some ⟨s, 0, none⟩)])
 | 1 => V 1 = .pointer (some ⟨b2, 0, none⟩)
 | 2 => V 2 = .agg #[.int .i64 (dlo : Nat), .int .i64 (dhi : Nat)]
 | 3 => ∃ d : Nat, dlo ≤ d ∧ d ≤ dhi ∧ V 3 = .int .i64 d
 | 4 => V 4 = .int .i64 (by_ : Nat)
 | 5 => V 5 = .pointer (some ⟨b2, 4, none⟩)
 | 6 => V 6 = .int .i64 (r.nat.days : Nat)
 | 7 => V 7 = .slice dA fl dc
 | 8 => V 8 = .slice rA fl rc
 | 9 => ∃ d : Nat, dlo ≤ d ∧ d ≤ dhi ∧ V 3 = .int .i64 d ∧ w.ownsRow BW 3 1 (V 9) (r.nat.days + 1) ((List.range (r.nat.days + 1)).map fun k => nV ((⟨d, by_, xs, ys⟩ : Tr).at_ k))
 | 10 => V 10 = V 9
 | _ => True
theorem t8_keep {BW dlo dhi by_ dc rc i : Nat} {dA rA : Option Addr} {xs ys : List Nat} {V : Nat → Value} {w' : World} {S : Nat → Prop} (h : t8T BW b2 c s dlo dhi by_ dA fl dc rA rc r xs ys i V w) (t : Turn S w w') (hS : ∀ b, S b → b < BW) : t8T BW b2 c s dlo dhi by_ dA fl dc rA rc r xs ys i V w' := by
 unfold t8T at h ⊢
 split at h
 case h_10 => obtain ⟨d, h1, h2, e, h⟩ := h; exact ⟨d, h1, h2, e, own_turn h t (fun g hg hs => by have := hS g hs; have := (own_block h hg).1; omega)⟩
 all_goals exact h
set_option maxRecDepth 100000 in
set_option maxHeartbeats 6400000 in
theorem truly4 {dA rA : Option Addr} {dc rc by_ : Nat} {xs ys : List Nat} (hok : okR r = true) (hP : RvIn w0 B fa fl la ll r) (hU : UIn w0 B ua ul U) (hs : Blk w0 s 45 #[.slice ua ul uc]) (hBc : B ≤ c) (hBw : B ≤ w0.heap.size) (hc0 : c < w0.heap.size) (hsc : ¬ s = c) (hDR : Drawn r r.fr.length xs ys) (hb1 : r.nat.fall.lo ≤ by_) (hb2 : by_ ≤ r.nat.fall.hi) (hT : Turn (fun b => b = c) w0 w) (hN : Cnt c N w) (hNM : N ≤ 50) (h2 : Blk w b2 27 #[.int .i64 r.depth.lo, .int .i64 r.depth.hi, .int .i64 r.fall.lo, .int .i64 r.fall.hi, .int .i64 r.days, .slice fa fl fc, .slice la ll lc]) (h20 : w0.heap.size ≤ b2) (h4 : Blk w b4 27 #[.int .i64 0, .int .i64 0, .int .i64 0, .int .i64 0, .int .i64 0, .slice none 0 0, .slice none 0 0]) (h40 : w0.heap.size ≤ b4) (h24 : b2 ≠ b4)
  (oD : w.ownsRow w0.heap.size 3 1 (.slice dA fl dc) fl (xs.map nV)) (oR : w.ownsRow w0.heap.size 3 1 (.slice rA fl rc) fl (ys.map nV)) (c0 c3 c7 c9 c10 c11 c12 c13 c14 c15 c16 c17 c18 c19 c20 c21 c22 c23 c24 c25 c26 c27 c28 c29 c30 c31 c32 c33 c34 c35 c36 c37 c38 c39 c40 c41 c42 c43 c44 c45 c46 c47 c48 c49 c50 c51 c52 c53 c54 c55 c56 c57 c58 c59 c60 c61 c62 c63 c64 c65 c66 c67 c68 c69 c70 c71 c72 c73 c74 c75 c76 c77 c78 c79 c80 c81 c82 c83 c84 c85 c86 c87 : Value) :
  Code.wp Try.prog (trulyK 4) (bodyPost Try.prog Try.f36 (TrulyPost c fa fl fc r w0)) ⟨(c0::(.func (.func 98) #[] #[.pointer (some ⟨c, 0, none⟩), .pointer (some ⟨s, 0, none⟩)])::(.pointer (some ⟨b2, 0, none⟩))::c3::(.pointer (some ⟨b4, 0, none⟩))::(.int .i64 (by_ : Nat))::(.slice dA fl dc)::c7::(.slice rA fl rc)::c9::c10::c11::c12::c13::c14::c15::c16::c17::c18::c19::c20::c21::c22::c23::c24::c25::c26::c27::c28::c29::c30::c31::c32::c33::c34::c35::c36::c37::c38::c39::c40::c41::c42::c43::c44::c45::c46::c47::c48::c49::c50::c51::c52::c53::c54::c55::c56::c57::c58::c59::c60::c61::c62::c63::c64::c65::c66::c67::c68::c69::c70::c71::c72::c73::c74::c75::c76::c77::c78::c79::c80::c81::c82::c83::c84::c85::c86::c87::[]).toArray, []⟩ w := by
 obtain ⟨d1, d2, d3⟩ := days_nat hok
 obtain ⟨a1, a2, a3, a4, a5, a6, -⟩ := okR_sp hok
 have hfl := hP.efl
 obtain ⟨dlo, hdlo⟩ : ∃ dlo : Nat, r.depth.lo = dlo := ⟨r.depth.lo.toNat, by omega⟩
 obtain ⟨dhi, hdhi⟩ : ∃ dhi : Nat, r.depth.hi = dhi := ⟨r.depth.hi.toNat, by omega⟩
 have hdle : dlo ≤ dhi := by omega
 have hd60 : dhi ≤ 60 := by omega
 have hdy := d1
 have hby : by_ ≤ 60 := by have e : r.nat.fall.hi = r.fall.hi.toNat := rfl; omega
 have HSM : Hid (∀ d : Nat, d ≤ 60 → Tr.Small ⟨d, by_, xs, ys⟩ fl) := fun d hd => by rw [← hfl]; exact hDR.small hok hd hby
 have HTR : Hid (∀ d : Nat, dlo ≤ d → d ≤ dhi → TrueT r ⟨d, by_, xs, ys⟩) := fun d h1 h2 => hDR.true_ hb1 hb2 (by show r.depth.lo.toNat ≤ d; omega) (by show d ≤ r.depth.hi.toNat; omega)
 have HTI : Hid (∀ w', Turn (fun b => b = c) w w' → ∀ d : Nat, TrIn w' ⟨d, by_, xs, ys⟩ dA rA) := fun w' t d => by
  have far : ∀ {v : Value} {zs : List Nat}, w.ownsRow w0.heap.size 3 1 v fl (zs.map nV) → w'.ownsRow w0.heap.size 3 1 v fl (zs.flatMap fun x => [nV x]) := fun ho => by
   rw [flat_one]
   exact own_turn ho t (fun g hgg e => by have := (own_block ho hgg).1; have e' : g = c := e; omega)
  obtain ⟨A1, c1, -, e1, r1, -⟩ := RowN.of_own (far oD) (hDR.lx.trans hfl)
  obtain ⟨A2, c2, -, e2, r2, -⟩ := RowN.of_own (far oR) (hDR.ly.trans hfl)
  injection e1 with e1
  injection e2 with e2
  subst e1 e2
  exact ⟨r1, r2⟩
 have HCK : Hid (c < w.heap.size) := Nat.lt_of_lt_of_le hc0 hT.size
 have HU : Hid (UIn w B ua ul U) := hU.turn hBw hT (fun b hb e => by have e' : b = c := e; omega)
 have HSB : Hid (Blk w s 45 #[.slice ua ul uc]) := hs.turn hT hsc
 have HSS : Hid (¬ s = c) := hsc
 have HSB2 : Hid (∀ b, b < B → ¬ b = c) := fun b hb => by omega
 have hBK : B ≤ w.heap.size := Nat.le_trans hBw hT.size
 have HCN : Hid (Cnt c N w) := hN
 have H2 : Hid (Blk w b2 27 #[.int .i64 r.depth.lo, .int .i64 r.depth.hi, .int .i64 r.fall.lo, .int .i64 r.fall.hi, .int .i64 r.days, .slice fa fl fc, .slice la ll lc]) := h2
 have H2C : Hid (¬ b2 = c) := by show ¬ _; omega
 have HK : Hid (∀ (w' : World) (d : Nat) (v : Value), Turn (fun b => b = c) w w' → Cnt c (N + 2) w' → dlo ≤ d → d ≤ dhi → w'.ownsRow w.heap.size 3 1 v (r.nat.days + 1) ((List.range (r.nat.days + 1)).map fun k => nV ((⟨d, by_, xs, ys⟩ : Tr).at_ k)) → ∀ (c0 c3 c8 c9 c10 c11 c12 c13 c14 c15 c16 c17 c18 c19 c20 c21 c22 c23 c24 c25 c26 c27 c28 c29 c30 c31 c32 c33 c34 c35 c36 c37 c38 c39 c40 c41 c42 c43 c44 c45 c46 c47 c48 c49 c50 c51 c52 c53 c54 c55 c56 c57 c58 c59 c60 c61 c62 c63 c64 c65 c66 c67 c68 c69 c70 c71 c72 c73 c74 c75 c76 c77 c78 c79 c80 c81 c82 c83 c84 c85 c86 c87 : Value), Code.wp Try.prog (trulyK 5) (bodyPost Try.prog Try.f36 (TrulyPost c fa fl fc r w0)) ⟨(c0::(.func (.func 98) #[] #[.pointer (some ⟨c, 0, none⟩), .pointer (some ⟨s, 0, none⟩)])::(.pointer (some ⟨b2, 0, none⟩))::c3::(.pointer (some ⟨b4, 0, none⟩))::(.int .i64 (by_ : Nat))::(.slice dA fl dc)::v::c8::c9::c10::c11::c12::c13::c14::c15::c16::c17::c18::c19::c20::c21::c22::c23::c24::c25::c26::c27::c28::c29::c30::c31::c32::c33::c34::c35::c36::c37::c38::c39::c40::c41::c42::c43::c44::c45::c46::c47::c48::c49::c50::c51::c52::c53::c54::c55::c56::c57::c58::c59::c60::c61::c62::c63::c64::c65::c66::c67::c68::c69::c70::c71::c72::c73::c74::c75::c76::c77::c78::c79::c80::c81::c82::c83::c84::c85::c86::c87::[]).toArray, []⟩ w') := fun w' d v t hc hd1 hd2 hv =>
  truly5 (t := ⟨d, by_, xs, ys⟩) hok hP hU hs hBc hBw hc0 hsc (HTR.out d hd1 hd2) (hT.trans t) hc (by omega) (h2.turn t H2C.out) h20 (h4.turn t (by show ¬ b4 = c; omega)) h40 h24 (own_turn oD t (fun g hg e => by have := (own_block oD hg).1; have e' : g = c := e; omega)) (own_base hv hT.size)
 have f98 := enters_of Try.func98 (by kernel_rfl) rfl
 have f97 := enters_of Try.func97 (by kernel_rfl) rfl
 obtain ⟨K, hKK⟩ : ∃ x, x = w := ⟨_, rfl⟩
 subst hKK
 conv => arg 2; whnf
 conv => arg 2; arg 2; change trulyK 5
 clear hok hP hU hs hsc hDR hb1 hb2 hT hN h2 h4 h24 oD oR a1 a2 a3 a4 a5 a6 d1
 go_upto_region 8 with fail
 refine HavG.wp_region_tabY (R := (TP (ι := Empty) (fun b => b = c) (fun i _ => i.elim) (fun i => i.elim))) (fun i V wx => t8T K.heap.size b2 c s dlo dhi by_ dA fl dc rA rc r xs ys i V wx) (fun i wx => True) (fun rem _ w => cntJ c N 3 100 rem w) (fun _ _ => False) [] [some 40, some 41, some 42, some 43, some 44, some 45, some 46, some 47, some 48, some 49, some 7] (by kernel_rfl) (by kernel_rfl) (by rfl) (fun _ _ => trivial) (cntJ_below (cntJ_start HCN.out) (Below.drew (Below.refl _ _))) (fun _ _ h => h.elim) (fun _ _ _ _ h => h.elim) (fun h => h.1.size) ?_ (fun i hi => by cases hi) ?_ ?_
 ·intro i hi V V' w h hV
  match i, hi, h, hV with
  | 0, _, h, hV => exact (hV _ (.inl rfl)).symm.trans h
  | 1, _, h, hV => exact (hV _ (.inl rfl)).symm.trans h
  | 2, _, h, hV => exact (hV _ (.inl rfl)).symm.trans h
  | 3, _, h, hV => (obtain ⟨d, h1, h2, e⟩ := h; exact ⟨d, h1, h2, (hV 3 (.inl rfl)).symm.trans e⟩)
  | 4, _, h, hV => exact (hV _ (.inl rfl)).symm.trans h
  | 5, _, h, hV => exact (hV _ (.inl rfl)).symm.trans h
  | 6, _, h, hV => exact (hV _ (.inl rfl)).symm.trans h
  | 7, _, h, hV => exact (hV _ (.inl rfl)).symm.trans h
  | 8, _, h, hV => exact (hV _ (.inl rfl)).symm.trans h
  | 9, _, h, hV => (obtain ⟨d, h1, h2, e, h⟩ := h; exact ⟨d, h1, h2, (hV 3 (.inr (by kernel_rfl))).symm.trans e, by rw [← hV 9 (.inl rfl)]; exact h⟩)
  | 10, _, h, hV => exact ((hV 10 (.inl rfl)).symm.trans h).trans (hV 9 (.inr (by kernel_rfl)))
  | j + 11, hj, _, _ => exact absurd hj (by simp)
 ·intro i hi oo a' w' ho hag hg hd hps hsl rem him hnd hj
  match i, hi, ho, hd, hps, hsl, him with
  | 0, _, ho, hd, hps, hsl, him =>
   (simp only [List.getElem?_toArray, List.getElem?_cons_zero, Option.some.injEq] at ho; subst ho)
   have s1 : a'.tmps[1]?.getD undef = (.func (.func 98) #[] #[.pointer (some ⟨c, 0, none⟩), .pointer (some ⟨s, 0, none⟩)]) := by rw [← Array.getD_eq_getD_getElem?]; exact hag.slot 1 (by kernel_rfl)
   have r1 : a'.tmps.getD 1 undef = (.func (.func 98) #[] #[.pointer (some ⟨c, 0, none⟩), .pointer (some ⟨s, 0, none⟩)]) := hag.slot 1 (by kernel_rfl)
   refine HavG.tabY_val rfl (by simp) ⟨(Value.func (.func 98) #[] #[.pointer (some ⟨c, 0, none⟩), .pointer (some ⟨s, 0, none⟩)]), w', ?_, ⟨HavG.Rel.refl _ _, cntJ_skip (by decide) (by decide) hj⟩, fun _ _ _ _ _ h => h, fun _ _ _ _ h => h, fun V _ hv => hv, fun h => by simp at h⟩
   go_simp
   try rfl
  | 1, _, ho, hd, hps, hsl, him =>
   (simp only [List.getElem?_toArray, List.getElem?_cons_succ, List.getElem?_cons_zero, Option.some.injEq] at ho; subst ho)
   have s2 : a'.tmps[2]?.getD undef = (.pointer (some ⟨b2, 0, none⟩)) := by rw [← Array.getD_eq_getD_getElem?]; exact hag.slot 2 (by kernel_rfl)
   have r2 : a'.tmps.getD 2 undef = (.pointer (some ⟨b2, 0, none⟩)) := hag.slot 2 (by kernel_rfl)
   refine HavG.tabY_val rfl (by simp) ⟨.pointer (some ⟨b2, 0, none⟩), w', ?_, ⟨HavG.Rel.refl _ _, cntJ_skip (by decide) (by decide) hj⟩, fun _ _ _ _ _ h => h, fun _ _ _ _ h => h, fun V _ hv => hv, fun h => by simp at h⟩
   go_simp
   try rfl
  | 2, _, ho, hd, hps, hsl, him =>
   (simp only [List.getElem?_toArray, List.getElem?_cons_succ, List.getElem?_cons_zero, Option.some.injEq] at ho; subst ho)
   have d41 : a'.tmps.getD 41 undef = (.pointer (some ⟨b2, 0, none⟩)) := hd 1 (by kernel_rfl) (by decide)
   have c41 : a'.tmps[41]?.getD undef = (.pointer (some ⟨b2, 0, none⟩)) := by rw [← Array.getD_eq_getD_getElem?]; exact d41
   have hkb := H2.out.turn hg.1 H2C.out
   have z0 := hkb.cell 0
   have z1 := hkb.cell 1
   have zl := hkb.lt
   simp at z0 z1
   clear hkb
   rw [hdlo] at z0
   rw [hdhi] at z1
   refine HavG.tabY_val rfl (by simp) ⟨.agg #[.int .i64 (dlo : Nat), .int .i64 (dhi : Nat)], w', ?_, ⟨HavG.Rel.refl _ _, cntJ_skip (by decide) (by decide) hj⟩, fun _ _ _ _ _ h => h, fun _ _ _ _ h => h, fun V _ hv => hv, fun h => by simp at h⟩
   go_simp
   try rfl
  | 3, _, ho, hd, hps, hsl, him =>
   (simp only [List.getElem?_toArray, List.getElem?_cons_succ, List.getElem?_cons_zero, Option.some.injEq] at ho; subst ho)
   have d40 : a'.tmps.getD 40 undef = (.func (.func 98) #[] #[.pointer (some ⟨c, 0, none⟩), .pointer (some ⟨s, 0, none⟩)]) := hd 0 (by kernel_rfl) (by decide)
   have c40 : a'.tmps[40]?.getD undef = (.func (.func 98) #[] #[.pointer (some ⟨c, 0, none⟩), .pointer (some ⟨s, 0, none⟩)]) := by rw [← Array.getD_eq_getD_getElem?]; exact d40
   have d42 : a'.tmps.getD 42 undef = .agg #[.int .i64 (dlo : Nat), .int .i64 (dhi : Nat)] := hd 2 (by kernel_rfl) (by decide)
   have c42 : a'.tmps[42]?.getD undef = .agg #[.int .i64 (dlo : Nat), .int .i64 (dhi : Nat)] := by rw [← Array.getD_eq_getD_getElem?]; exact d42
   obtain ⟨M, hM, hc, hnx⟩ := cntJ_p him hnd (by decide) hj
   refine HavG.tabY_call rfl (by simp) (f := 98) (args := #[.agg #[.int .i64 (dlo : Nat), .int .i64 (dhi : Nat)], .pointer (some ⟨c, 0, none⟩), .pointer (some ⟨s, 0, none⟩)]) (by go_simp; try rfl) ((draw98_any (by omega) hdle (by omega) w' (HSB.out.turn hg.1 HSS.out) hc (Nat.le_trans hBK hg.1.size) hBc (HU.out.turn hBK hg.1 HSB2.out)).mono ?_)
   rintro e w2 ⟨⟨v, rfl, hv1, hv2⟩, hc2, ht⟩
   exact ⟨_, rfl, ⟨⟨ht, fun i => i.elim⟩, hnx _ hc2⟩, fun j V _ _ _ h => t8_keep h ht (fun b e => by have e' : b = c := e; have := HCK.out; omega), fun _ _ _ _ h => h, fun V _ hv => ⟨v, hv1, hv2, hv⟩, fun h => by simp at h⟩
  | 4, _, ho, hd, hps, hsl, him =>
   (simp only [List.getElem?_toArray, List.getElem?_cons_succ, List.getElem?_cons_zero, Option.some.injEq] at ho; subst ho)
   have s5 : a'.tmps[5]?.getD undef = (.int .i64 (by_ : Nat)) := by rw [← Array.getD_eq_getD_getElem?]; exact hag.slot 5 (by kernel_rfl)
   have r5 : a'.tmps.getD 5 undef = (.int .i64 (by_ : Nat)) := hag.slot 5 (by kernel_rfl)
   refine HavG.tabY_val rfl (by simp) ⟨.int .i64 (by_ : Nat), w', ?_, ⟨HavG.Rel.refl _ _, cntJ_skip (by decide) (by decide) hj⟩, fun _ _ _ _ _ h => h, fun _ _ _ _ h => h, fun V _ hv => hv, fun h => by simp at h⟩
   go_simp
   try rfl
  | 5, _, ho, hd, hps, hsl, him =>
   (simp only [List.getElem?_toArray, List.getElem?_cons_succ, List.getElem?_cons_zero, Option.some.injEq] at ho; subst ho)
   have s2 : a'.tmps[2]?.getD undef = (.pointer (some ⟨b2, 0, none⟩)) := by rw [← Array.getD_eq_getD_getElem?]; exact hag.slot 2 (by kernel_rfl)
   have r2 : a'.tmps.getD 2 undef = (.pointer (some ⟨b2, 0, none⟩)) := hag.slot 2 (by kernel_rfl)
   refine HavG.tabY_val rfl (by simp) ⟨.pointer (some ⟨b2, 4, none⟩), w', ?_, ⟨HavG.Rel.refl _ _, cntJ_skip (by decide) (by decide) hj⟩, fun _ _ _ _ _ h => h, fun _ _ _ _ h => h, fun V _ hv => hv, fun h => by simp at h⟩
   go_simp
   try rfl
  | 6, _, ho, hd, hps, hsl, him =>
   (simp only [List.getElem?_toArray, List.getElem?_cons_succ, List.getElem?_cons_zero, Option.some.injEq] at ho; subst ho)
   have d45 : a'.tmps.getD 45 undef = (.pointer (some ⟨b2, 4, none⟩)) := hd 5 (by kernel_rfl) (by decide)
   have c45 : a'.tmps[45]?.getD undef = (.pointer (some ⟨b2, 4, none⟩)) := by rw [← Array.getD_eq_getD_getElem?]; exact d45
   have hkb := H2.out.turn hg.1 H2C.out
   have z4 := hkb.cell 4
   have zl := hkb.lt
   simp at z4
   clear hkb
   rw [hdy] at z4
   refine HavG.tabY_val rfl (by simp) ⟨.int .i64 (r.nat.days : Nat), w', ?_, ⟨HavG.Rel.refl _ _, cntJ_skip (by decide) (by decide) hj⟩, fun _ _ _ _ _ h => h, fun _ _ _ _ h => h, fun V _ hv => hv, fun h => by simp at h⟩
   go_simp
   try rfl
  | 7, _, ho, hd, hps, hsl, him =>
   (simp only [List.getElem?_toArray, List.getElem?_cons_succ, List.getElem?_cons_zero, Option.some.injEq] at ho; subst ho)
   have s6 : a'.tmps[6]?.getD undef = (.slice dA fl dc) := by rw [← Array.getD_eq_getD_getElem?]; exact hag.slot 6 (by kernel_rfl)
   have r6 : a'.tmps.getD 6 undef = (.slice dA fl dc) := hag.slot 6 (by kernel_rfl)
   refine HavG.tabY_val rfl (by simp) ⟨.slice dA fl dc, w', ?_, ⟨HavG.Rel.refl _ _, cntJ_skip (by decide) (by decide) hj⟩, fun _ _ _ _ _ h => h, fun _ _ _ _ h => h, fun V _ hv => hv, fun h => by simp at h⟩
   go_simp
   try rfl
  | 8, _, ho, hd, hps, hsl, him =>
   (simp only [List.getElem?_toArray, List.getElem?_cons_succ, List.getElem?_cons_zero, Option.some.injEq] at ho; subst ho)
   have s8 : a'.tmps[8]?.getD undef = (.slice rA fl rc) := by rw [← Array.getD_eq_getD_getElem?]; exact hag.slot 8 (by kernel_rfl)
   have r8 : a'.tmps.getD 8 undef = (.slice rA fl rc) := hag.slot 8 (by kernel_rfl)
   refine HavG.tabY_val rfl (by simp) ⟨.slice rA fl rc, w', ?_, ⟨HavG.Rel.refl _ _, cntJ_skip (by decide) (by decide) hj⟩, fun _ _ _ _ _ h => h, fun _ _ _ _ h => h, fun V _ hv => hv, fun h => by simp at h⟩
   go_simp
   try rfl
  | 9, _, ho, hd, hps, hsl, him =>
   (simp only [List.getElem?_toArray, List.getElem?_cons_succ, List.getElem?_cons_zero, Option.some.injEq] at ho; subst ho)
   obtain ⟨d, hd1, hd2, e3⟩ : ∃ d : Nat, dlo ≤ d ∧ d ≤ dhi ∧ HavG.slot a' 43 = .int .i64 d := hd 3 (by kernel_rfl) (by decide)
   have d43 : a'.tmps.getD 43 undef = .int .i64 d := e3
   have c43 : a'.tmps[43]?.getD undef = .int .i64 d := by rw [← Array.getD_eq_getD_getElem?]; exact d43
   have d44 : a'.tmps.getD 44 undef = .int .i64 (by_ : Nat) := hd 4 (by kernel_rfl) (by decide)
   have c44 : a'.tmps[44]?.getD undef = .int .i64 (by_ : Nat) := by rw [← Array.getD_eq_getD_getElem?]; exact d44
   have d46 : a'.tmps.getD 46 undef = .int .i64 (r.nat.days : Nat) := hd 6 (by kernel_rfl) (by decide)
   have c46 : a'.tmps[46]?.getD undef = .int .i64 (r.nat.days : Nat) := by rw [← Array.getD_eq_getD_getElem?]; exact d46
   have d47 : a'.tmps.getD 47 undef = .slice dA fl dc := hd 7 (by kernel_rfl) (by decide)
   have c47 : a'.tmps[47]?.getD undef = .slice dA fl dc := by rw [← Array.getD_eq_getD_getElem?]; exact d47
   have d48 : a'.tmps.getD 48 undef = .slice rA fl rc := hd 8 (by kernel_rfl) (by decide)
   have c48 : a'.tmps[48]?.getD undef = .slice rA fl rc := by rw [← Array.getD_eq_getD_getElem?]; exact d48
   have hTI : TrIn w' ⟨d, by_, xs, ys⟩ dA rA := HTI.out w' hg.1 d
   refine HavG.tabY_call rfl (by simp) (f := 97) (args := #[.int .i64 d, .int .i64 (by_ : Nat), .int .i64 (r.nat.days : Nat), .slice dA fl dc, .slice rA fl rc]) (by go_simp; try rfl) ((depths97_any (t := ⟨d, by_, xs, ys⟩) (HSM.out d (by omega)) r.nat.days (by omega) w' hTI).mono ?_)
   rintro e w2 ⟨⟨v, rfl, hown⟩, HB⟩
   exact ⟨_, rfl, ⟨⟨Turn.of_below HB, fun i => i.elim⟩, cntJ_below (cntJ_skip (by decide) (by decide) hj) HB⟩, fun j V _ _ _ h => t8_keep (S := fun _ => False) h (Turn.of_below HB) (fun _ h => h.elim), fun _ _ _ _ h => h, fun V hV hv => ⟨d, hd1, hd2, (hV 3 (by decide)).trans e3, by rw [hv]; exact own_base hown hg.1.size⟩, fun h => by simp at h⟩
  | 10, _, ho, hd, hps, hsl, him =>
   (simp only [List.getElem?_toArray, List.getElem?_cons_succ, List.getElem?_cons_zero, Option.some.injEq] at ho; subst ho)
   obtain ⟨vv, hvv⟩ : ∃ v, HavG.slot a' 49 = v := ⟨_, rfl⟩
   have d49 : a'.tmps.getD 49 undef = vv := hvv
   have c49 : a'.tmps[49]?.getD undef = vv := by rw [← Array.getD_eq_getD_getElem?]; exact d49
   refine HavG.tabY_val rfl (by simp) ⟨vv, w', ?_, ⟨HavG.Rel.refl _ _, cntJ_skip (by decide) (by decide) hj⟩, fun _ _ _ _ _ h => h, fun _ _ _ _ h => h, fun V hV hv => hv.trans (hvv.symm.trans (hV 9 (by decide)).symm), fun h => by simp at h⟩
   go_simp
  | j + 11, hj, _, _, _, _, _ => exact absurd hj (by simp)
 intro f w2 hg hjj hf _
 have q40 : f 40 = _ := hf 0 (by decide)
 have q41 : f 41 = _ := hf 1 (by decide)
 have q42 : f 42 = _ := hf 2 (by decide)
 have q44 : f 44 = _ := hf 4 (by decide)
 have q45 : f 45 = _ := hf 5 (by decide)
 have q46 : f 46 = _ := hf 6 (by decide)
 have q47 : f 47 = _ := hf 7 (by decide)
 have q48 : f 48 = _ := hf 8 (by decide)
 obtain ⟨d, hd1, hd2, q43, hown⟩ : ∃ d : Nat, dlo ≤ d ∧ d ≤ dhi ∧ f 43 = .int .i64 d ∧ w2.ownsRow K.heap.size 3 1 (f 49) (r.nat.days + 1) ((List.range (r.nat.days + 1)).map fun k => nV ((⟨d, by_, xs, ys⟩ : Tr).at_ k)) := hf 9 (by decide)
 obtain ⟨v, hv⟩ : ∃ v, f 49 = v := ⟨_, rfl⟩
 have q7 : f 7 = f 49 := hf 10 (by decide)
 rw [hv] at hown q7
 have tg := hg.1
 simp only [List.filterMap, HavG.puts, List.foldl_cons, List.foldl_nil, Act.put, List.setIfInBounds_toArray, List.set_cons_succ, List.set_cons_zero]
 rw [q40, q41, q42, q43, q44, q45, q46, q47, q48, hv, q7]
 have HG : Hid (Turn (fun b => b = c) K w2 ∧ Cnt c (N + 2) w2 ∧ w2.ownsRow K.heap.size 3 1 v (r.nat.days + 1) ((List.range (r.nat.days + 1)).map fun k => nV ((⟨d, by_, xs, ys⟩ : Tr).at_ k))) := ⟨tg, cntJ_end hjj, hown⟩
 clear hf q40 q41 q42 q43 q44 q45 q46 q47 q48 hv q7 hg tg hjj hown
 go_wp2
 exact HK.out w2 d v HG.out.1 HG.out.2.1 hd1 hd2 HG.out.2.2 _ _ _ _ _ _ _ _ _ _ _ _ _ _ _ _ _ _ _ _ _ _ _ _ _ _ _ _ _ _ _ _ _ _ _ _ _ _ _ _ _ _ _ _ _ _ _ _ _ _ _ _ _ _ _ _ _ _ _ _ _ _ _ _ _ _ _ _ _ _ _ _ _ _ _ _ _ _ _ _ _ _
end
end Go.Proofs.Ytiodmkokpfgkkaa
