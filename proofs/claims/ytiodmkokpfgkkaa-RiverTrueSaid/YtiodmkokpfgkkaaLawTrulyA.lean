/- The laws' truth: a river whose looks are right, made by drawn numbers; its end: the looks. Conditions: the river is valid; what the frame holds. -/
import Derived.Test.YtiodmkokpfgkkaaAppO
import Derived.Test.YtiodmkokpfgkkaaHavO
import Derived.Test.YtiodmkokpfgkkaaTrueP
import Derived.Test.YtiodmkokpfgkkaaLawDepths
namespace Go.Proofs.Ytiodmkokpfgkkaa
open Go.RowKit Go.Hav Go.Shelf Go.Sq
attribute [local go_sem] Oper.semAt_some
noncomputable def trulyK (k : Nat) : Code := dropSeq k (Try.f36.body.getD .skip)
/-- What the law's truth leaves. -/
def TrulyPost (c : Nat) (fa : Option Addr) (fl fc : Nat) (r : IRiv) (w : World) (e : Ending) (w' : World) : Prop :=
 ∃ (t : Tr) (lk : List ILk) (lv dv pv : Value), e = .returned (.tuple #[.agg #[.int .i64 r.depth.lo, .int .i64 r.depth.hi, .int .i64 r.fall.lo, .int .i64 r.fall.hi, .int .i64 r.days, .slice fa fl fc, lv], .int .i64 t.by_, dv, pv]) ∧ TrueIn r t lk ∧ w'.ownsRow w.heap.size 58 3 lv r.lk.length (lk.flatMap lkI) ∧
  w'.ownsRow w.heap.size 3 1 dv fl (t.ds.map nV) ∧ w'.ownsRow w.heap.size 3 1 pv (r.nat.days + 1) ((List.range (r.nat.days + 1)).map fun d => nV (t.at_ d)) ∧ Turn (fun b => b = c) w w'
/-- The first half of it: a truth. -/
structure TrueT (r : IRiv) (t : Tr) : Prop where
 b1 : r.nat.fall.lo ≤ t.by_
 b2 : t.by_ ≤ r.nat.fall.hi
 d1 : r.nat.depth.lo ≤ t.d
 d2 : t.d ≤ r.nat.depth.hi
 sp : InSp r.nat.fr t.dsF t.rsF
 nds : t.ds.length = r.fr.length
 nrs : t.rs.length = r.fr.length
def LooksOk (r : IRiv) (t : Tr) (lk : List ILk) : Prop := ∀ (k : Nat) (l : ILk), lk[k]? = some l → ∃ l0 : ILk, r.lk[k]? = some l0 ∧ l.day = l0.day ∧ ∃ a c : Nat, a ≤ 3 ∧ c ≤ 3 ∧ l.dep.lo = ((t.at_ l0.day.toNat - a : Nat) : Int) ∧ l.dep.hi = ((t.at_ l0.day.toNat + c : Nat) : Int)
theorem TrueT.looks {r : IRiv} {t : Tr} {lk : List ILk} (h : TrueT r t) (hl : LooksOk r t lk) (hn : lk.length = r.lk.length) : TrueIn r t lk := ⟨h.b1, h.b2, h.d1, h.d2, h.sp, h.nds, h.nrs, hn, hl⟩
theorem LooksOk.snoc {r : IRiv} {t : Tr} {lks : List ILk} {k n a b : Nat} {l0 : ILk} (h : LooksOk r t lks) (hk : lks.length = k) (h0 : r.lk[k]? = some l0) (hn : n = t.at_ l0.day.toNat) (ha : a ≤ 3) (hb : b ≤ 3) : LooksOk r t (lks ++ [⟨l0.day, ⟨((n - a : Nat) : Int), (n : Int) + b⟩⟩]) := fun j l hj => by
 by_cases e : j < lks.length
 ·rw [List.getElem?_append_left e] at hj
  exact h j l hj
 ·have e2 : j = k := by
   have := (List.getElem?_eq_some_iff.1 hj).1
   simp at this
   omega
  subst e2
  rw [List.getElem?_append_right (by omega), hk, Nat.sub_self] at hj
  simp only [List.getElem?_cons_zero, Option.some.injEq] at hj
  subst hj
  exact ⟨l0, h0, rfl, a, b, ha, hb, by rw [hn], by rw [hn]; push_cast; rfl⟩
def t15T (B1 BW b4 gk c s k : Nat) (lv : Value) (l0 : ILk) (n : Nat) (lks : List ILk) (fa : Option Addr) (fl fc : Nat) (r : IRiv) (i : Nat) (V : Nat → Value) (w : World) : Prop :=
 match i with
 | 0 => V 0 = .pointer (some ⟨b4, 6, none⟩)
 | 1 => V 1 = lv
 | 2 => V 2 = .pointer (some ⟨gk, 0, none⟩)
 | 3 => V 3 = .int .i64 l0.day
 | 4 => V 4 = .int .i64 n
 | 5 => V 5 = (.func (.func 98) #[] #[.pointer (some ⟨c, 0, none⟩), .pointer (some ⟨s, 0, none⟩)])
 | 6 => V 6 = .agg #[.int .i64 ((0 : Nat) : Int), .int .i64 ((3 : Nat) : Int)]
 | 7 => ∃ a : Nat, a ≤ 3 ∧ V 7 = .int .i64 a
 | 8 => ∃ a : Nat, a ≤ 3 ∧ V 8 = .int .i64 ((n : Int) - a)
 | 9 => ∃ a : Nat, a ≤ 3 ∧ V 9 = .int .i64 ((n - a : Nat) : Int)
 | 10 => V 10 = .int .i64 n
 | 11 => V 11 = (.func (.func 98) #[] #[.pointer (some ⟨c, 0, none⟩), .pointer (some ⟨s, 0, none⟩)])
 | 12 => V 12 = .agg #[.int .i64 ((0 : Nat) : Int), .int .i64 ((3 : Nat) : Int)]
 | 13 => ∃ a : Nat, a ≤ 3 ∧ V 13 = .int .i64 a
 | 14 => ∃ a : Nat, a ≤ 3 ∧ V 14 = .int .i64 ((n : Int) + a)
 | 15 => ∃ a b : Nat, a ≤ 3 ∧ b ≤ 3 ∧ V 15 = .agg #[.int .i64 l0.day, .int .i64 ((n - a : Nat) : Int), .int .i64 ((n : Int) + b)]
 | 16 => ∃ a b g : Nat, a ≤ 3 ∧ b ≤ 3 ∧ V 16 = .slice (some ⟨g, 0, none⟩) 1 1 ∧ BW ≤ g ∧ Blk w g 58 #[Value.int .i64 l0.day, .int .i64 ((n - a : Nat) : Int), .int .i64 ((n : Int) + b)]
 | 17 => ∃ a b g cp : Nat, a ≤ 3 ∧ b ≤ 3 ∧ V 17 = .slice (some ⟨g, 0, none⟩) (k + 1) cp ∧ w.ownsRow B1 58 3 (.slice (some ⟨g, 0, none⟩) (k + 1) cp) (k + 1) (lks.flatMap lkI ++ [Value.int .i64 l0.day, .int .i64 ((n - a : Nat) : Int), .int .i64 ((n : Int) + b)])
 | 18 => V 18 = .pointer (some ⟨b4, 6, none⟩)
 | 19 => ∃ a b g cp : Nat, a ≤ 3 ∧ b ≤ 3 ∧ Blk w b4 27 #[.int .i64 r.depth.lo, .int .i64 r.depth.hi, .int .i64 r.fall.lo, .int .i64 r.fall.hi, .int .i64 r.days, .slice fa fl fc, .slice (some ⟨g, 0, none⟩) (k + 1) cp] ∧ w.ownsRow B1 58 3 (.slice (some ⟨g, 0, none⟩) (k + 1) cp) (k + 1) (lks.flatMap lkI ++ [Value.int .i64 l0.day, .int .i64 ((n - a : Nat) : Int), .int .i64 ((n : Int) + b)])
 | _ => True
def t15S (B1 b4 k : Nat) (lv : Value) (lks : List ILk) (fa : Option Addr) (fl fc : Nat) (r : IRiv) (i : Nat) (w : World) : Prop :=
 match i with
 | 1 => Blk w b4 27 #[.int .i64 r.depth.lo, .int .i64 r.depth.hi, .int .i64 r.fall.lo, .int .i64 r.fall.hi, .int .i64 r.days, .slice fa fl fc, lv]
 | 17 => w.ownsRow B1 58 3 lv k (lks.flatMap lkI)
 | 19 => Blk w b4 27 #[.int .i64 r.depth.lo, .int .i64 r.depth.hi, .int .i64 r.fall.lo, .int .i64 r.fall.hi, .int .i64 r.days, .slice fa fl fc, lv]
 | _ => True
section
variable {B1 BW b4 gk c s k n fl fc i : Nat} {lv : Value} {l0 : ILk} {lks : List ILk} {fa : Option Addr} {r : IRiv} {V : Nat → Value} {w w' : World} {S : Nat → Prop}
theorem own_ge {e sz n : Nat} {v : Value} {xs : List Value} (h : w.ownsRow B1 e sz v n xs) {g : Nat} (hg : v.ownBlock = some g) : B1 ≤ g := (own_block h hg).1
theorem t15_keep (h : t15T B1 BW b4 gk c s k lv l0 n lks fa fl fc r i V w) (t : Turn S w w') (hW : ∀ b, S b → b < BW) (h17 : i = 17 ∨ i = 19 → ∀ b, S b → b < B1) (h19 : i = 19 → ¬ S b4) : t15T B1 BW b4 gk c s k lv l0 n lks fa fl fc r i V w' := by
 unfold t15T at h ⊢
 split at h
 case h_17 => obtain ⟨a, b, g, ha, hb, e, hg, h⟩ := h; exact ⟨a, b, g, ha, hb, e, hg, h.turn t (fun hs => by have := hW _ hs; omega)⟩
 case h_18 => obtain ⟨a, b, g, cp, ha, hb, e, h⟩ := h; exact ⟨a, b, g, cp, ha, hb, e, own_turn h t (fun q hq hs => by have := h17 (.inl rfl) _ hs; have := own_ge h hq; omega)⟩
 case h_20 => obtain ⟨a, b, g, cp, ha, hb, h1, h⟩ := h; exact ⟨a, b, g, cp, ha, hb, h1.turn t (h19 rfl), own_turn h t (fun q hq hs => by have := h17 (.inr rfl) _ hs; have := own_ge h hq; omega)⟩
 all_goals exact h
theorem t15_grow (h : t15T B1 BW b4 gk c s k lv l0 n lks fa fl fc r i V w) (hb : Below w.heap.size w w') : t15T B1 BW b4 gk c s k lv l0 n lks fa fl fc r i V w' := t15_keep (S := fun _ => False) h (Turn.of_below hb) (fun _ h => h.elim) (fun _ _ h => h.elim) (fun _ h => h)
theorem t15_turn (h : t15T B1 BW b4 gk c s k lv l0 n lks fa fl fc r i V w) (t : Turn (fun b => b = c) w w') (hf : c < B1 ∧ B1 ≤ BW ∧ c ≠ b4 ∧ b4 < B1) : t15T B1 BW b4 gk c s k lv l0 n lks fa fl fc r i V w' := t15_keep h t (fun b e => by have e' : b = c := e; omega) (fun _ b e => by have e' : b = c := e; omega) (fun _ e => hf.2.2.1 (Eq.symm e))
theorem t15_app (h : t15T B1 BW b4 gk c s k lv l0 n lks fa fl fc r i V w) (t : Turn (fun b => lv.ownBlock = some b) w w') (hf : ∀ g, lv.ownBlock = some g → B1 ≤ g ∧ g < BW) (h17 : i ≠ 17) (h19 : i ≠ 19) : t15T B1 BW b4 gk c s k lv l0 n lks fa fl fc r i V w' := t15_keep h t (fun b e => (hf b e).2) (fun e => e.elim (fun e => absurd e h17) (fun e => absurd e h19)) (fun e => absurd e h19)
theorem t15_set (h : t15T B1 BW b4 gk c s k lv l0 n lks fa fl fc r i V w) (t : Turn (fun b => b = b4) w w') (hf : b4 < B1 ∧ B1 ≤ BW) (h19 : i ≠ 19) : t15T B1 BW b4 gk c s k lv l0 n lks fa fl fc r i V w' := t15_keep h t (fun b e => by have e' : b = b4 := e; omega) (fun _ b e => by have e' : b = b4 := e; omega) (fun e => absurd e h19)
theorem t15S_zero (hx : Blk w b4 27 #[.int .i64 r.depth.lo, .int .i64 r.depth.hi, .int .i64 r.fall.lo, .int .i64 r.fall.hi, .int .i64 r.days, .slice fa fl fc, lv]) (ho : w.ownsRow B1 58 3 lv k (lks.flatMap lkI)) (i : Nat) : t15S B1 b4 k lv lks fa fl fc r i w := by
 unfold t15S
 split
 ·exact hx
 ·exact ho
 ·exact hx
 ·trivial
theorem t15S_keep (h : t15S B1 b4 k lv lks fa fl fc r i w) (t : Turn S w w') (h1 : i = 1 ∨ i = 19 → ¬ S b4) (h17 : i = 17 → ∀ g, lv.ownBlock = some g → ¬ S g) : t15S B1 b4 k lv lks fa fl fc r i w' := by
 unfold t15S at h ⊢
 split at h
 ·exact h.turn t (h1 (.inl rfl))
 ·exact own_turn h t (h17 rfl)
 ·exact h.turn t (h1 (.inr rfl))
 ·trivial
theorem t15S_grow (h : t15S B1 b4 k lv lks fa fl fc r i w) (hb : Below w.heap.size w w') : t15S B1 b4 k lv lks fa fl fc r i w' := t15S_keep (S := fun _ => False) h (Turn.of_below hb) (fun _ h => h) (fun _ _ _ h => h)
theorem t15S_turn (h : t15S B1 b4 k lv lks fa fl fc r i w) (t : Turn (fun b => b = c) w w') (hf : c < B1 ∧ B1 ≤ BW ∧ c ≠ b4 ∧ b4 < B1) : t15S B1 b4 k lv lks fa fl fc r i w' := by
 by_cases e : i = 17
 ·subst e
  exact t15S_keep h t (fun e => by omega) (fun _ g hg e => by have e' : g = c := e; have := own_ge (show w.ownsRow B1 58 3 lv k _ from h) hg; omega)
 ·exact t15S_keep h t (fun _ e => hf.2.2.1 (Eq.symm e)) (fun e' => absurd e' e)
theorem t15S_app (h : t15S B1 b4 k lv lks fa fl fc r i w) (t : Turn (fun b => lv.ownBlock = some b) w w') (hf : ∀ g, lv.ownBlock = some g → B1 ≤ g ∧ g < BW) (hb : b4 < B1) (h17 : i ≠ 17) : t15S B1 b4 k lv lks fa fl fc r i w' := t15S_keep h t (fun _ e => by have := hf _ e; omega) (fun e => absurd e h17)
theorem t15S_set (h : t15S B1 b4 k lv lks fa fl fc r i w) (t : Turn (fun b => b = b4) w w') (_hf : b4 < B1 ∧ B1 ≤ BW) (h19 : i ≠ 19) (h1 : i ≠ 1) (h17 : i ≠ 17) : t15S B1 b4 k lv lks fa fl fc r i w' := t15S_keep h t (fun e => e.elim (fun e => absurd e h1) (fun e => absurd e h19)) (fun e => absurd e h17)
end
section
variable {b2 b4 c s fl fc ll lc B ul uc : Nat} {fa la ua : Option Addr} {r : IRiv} {t : Tr} {dv pv : Value} {w0 w : World} {U : List Nat}
set_option maxRecDepth 100000 in
set_option maxHeartbeats 6400000 in
theorem truly8 {lks : List ILk} {lA : Option Addr} {ln lp : Nat} (hl : TrueIn r t lks) (hT : Turn (fun b => b = c) w0 w) (h4 : Blk w b4 27 #[.int .i64 r.depth.lo, .int .i64 r.depth.hi, .int .i64 r.fall.lo, .int .i64 r.fall.hi, .int .i64 r.days, .slice fa fl fc, .slice lA ln lp]) (h40 : w0.heap.size ≤ b4) (oL : w.ownsRow w0.heap.size 58 3 (.slice lA ln lp) r.lk.length (lks.flatMap lkI))
  (oD : w.ownsRow w0.heap.size 3 1 dv fl (t.ds.map nV)) (oP : w.ownsRow w0.heap.size 3 1 pv (r.nat.days + 1) ((List.range (r.nat.days + 1)).map fun d => nV (t.at_ d))) (c0 c3 c8 c9 c10 c11 c12 c13 c14 c15 c16 c17 c18 c19 c20 c21 c22 c23 c24 c25 c26 c27 c28 c29 c30 c31 c32 c33 c34 c35 c36 c37 c38 c39 c40 c41 c42 c43 c44 c45 c46 c47 c48 c49 c50 c51 c52 c53 c54 c55 c56 c57 c58 c59 c60 c61 c62 c63 c64 c65 c66 c67 c68 c69 c70 c71 c72 c73 c74 c75 c76 c77 c78 c79 c80 c81 c82 c83 c84 c85 c86 c87 : Value) :
  Code.wp Try.prog (trulyK 8) (bodyPost Try.prog Try.f36 (TrulyPost c fa fl fc r w0)) ⟨(c0::(.func (.func 98) #[] #[.pointer (some ⟨c, 0, none⟩), .pointer (some ⟨s, 0, none⟩)])::(.pointer (some ⟨b2, 0, none⟩))::c3::(.pointer (some ⟨b4, 0, none⟩))::(.int .i64 t.by_)::dv::pv::c8::c9::c10::c11::c12::c13::c14::c15::c16::c17::c18::c19::c20::c21::c22::c23::c24::c25::c26::c27::c28::c29::c30::c31::c32::c33::c34::c35::c36::c37::c38::c39::c40::c41::c42::c43::c44::c45::c46::c47::c48::c49::c50::c51::c52::c53::c54::c55::c56::c57::c58::c59::c60::c61::c62::c63::c64::c65::c66::c67::c68::c69::c70::c71::c72::c73::c74::c75::c76::c77::c78::c79::c80::c81::c82::c83::c84::c85::c86::c87::[]).toArray, []⟩ w := by
 conv => arg 2; whnf
 have H4 := Lib.hid h4
 have HE := Lib.hid (And.intro hl (And.intro oL (And.intro oD (And.intro oP hT))))
 have q0 := H4.out.cell 0
 have q1 := H4.out.cell 1
 have q2 := H4.out.cell 2
 have q3 := H4.out.cell 3
 have q4 := H4.out.cell 4
 have q5 := H4.out.cell 5
 have q6 := H4.out.cell 6
 have ql := H4.out.lt
 have z0 := H4.out.frozen 0
 have z1 := H4.out.frozen 1
 have z2 := H4.out.frozen 2
 have z3 := H4.out.frozen 3
 have z4 := H4.out.frozen 4
 have z5 := H4.out.frozen 5
 have z6 := H4.out.frozen 6
 simp at q0 q1 q2 q3 q4 q5 q6
 clear hl hT h4 oL oD oP
 go_wp2
 obtain ⟨W5, hW5⟩ : ∃ W5, W5 = set7 w b4 (.int .i64 r.depth.lo) (.int .i64 r.depth.hi) (.int .i64 r.fall.lo) (.int .i64 r.fall.hi) (.int .i64 r.days) (.slice fa fl fc) (.slice lA ln lp) := ⟨_, rfl⟩
 have HK5 : Blk W5 b4 27 #[.int .i64 r.depth.lo, .int .i64 r.depth.hi, .int .i64 r.fall.lo, .int .i64 r.fall.hi, .int .i64 r.days, .slice fa fl fc, .slice lA ln lp] := by rw [hW5]; exact set7_blk H4.out
 have t5 : Turn (fun b => b = b4) w W5 := by rw [hW5]; exact set7_turn _ _ _ _ _ _ _ _ _
 unfold set7 at hW5
 rw [← hW5]
 have k0 := HK5.cell 0
 have k1 := HK5.cell 1
 have k2 := HK5.cell 2
 have k3 := HK5.cell 3
 have k4 := HK5.cell 4
 have k5 := HK5.cell 5
 have k6 := HK5.cell 6
 have kl := HK5.lt
 simp at k0 k1 k2 k3 k4 k5 k6
 refine bodyPost_ret (v := .tuple #[.agg #[.int .i64 r.depth.lo, .int .i64 r.depth.hi, .int .i64 r.fall.lo, .int .i64 r.fall.hi, .int .i64 r.days, .slice fa fl fc, .slice lA ln lp], .int .i64 t.by_, dv, pv]) (by simp [results, Try.results36, go_sem]; go_simp) rfl ?_
 obtain ⟨hl, oL, oD, oP, hT⟩ := HE.out
 have far : ∀ {v : Value} {e sz n : Nat} {xs : List Value}, w.ownsRow w0.heap.size e sz v n xs → e ≠ 27 → W5.ownsRow w0.heap.size e sz v n xs := fun ho hne => own_turn ho t5 (fun g hg e => by
  obtain ⟨-, cs, hcs⟩ := own_block ho hg
  have e' : g = b4 := e
  exact blk_ne hcs H4.out hne e')
 exact ⟨t, lks, _, dv, pv, rfl, hl, far oL (by decide), far oD (by decide), far oP (by decide), ⟨t5.os.trans hT.os, t5.tape.trans hT.tape, t5.output.trans hT.output, Nat.le_trans hT.size t5.size, fun b hb hn => (t5.block b (by have := hT.size; omega) (fun e => by have e' : b = b4 := e; omega)).trans (hT.block b hb hn)⟩⟩
end
end Go.Proofs.Ytiodmkokpfgkkaa
