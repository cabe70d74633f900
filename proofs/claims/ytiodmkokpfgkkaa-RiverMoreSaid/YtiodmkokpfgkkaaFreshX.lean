/- The walk of Fresh, for a river that is refused, or whose looks clash. No condition. A state's round of Fresh: of all that can follow a state, those with which the fresh comes tell the day. Condition: numbers are small. The inner loop of Fresh, in a round: of all states of a day those are gone through with which the fresh comes. Condition: numbers are small. The days' loop of Fresh, in a fall's round. Condition: the river is valid. The table rule for a region that draws its order, in a round. Conditions: the closed check 'tabOk' on the region, and no defer. The walk of Fresh, for every river and fresh. No condition. -/
import Derived.Test.YtiodmkokpfgkkaaSortA
import Derived.Test.YtiodmkokpfgkkaaFallA
import Derived.Laws.EntriesVeiled
import Derived.Test.YtiodmkokpfgkkaaPlainA
import Derived.Test.YtiodmkokpfgkkaaHavTab
import Derived.Test.YtiodmkokpfgkkaaHavY
namespace Go.Proofs.Ytiodmkokpfgkkaa
open Go.RowKit Go.Hav Go.Shelf Go.Sq
attribute [local go_sem] Oper.semAt_some
section
variable {fa la : Option Addr} {fl fc ll lc : Nat} {r : IRiv} {w : World}
set_option maxRecDepth 100000 in
set_option maxHeartbeats 1600000 in
theorem PFresh_err (fresh : Int) (hP : RvIn w w.heap.size fa fl la ll r) (h : okR r = false ∨ isFrB r fresh = false) :
  Calls Try.prog 18 #[(.agg #[.int .i64 r.depth.lo, .int .i64 r.depth.hi, .int .i64 r.fall.lo, .int .i64 r.fall.hi, .int .i64 r.days, .slice fa fl fc, .slice la ll lc]), .int .i64 fresh] w fun e w' => e = .returned (.tuple #[.int .i64 (freshV r fresh), .int .i64 (freshE r fresh)]) ∧ Below w.heap.size w w' := by
 obtain ⟨EE, hEE⟩ : ∃ EE : Int, EE = (freshE r fresh : Int) := ⟨_, rfl⟩
 have hE2 : freshE r fresh = if okR r = false then 1 else 2 := toldE_bad h
 have HR : Hid (Value.tuple #[.int .i64 (freshV r fresh), .int .i64 (freshE r fresh)] = .tuple #[.int .i64 0, .int .i64 EE]) := by
  show _ = _
  rw [hEE]
  unfold freshV
  rw [if_neg (by rw [hE2]; split <;> omega)]
  rfl
 have HEE : Hid (((if okR r = false then 1 else 2 : Int)) = EE) := by show _ = _; rw [hEE, hE2]; split <;> rfl
 have HP := Lib.hid hP
 have HH := Lib.hid h
 have HFL : Hid (r.fr.length = fl) := hP.efl
 have EG := Lib.hid (enters_of Try.func61 (by kernel_rfl) rfl)
 have EG60 := Lib.hid (enters_of Try.func60 (by kernel_rfl) rfl)
 clear hP h hEE hE2
 refine (callsIn_wide (n := 6)).1 (callsIn_of_wp_marks Try.func18 rfl trivial ?_ rfl)
 simp only [Try.ntmps18, List.size_toArray, List.length_cons, List.length_nil, Nat.reduceAdd, Nat.reduceSub, Array.replicate_succ, Array.replicate_zero, List.push_toArray, List.append_toArray, List.nil_append, List.cons_append]
 refine wpIn_wide.2 ?_
 have hmf : ∀ (fn : Fn) (first cap : Array Value) (w : World), (Instr.makeFunc fn first cap).run Try.prog w = .ok (.func fn first cap) w := fun _ _ _ _ => rfl
 go_upto_region 2 with (fail)
 obtain ⟨W, hW⟩ : ∃ W, W = ((w.alloc (.cells #[.int .i64 r.depth.lo, .int .i64 r.depth.hi, .int .i64 r.fall.lo, .int .i64 r.fall.hi, .int .i64 r.days, .slice fa fl fc, .slice la ll lc] 27)).alloc (.cells #[.int .i64 fresh] 3)).alloc (.cells #[.int .i64 0] 30) := ⟨_, rfl⟩
 obtain ⟨B2, hB2⟩ : ∃ B2, B2 = w.heap.size := ⟨_, rfl⟩
 obtain ⟨B3, hB3⟩ : ∃ B3, B3 = w.heap.size + 1 := ⟨_, rfl⟩
 obtain ⟨B5, hB5⟩ : ∃ B5, B5 = w.heap.size + 1 + 1 := ⟨_, rfl⟩
 have HB0 : Hid (Below w.heap.size w W) := by rw [hW]; exact (((Below.refl _ _).alloc (Nat.le_refl _) _).alloc (by simp) _).alloc (by simp; omega) _
 have HXB : Hid (Blk W B2 27 #[.int .i64 r.depth.lo, .int .i64 r.depth.hi, .int .i64 r.fall.lo, .int .i64 r.fall.hi, .int .i64 r.days, .slice fa fl fc, .slice la ll lc]) := by rw [hW, hB2]; exact ((Blk.new w 27 _).alloc _).alloc _
 have HX3 : Hid (Blk W B3 3 #[.int .i64 fresh]) := by rw [hW, hB3]; exact (Blk.new_ (by simp) 3 _).alloc _
 have HX5 : Hid (Blk W B5 30 #[.int .i64 0]) := by rw [hW, hB5]; exact Blk.new_ (by simp) 30 _
 have HE : Hid (w.heap.size ≤ B5 ∧ w.heap.size ≤ W.heap.size ∧ B5 < W.heap.size ∧ B3 < W.heap.size ∧ w.heap.size ≤ B3) := ⟨by omega, HB0.out.size, HX5.out.lt, HX3.out.lt, by omega⟩
 rw [← hW, ← hB5, ← hB3, ← hB2]
 clear hW hB2 hB3 hB5
 have q0 := HXB.out.cell 0
 have q1 := HXB.out.cell 1
 have q2 := HXB.out.cell 2
 have q3 := HXB.out.cell 3
 have q4 := HXB.out.cell 4
 have q5 := HXB.out.cell 5
 have q6 := HXB.out.cell 6
 have ql := HXB.out.lt
 simp at q0 q1 q2 q3 q4 q5 q6
 go_wp2_with fail
 refine (open_err 61 #[.pointer (some ⟨B3, 0, none⟩)] EG.out (HP.out.grow HB0.out) (fun hv => isG_fresh hv HFL.out B3 fresh HX3.out) HH.out).mono ?_
 rintro e w' ⟨h1, hb⟩
 rw [HEE.out] at h1
 subst h1
 clear q0 q1 q2 q3 q4 q5 q6 ql
 obtain ⟨e1, e2, _⟩ := HE.out
 refine api_panic (ds := []) (B := W.heap.size) isAns60 EG60.out (Marks.nil _ _) (HX5.out.below hb HX5.out.lt) (fun w2 hk2 hfar hbel => ?_)
 have g0 := hk2.cell 0
 simp at g0
 refine ⟨.tuple #[.int .i64 0, .int .i64 EE], by simp [results, Try.results18, go_sem, g0], by rw [HR.out], ?_⟩
 exact HB0.out.trans ((hb.mono e2).trans ((hbel w.heap.size e2 e1).mono (Nat.le_refl _)))
set_option maxRecDepth 100000 in
set_option maxHeartbeats 1600000 in
theorem PFresh_clash (fresh : Int) (hP : RvIn w w.heap.size fa fl la ll r) (hv : okR r = true) (hi : isFrB r fresh = true) (ht : truthsA r.nat = []) :
  Calls Try.prog 18 #[(.agg #[.int .i64 r.depth.lo, .int .i64 r.depth.hi, .int .i64 r.fall.lo, .int .i64 r.fall.hi, .int .i64 r.days, .slice fa fl fc, .slice la ll lc]), .int .i64 fresh] w fun e w' => e = .returned (.tuple #[.int .i64 (freshV r fresh), .int .i64 (freshE r fresh)]) ∧ Below w.heap.size w w' := by
 have hE2 : freshE r fresh = 10 := toldE_clash hv hi ht
 have HR : Hid (Value.tuple #[.int .i64 (freshV r fresh), .int .i64 (freshE r fresh)] = .tuple #[.int .i64 0, .int .i64 10]) := by
  show _ = _
  unfold freshV
  rw [if_neg (by rw [hE2]; omega), hE2]
  rfl
 have HP := Lib.hid hP
 have HV := Lib.hid hv
 have HI := Lib.hid hi
 have HFL : Hid (r.fr.length = fl) := hP.efl
 have HC : Hid (canB r.nat (full r.nat.lk.length) = false) := by show _ = _; rw [can_of hv, ht]; rfl
 have EG := Lib.hid (enters_of Try.func61 (by kernel_rfl) rfl)
 have EG60 := Lib.hid (enters_of Try.func60 (by kernel_rfl) rfl)
 clear hP hv hi ht hE2
 refine (callsIn_wide (n := 6)).1 (callsIn_of_wp_marks Try.func18 rfl trivial ?_ rfl)
 simp only [Try.ntmps18, List.size_toArray, List.length_cons, List.length_nil, Nat.reduceAdd, Nat.reduceSub, Array.replicate_succ, Array.replicate_zero, List.push_toArray, List.append_toArray, List.nil_append, List.cons_append]
 refine wpIn_wide.2 ?_
 have hmf : ∀ (fn : Fn) (first cap : Array Value) (w : World), (Instr.makeFunc fn first cap).run Try.prog w = .ok (.func fn first cap) w := fun _ _ _ _ => rfl
 go_upto_region 2 with (fail)
 obtain ⟨W, hW⟩ : ∃ W, W = ((w.alloc (.cells #[.int .i64 r.depth.lo, .int .i64 r.depth.hi, .int .i64 r.fall.lo, .int .i64 r.fall.hi, .int .i64 r.days, .slice fa fl fc, .slice la ll lc] 27)).alloc (.cells #[.int .i64 fresh] 3)).alloc (.cells #[.int .i64 0] 30) := ⟨_, rfl⟩
 obtain ⟨B2, hB2⟩ : ∃ B2, B2 = w.heap.size := ⟨_, rfl⟩
 obtain ⟨B3, hB3⟩ : ∃ B3, B3 = w.heap.size + 1 := ⟨_, rfl⟩
 obtain ⟨B5, hB5⟩ : ∃ B5, B5 = w.heap.size + 1 + 1 := ⟨_, rfl⟩
 have HB0 : Hid (Below w.heap.size w W) := by rw [hW]; exact (((Below.refl _ _).alloc (Nat.le_refl _) _).alloc (by simp) _).alloc (by simp; omega) _
 have HXB : Hid (Blk W B2 27 #[.int .i64 r.depth.lo, .int .i64 r.depth.hi, .int .i64 r.fall.lo, .int .i64 r.fall.hi, .int .i64 r.days, .slice fa fl fc, .slice la ll lc]) := by rw [hW, hB2]; exact ((Blk.new w 27 _).alloc _).alloc _
 have HX3 : Hid (Blk W B3 3 #[.int .i64 fresh]) := by rw [hW, hB3]; exact (Blk.new_ (by simp) 3 _).alloc _
 have HX5 : Hid (Blk W B5 30 #[.int .i64 0]) := by rw [hW, hB5]; exact Blk.new_ (by simp) 30 _
 have HE : Hid (w.heap.size ≤ B5 ∧ w.heap.size ≤ W.heap.size ∧ B5 < W.heap.size ∧ B3 < W.heap.size ∧ w.heap.size ≤ B3) := ⟨by omega, HB0.out.size, HX5.out.lt, HX3.out.lt, by omega⟩
 rw [← hW, ← hB5, ← hB3, ← hB2]
 clear hW hB2 hB3 hB5
 have q0 := HXB.out.cell 0
 have q1 := HXB.out.cell 1
 have q2 := HXB.out.cell 2
 have q3 := HXB.out.cell 3
 have q4 := HXB.out.cell 4
 have q5 := HXB.out.cell 5
 have q6 := HXB.out.cell 6
 have ql := HXB.out.lt
 simp at q0 q1 q2 q3 q4 q5 q6
 go_wp2_with fail
 refine (open_ok 61 #[.pointer (some ⟨B3, 0, none⟩)] EG.out (HP.out.grow HB0.out) (fun hv => by have := isG_fresh (fa := fa) (fl := fl) (fc := fc) (la := la) (ll := ll) (lc := lc) hv HFL.out B3 fresh HX3.out; rwa [HI.out] at this) HV.out).mono ?_
 rintro e w1 ⟨d, k, rfl, hD, hK, hb0⟩
 have HB1 : Hid (Below W.heap.size W w1) := hb0
 have HD1 := Lib.hid hD
 have HK1 := Lib.hid hK
 clear hD hK hb0 q0 q1 q2 q3 q4 q5 q6 ql
 go_wp2_with fail
 refine (told_no (good_of HV.out) HC.out w1 HD1.out HK1.out).mono ?_
 rintro e w' ⟨rfl, -, hg⟩
 have hkW : W.heap.size ≤ k := HD1.out.hk
 have hb : Below W.heap.size W w' := HB1.out.trans ((Turn.of_grownK hg).below HB1.out.size (fun b e => by have e' : b = k := e; rw [e']; exact hkW))
 obtain ⟨e1, e2, _⟩ := HE.out
 refine api_panic (ds := []) (B := W.heap.size) isAns60 EG60.out (Marks.nil _ _) (HX5.out.below hb HX5.out.lt) (fun w2 hk2 hfar hbel => ?_)
 have g0 := hk2.cell 0
 simp at g0
 refine ⟨.tuple #[.int .i64 0, .int .i64 10], by simp [results, Try.results18, go_sem, g0], by rw [HR.out], ?_⟩
 exact HB0.out.trans ((hb.mono e2).trans ((hbel w.heap.size e2 e1).mono (Nat.le_refl _)))
end
end Go.Proofs.Ytiodmkokpfgkkaa
namespace Go.Proofs.Ytiodmkokpfgkkaa
open Go.RowKit Go.Hav Go.Shelf Go.Sq
attribute [local go_sem] Oper.semAt_some
noncomputable def fshB : Code := rfBody (innerC (tailSeq (headSeq (dropSeq 4 (Try.f18.body.getD .skip)))))
noncomputable def fshL : Code := tailSeq (tailSeq (innerC fshB))
noncomputable def fshY : Code := innerC (innerC fshL)
noncomputable def fshR : Code := tailSeq (innerC (headSeq (tailSeq fshY)))
noncomputable def fshS : Code := innerC (tailSeq (tailSeq (innerC (innerC fshR))))
/-- What Fresh reads in a fall's round. -/
structure FrR (W : World) (B3 B6 B7 B10 d i : Nat) (ms : Nat → Option Nat) : Prop where
 f : Blk W B3 3 #[.int .i64 i]
 g : Blk W B6 70 #[.pointer (some ⟨d, 0, none⟩)]
 h : Blk W B7 88 #[.func (.func 63) #[] #[]]
 a : Blk W B10 93 (runC ms)
theorem FrR.turn {S : Nat → Prop} {X Y : World} {B3 B6 B7 B10 d i : Nat} {ms : Nat → Option Nat} (h : FrR X B3 B6 B7 B10 d i ms) (t : Turn S X Y) (h3 : ¬ S B3) (h6 : ¬ S B6) (h7 : ¬ S B7) (h10 : ¬ S B10) : FrR Y B3 B6 B7 B10 d i ms :=
 ⟨h.f.turn t h3, h.g.turn t h6, h.h.turn t h7, h.a.turn t h10⟩
/-- A set has got a number, if something is so. -/
def BitsUp (v v' D : Nat) (p : Prop) : Prop := v' < 2048 ∧ ∀ E, v'.testBit E = true ↔ v.testBit E = true ∨ (E = D ∧ p)
theorem BitsUp.no {v D : Nat} {p : Prop} (hv : v < 2048) (h : ¬ p) : BitsUp v v D p := ⟨hv, fun _ => ⟨.inl, fun h' => h'.elim id (fun q => absurd q.2 h)⟩⟩
theorem BitsUp.or {u v D : Nat} {p : Prop} (h : BitsUp u v D p) {q : Prop} (hq : q) (hD : D ≤ 10) : BitsUp u (v ||| 2 ^ D) D q := by
 refine ⟨Nat.or_lt_two_pow (n := 11) h.1 (Nat.pow_lt_pow_right (by omega) (by omega)), fun E => ?_⟩
 rw [bit_or_pow, Bool.or_eq_true, h.2 E, decide_eq_true_eq]
 constructor
 ·rintro ((h1 | ⟨h1, _⟩) | h1)
  ·exact .inl h1
  ·exact .inr ⟨h1, hq⟩
  ·exact .inr ⟨h1.symm, hq⟩
 ·rintro (h1 | ⟨h1, _⟩)
  ·exact .inl (.inl h1)
  ·exact .inr h1.symm
theorem BitsUp.iff {u v D : Nat} {p q : Prop} (h : BitsUp u v D p) (e : p ↔ q) : BitsUp u v D q := ⟨h.1, fun E => by rw [h.2 E, e]⟩
theorem or_day (v day : Nat) (hv : v < 2048) (hd : day ≤ 10) : bits BinOp.or IntKind.i64 (v : Int) (2 ^ day) = ((v ||| 2 ^ day : Nat) : Int) := by
 have h : (2 : Nat) ^ day < 2 ^ 11 := Nat.pow_lt_pow_right (by omega) (by omega)
 have h2 : ((2 : Int) ^ day) = ((2 ^ day : Nat) : Int) := by push_cast; rfl
 rw [h2]
 exact or_i64 v (2 ^ day) (by omega) (by omega)
theorem wrap_day (day : Nat) (hd : day ≤ 10) : IntKind.i64.wrap ((2 : Int) ^ day) = 2 ^ day := by
 have h : (2 : Nat) ^ day < 2 ^ 11 := Nat.pow_lt_pow_right (by omega) (by omega)
 have h2 : ((2 : Int) ^ day) = ((2 ^ day : Nat) : Int) := by push_cast; rfl
 rw [h2]
 generalize (2 : Nat) ^ day = q at h
 exact IntWalk.i64_in _ (by omega)
/-- With a step the fresh comes. -/
def ComesX (i : Nat) (s x : St) (N : List St) : Prop := x ∈ N ∧ s.2.testBit i = false ∧ x.2.testBit i = true
section
variable {B d k : Nat} {fa la : Option Addr} {fl fc ll lc : Nat} {r : Riv}
/-- What a state's round leaves. -/
def FrPost (r : Riv) (by_ day i : Nat) (s : St) (N : List St) (B8 v : Nat) (W w' : World) : Prop :=
 Turn (fun x => x = B8) W w' ∧ ∃ v', Blk w' B8 3 #[.int .i64 (v' : Nat)] ∧ BitsUp v v' day (∃ x, x ∈ next r by_ day s ∧ ComesX i s x N)
set_option maxRecDepth 100000 in
set_option maxHeartbeats 1600000 in
theorem fshS_any (hv : r.Good) {W : World} {B3 B6 B7 B8 B10 Bd by_ day i v lx rg bn : Nat} {ms : Nat → Option Nat} {s : St} {N : List St} (hD : GauIn W B d k fa fl fc la ll lc r) (hR : FrR W B3 B6 B7 B10 d i ms) (hset : Blk W B8 3 #[.int .i64 v]) (hday : Blk W Bd 3 #[.int .i64 day])
  (hne : B8 ≠ B3 ∧ B8 ≠ B6 ∧ B8 ≠ B7 ∧ B8 ≠ B10 ∧ B8 ≠ Bd) (hms : ms day = some bn) (hN : MapS W bn N)
  (hen : (Instr.entry (.pointer (some ⟨rg, 0, none⟩))).run Try.prog W = .ok (.tuple #[stV s, .bool true]) W) (hl0 : ∃ r0, W.heap[lx]? = some (.loop r0))
  (h1 : by_ < 1000) (h3 : day ≤ 10) (hs : s.1 ≤ 1000 ∧ s.2 < 8) (hi : i < 3) (hvv : v < 2048)
  {Q : Exit → Act → World → Prop} {c0 c1 c2 c4 c5 c12 c13 c14 c15 c16 c17 c18 c19 c20 c21 c22 c23 c24 c25 c26 c27 c28 c29 c30 c31 c32 c33 c34 c35 c36 c37 c38 c39 c40 c41 c42 c44 c45 c46 c47 c48 c49 c50 c51 c52 c53 c54 c55 c56 c57 c58 c59 c60 c61 c62 c63 c64 c65 c66 c67 c68 c69 c70 c71 c72 c73 c74 c75 c76 c77 : Value}
  (HQ : Hid (∀ (u12 u13 u46 u47 u48 u49 u50 u51 u52 u53 u54 u55 u56 u57 u58 u59 u60 u61 u62 u63 u64 u65 u66 u67 u68 u69 u70 u71 u72 u73 u74 u75 : Value) (w' : World), FrPost r by_ day i s N B8 v W w' → Q .normal ⟨(c0::c1::c2::(.pointer (some ⟨B3, 0, none⟩))::c4::c5::(.pointer (some ⟨B6, 0, none⟩))::(.pointer (some ⟨B7, 0, none⟩))::(.pointer (some ⟨B8, 0, none⟩))::(.int .i64 by_)::(.pointer (some ⟨B10, 0, none⟩))::(.pointer (some ⟨Bd, 0, none⟩))::u12::u13::c14::c15::c16::c17::c18::c19::c20::c21::c22::c23::c24::c25::c26::c27::c28::c29::c30::c31::c32::c33::c34::c35::c36::c37::c38::c39::c40::c41::c42::(.pointer (some ⟨rg, 0, none⟩))::c44::c45::u46::u47::u48::u49::u50::u51::u52::u53::u54::u55::u56::u57::u58::u59::u60::u61::u62::u63::u64::u65::u66::u67::u68::u69::u70::u71::u72::u73::u74::u75::c76::c77::[]).toArray, []⟩ w')) :
  Code.wpIn (Fence.wide.inRound lx) 0 Try.prog fshS Q ⟨(c0::c1::c2::(.pointer (some ⟨B3, 0, none⟩))::c4::c5::(.pointer (some ⟨B6, 0, none⟩))::(.pointer (some ⟨B7, 0, none⟩))::(.pointer (some ⟨B8, 0, none⟩))::(.int .i64 by_)::(.pointer (some ⟨B10, 0, none⟩))::(.pointer (some ⟨Bd, 0, none⟩))::c12::c13::c14::c15::c16::c17::c18::c19::c20::c21::c22::c23::c24::c25::c26::c27::c28::c29::c30::c31::c32::c33::c34::c35::c36::c37::c38::c39::c40::c41::c42::(.pointer (some ⟨rg, 0, none⟩))::c44::c45::c46::c47::c48::c49::c50::c51::c52::c53::c54::c55::c56::c57::c58::c59::c60::c61::c62::c63::c64::c65::c66::c67::c68::c69::c70::c71::c72::c73::c74::c75::c76::c77::[]).toArray, []⟩ W := by
 conv => arg 4; whnf
 obtain ⟨r0, hl0⟩ := hl0
 have HL0 := Lib.hid hl0
 have HD := Lib.hid hD
 have HV := Lib.hid hv
 have HR := Lib.hid hR
 have HN := Lib.hid hN
 have HMS := Lib.hid hms
 have HDY := Lib.hid hday
 have HST := Lib.hid hset
 have HNE := Lib.hid hne
 obtain ⟨x, c⟩ := s
 have u6 : W.cell? ⟨B6, 0, none⟩ = some (.pointer (some ⟨d, 0, none⟩)) := hR.g.cell 0
 have u4 : W.cell? ⟨Bd, 0, none⟩ = some (.int .i64 day) := hday.cell 0
 have m2 := hR.g.lt
 have m4 := hday.lt
 have HS := Lib.hid hs
 have H3 := Lib.hid h3
 have HI := Lib.hid hi
 have HVV := Lib.hid hvv
 dsimp only [stV, stC] at hen
 clear hD hv hR hN hms hday hs h3 hset hne hl0 hi hvv
 gi_wp2_with fail
 obtain ⟨w1, hw1⟩ : ∃ w1, w1 = W.alloc (.cells #[.int .i64 x, .int .u64 c] 90) := ⟨_, rfl⟩
 have HB1 : Hid (Below W.heap.size W w1) := by rw [hw1]; exact (Below.refl _ _).alloc (Nat.le_refl _) _
 have HX0 : Hid (Blk w1 W.heap.size 90 #[.int .i64 x, .int .u64 c]) := by rw [hw1]; exact Blk.new _ _ _
 have hs1 : w1.heap.size = W.heap.size + 1 := by rw [hw1]; simp
 rw [← hw1]
 clear hw1
 have hnx := next_any HV.out (x, c) by_ day w1 (HD.out.grow HB1.out)
 dsimp only [stV, stC] at hnx
 refine ⟨trivial, rfl, (CallsIn.inRound lx (callsIn_wide.2 hnx)).mono ?_⟩
 rintro e w2 ⟨bc, g, cp, rfl, hb2, hbc, k1, k2, k3, k4, hg, hgl⟩
 have HB2 : Hid (Below W.heap.size W w2) := HB1.out.trans (hb2.mono HB1.out.size)
 have HX2 : Hid (Blk w2 W.heap.size 90 #[.int .i64 x, .int .u64 c]) := HX0.out.below hb2 HX0.out.lt
 have HK1 := Lib.hid k1
 have HK2 := Lib.hid k2
 have HK3 := Lib.hid k3
 have HG := Lib.hid k4
 have hl1 := k1.lt
 have hl2 := k2.lt
 have HS1 := Lib.hid hs1
 have hsz2 := hb2.size
 clear hnx hb2 k1 k2 k3 k4 u6 u4 hen hs1
 gi_wp2_with fail
 obtain ⟨O, hO⟩ : ∃ O, O = next r by_ day (x, c) := ⟨_, rfl⟩
 have hseq := next_seq (fl := fl) HV.out HD.out.efl h1 (day := day) (x, c) (show Sm 0 (x, c) from ⟨by have := HS.out.1; simp only at this ⊢; omega, HS.out.2⟩) bc (w1.heap.size + 1) w1.heap.size g cp
 rw [← hO] at hseq
 have hO3 : ∀ y, y ∈ O → Tiny y := by
  intro y hy
  rw [hO] at hy
  obtain ⟨q1, q2⟩ := next_le HV.out HS.out.2 hy
  exact ⟨by have := HS.out.1; simp only at q1 this; omega, q2⟩
 have HT3 := Lib.hid hO3
 have HSEQ := Lib.hid hseq
 have HOE := Lib.hid hO
 have heg : ∀ args w, (callFunc 105 args).run Try.prog w = .ok (.enter 105 args) w := enters_of Try.func105 (by kernel_rfl) rfl
 have HEG := Lib.hid heg
 have h8w : B8 < W.heap.size := HST.out.lt
 have HST2 : Hid (Blk w2 B8 3 #[.int .i64 v]) := HST.out.below HB2.out h8w
 have h8w2 : B8 < w2.heap.size := HST2.out.lt
 have hbc1 : W.heap.size ≤ bc := by have := HS1.out; omega
 have hg1 : W.heap.size ≤ g := by have := HS1.out; omega
 have hw1 : W.heap.size ≤ w1.heap.size := HB1.out.size
 have HL2 : Hid (w2.heap[lx]? = some (.loop r0)) := (HB2.out.block lx (Array.getElem?_eq_some_iff.1 HL0.out).1).trans HL0.out
 clear hO hseq hO3 heg
 refine (wpIn_rangeL_in_slots HL2.out rfl HEG.out HSEQ.out keepsRec_none (fun x hx => by obtain ⟨y, _, rfl⟩ := List.mem_map.1 hx; rfl) (fun x => x = B8) (fun x e => by omega)
  (fun rec => ⟨⟨HK1.out.alloc _, fun e => by rcases e with e | e <;> (have e' : _ = _ := e; omega)⟩, ⟨HK2.out.alloc _, fun e => by rcases e with e | e <;> (have e' : _ = _ := e; omega)⟩, HK3.out.alloc _, HG.out.turn (S := fun _ => False) ((Turn.refl _ _).alloc _) hgl id, by simp; omega, fun e => by rcases e with e | e <;> (have e' : _ = _ := e; omega)⟩)
  (fun n Xw => Turn (fun x => x = B8) w2 Xw ∧ ∃ v', Blk Xw B8 3 #[.int .i64 (v' : Nat)] ∧ BitsUp v v' day (∃ j y, j < n ∧ O[j]? = some y ∧ ComesX i (x, c) y N)) (fun _ _ => False)
  (fun n => (OwnT.turn TyB (Nat.le_refl _) (fun _ _ _ h => h.elim)).and (OwnT.ex fun v' => (own_lt h8w2).and (OwnT.pure _ _ _ _))) (fun cd => OwnT.pure _ _ _ False)
  ⟨Turn.refl _ _, v, HST2.out, BitsUp.no HVV.out (fun ⟨j, _, h, _⟩ => by omega)⟩
  (fun n (Bx : Nat) T => (T.setIfInBounds 53 (stV (O[n]?.getD (0, 0)))).setIfInBounds 13 (.pointer (some ⟨Bx, 0, none⟩))) (fun n Bx Xw => w2.heap.size ≤ Bx ∧ Blk Xw Bx 90 (stC (O[n]?.getD (0, 0)))) (fun _ Bx => (OwnT.pure _ _ _ _).and (OwnT.blk _ (by decide) (fun _ _ h => h.elim)))
  ?assign ?body ?done ?stop)
 case assign =>
  rintro l n xx Xw K ⟨hT, hS'⟩ hx hK
  rw [List.getElem?_map] at hx
  obtain ⟨⟨x2, c2⟩, hy⟩ : ∃ y, O[n]? = some y := by
   cases h : O[n]? with
   | none => rw [h] at hx; cases hx
   | some y => exact ⟨y, rfl⟩
  rw [hy] at hx hK
  obtain rfl : encS (x2, c2) = xx := Option.some.inj hx
  simp only [Option.getD_some] at hK
  simp only [List.setIfInBounds_toArray, List.set_cons_succ, List.set_cons_zero] at hK
  dsimp only [encS]
  simp only [stV, stC] at hK ⊢
  have HK := Lib.hid hK
  clear hK hx
  gi_wp2
  exact HK.out Xw.heap.size _ ((Turn.refl _ Xw).alloc _) ⟨hT.alloc _, by obtain ⟨v', q1, q2⟩ := hS'; exact ⟨v', q1.alloc _, q2⟩⟩ ⟨hT.size, Blk.new _ _ _⟩
 case body =>
  rintro l n xx Bx Xw hl ⟨r1, hr⟩ ⟨hT, v', hv', hI⟩ ⟨hBx, hX⟩ hx
  rw [List.getElem?_map] at hx
  obtain ⟨⟨x2, c2⟩, hy⟩ : ∃ y, O[n]? = some y := by
   cases h : O[n]? with
   | none => rw [h] at hx; cases hx
   | some y => exact ⟨y, rfl⟩
  have HW := Lib.hid hT
  have HVX := Lib.hid hv'
  have HIN := Lib.hid hI
  have HTY := Lib.hid (HT3.out _ (List.mem_of_getElem? hy))
  have HY := Lib.hid hy
  have hszX := hT.size
  rw [hy] at hX ⊢
  simp only [Option.getD_some] at hX ⊢
  simp only [List.setIfInBounds_toArray, List.set_cons_succ, List.set_cons_zero]
  simp only [stV, stC]
  have HTW : Hid (Turn (fun x => x = B8) W Xw) := (Turn.of_below HB2.out).trans hT
  have HXX := Lib.hid hX
  obtain ⟨z3, z6, z7, z10, zd⟩ := HNE.out
  have HRX : Hid (FrR Xw B3 B6 B7 B10 d i ms) := HR.out.turn HTW.out (fun e => z3 (show B3 = B8 from e).symm) (fun e => z6 (show B6 = B8 from e).symm) (fun e => z7 (show B7 = B8 from e).symm) (fun e => z10 (show B10 = B8 from e).symm)
  have HGD : Hid (Blk Xw Bd 3 #[.int .i64 day]) := HDY.out.turn HTW.out (fun e => zd (show Bd = B8 from e).symm)
  have HGX : Hid (Blk Xw W.heap.size 90 #[.int .i64 x, .int .u64 c]) := HX2.out.turn hT (fun e => by have e' : _ = _ := e; omega)
  have HNX : Hid (MapS Xw bn N) := HN.out.turn HTW.out (fun e => HN.out.ne_blk HST.out e)
  have n4 : Xw.cell? ⟨Bd, 0, none⟩ = some (.int .i64 day) := HGD.out.cell 0
  have n5 : Xw.cell? ⟨Bx, 0, none⟩ = some (.int .i64 x2) := hX.cell 0
  have n6 : Xw.cell? ⟨Bx, 1, none⟩ = some (.int .u64 c2) := hX.cell 1
  have n7 : Xw.cell? ⟨B10, day, none⟩ = some (.map (some bn)) := by rw [← HMS.out]; exact (HRX.out.a.cell day).trans (runC_get ms (by have := H3.out; omega))
  have n8 : Xw.cell? ⟨W.heap.size, 0, none⟩ = some (.int .i64 x) := HGX.out.cell 0
  have n9 : Xw.cell? ⟨W.heap.size, 1, none⟩ = some (.int .u64 c) := HGX.out.cell 1
  have n10 : Xw.cell? ⟨B7, 0, none⟩ = some (.func (.func 63) #[] #[]) := HRX.out.h.cell 0
  have n11 : Xw.cell? ⟨B3, 0, none⟩ = some (.int .i64 i) := HRX.out.f.cell 0
  have l4 := HGD.out.lt
  have l5 := hX.lt
  have l7 := HRX.out.a.lt
  have l8 := HGX.out.lt
  have l10 := HRX.out.h.lt
  have l11 := HRX.out.f.lt
  have ln := HNX.out.lt
  have hd11 : (day : Int) < 11 := by have := H3.out; omega
  obtain ⟨z, hz⟩ : ∃ z, decide ((x2, c2) ∈ N) = z := ⟨_, rfl⟩
  obtain ⟨p, hp⟩ : ∃ p, c.testBit i = p := ⟨_, rfl⟩
  obtain ⟨q, hq⟩ : ∃ q, c2.testBit i = q := ⟨_, rfl⟩
  have HLK : Hid (∀ wv, Below Xw.heap.size Xw wv → (Instr.lookup 91 (.map (some bn)) (.agg #[.int .i64 x2, .int .u64 c2]) false).run Try.prog wv = .ok (.bool z) wv) := fun wv hb => by rw [← hz]; exact (HNX.out.keep (hb.block bn ln)).look (x2, c2) HTY.out
  have HC1 : Hid (∀ wv, Calls Try.prog 63 #[.agg #[.int .i64 x, .int .u64 c], .int .i64 i] wv fun e w' => e = .returned (.bool p) ∧ Below wv.heap.size wv w') := fun wv => by rw [← hp]; exact has_any (x, c) i (by have := HS.out.2; simp only at this ⊢; omega) (by have := HI.out; omega) wv
  have HC2 : Hid (∀ wv, Calls Try.prog 63 #[.agg #[.int .i64 x2, .int .u64 c2], .int .i64 i] wv fun e w' => e = .returned (.bool q) ∧ Below wv.heap.size wv w') := fun wv => by rw [← hq]; exact has_any (x2, c2) i (by have := HTY.out.2; simp only at this ⊢; omega) (by have := HI.out; omega) wv
  have HCOM : Hid (ComesX i (x, c) (x2, c2) N ↔ (z = true ∧ p = false ∧ q = true)) := by
   show _ ↔ _
   unfold ComesX
   rw [← hz, ← hp, ← hq, decide_eq_true_eq]
  have HNO : Hid (¬ (z = true ∧ p = false ∧ q = true) → BitsUp v v' day (∃ j y, j < n + 1 ∧ O[j]? = some y ∧ ComesX i (x, c) y N)) := fun hno => by
   refine HIN.out.iff ⟨fun ⟨j, y, q1, q2, q3⟩ => ⟨j, y, by omega, q2, q3⟩, fun ⟨j, y, q1, q2, q3⟩ => ⟨j, y, ?_, q2, q3⟩⟩
   by_cases ej : j = n
   ·subst ej
    rw [HY.out] at q2
    cases q2
    exact absurd (HCOM.out.1 q3) hno
   ·omega
  have HYS : Hid (z = true ∧ p = false ∧ q = true → ∃ j y, j < n + 1 ∧ O[j]? = some y ∧ ComesX i (x, c) y N) := fun h => ⟨n, (x2, c2), by omega, HY.out, HCOM.out.2 h⟩
  clear hT hv' hI hX hx hr hy hz hp hq
  cases z
  ·have HB3 : Hid (BitsUp v v' day (∃ j y, j < n + 1 ∧ O[j]? = some y ∧ ComesX i (x, c) y N)) := HNO.out (fun h => by cases h.1)
   gi_wp2
   refine HavG.wpIn_region_tail (R := RelB) [(0,false),(1,false),(2,false),(3,false),(4,false),(5,false),(6,false),(7,false),(8,false),(9,false),(10,false),(11,false),(12,false),(13,false),(14,false),(15,false),(16,false),(17,false)] [] (fun _ _ => False) (by kernel_rfl) (by kernel_rfl) (by kernel_rfl) (fun _ _ _ _ h => h.elim) ?_
   (apply HavG.hav_same (by simp only [List.getElem?_toArray, List.getElem?_cons_zero]; rfl) (by kernel_rfl); (focus (intro wv hgv _; have hcv : ∀ b o, b < _ → wv.cell? ⟨b, o, none⟩ = _ := fun b o hb => Below.cell hgv (p := ⟨b, o, none⟩) hb; (try go_simp); try rfl; done)); simp only [Act.put, List.setIfInBounds_toArray, List.set_cons_succ, List.set_cons_zero])
   iterate 3 (apply HavG.hav_same (by simp only [List.getElem?_toArray, List.getElem?_cons_succ, List.getElem?_cons_zero]; rfl) (by kernel_rfl); (focus (intro wv hgv _; have hcv : ∀ b o, b < _ → wv.cell? ⟨b, o, none⟩ = _ := fun b o hb => Below.cell hgv (p := ⟨b, o, none⟩) hb; (try go_simp); try rfl; done)); simp only [Act.put, List.setIfInBounds_toArray, List.set_cons_succ, List.set_cons_zero])
   (apply HavG.hav_same (by simp only [List.getElem?_toArray, List.getElem?_cons_succ, List.getElem?_cons_zero]; rfl) (by kernel_rfl); (focus (intro wv hgv _; have hcv : ∀ b o, b < _ → wv.cell? ⟨b, o, none⟩ = _ := fun b o hb => Below.cell hgv (p := ⟨b, o, none⟩) hb; have hlk := HLK.out wv hgv; (try go_simp); try rfl; done)); simp only [Act.put, List.setIfInBounds_toArray, List.set_cons_succ, List.set_cons_zero])
   (apply HavG.hav_same (by simp only [List.getElem?_toArray, List.getElem?_cons_succ, List.getElem?_cons_zero]; rfl) (by kernel_rfl); (focus (intro wv hgv _; have hcv : ∀ b o, b < _ → wv.cell? ⟨b, o, none⟩ = _ := fun b o hb => Below.cell hgv (p := ⟨b, o, none⟩) hb; (try go_simp); try rfl; done)); simp only [Act.put, List.setIfInBounds_toArray, List.set_cons_succ, List.set_cons_zero])
   iterate 5 (refine HavG.hav_skip (by simp only [List.getElem?_toArray, List.getElem?_cons_succ, List.getElem?_cons_zero]; rfl) (by kernel_rfl) ?_; simp only [Act.put, List.setIfInBounds_toArray, List.set_cons_succ, List.set_cons_zero])
   iterate 2 (apply HavG.hav_same (by simp only [List.getElem?_toArray, List.getElem?_cons_succ, List.getElem?_cons_zero]; rfl) (by kernel_rfl); (focus (intro wv hgv _; have hcv : ∀ b o, b < _ → wv.cell? ⟨b, o, none⟩ = _ := fun b o hb => Below.cell hgv (p := ⟨b, o, none⟩) hb; (try go_simp); try rfl; done)); simp only [Act.put, List.setIfInBounds_toArray, List.set_cons_succ, List.set_cons_zero])
   iterate 4 (refine HavG.hav_skip (by simp only [List.getElem?_toArray, List.getElem?_cons_succ, List.getElem?_cons_zero]; rfl) (by kernel_rfl) ?_; simp only [Act.put, List.setIfInBounds_toArray, List.set_cons_succ, List.set_cons_zero])
   (apply HavG.hav_same (by simp only [List.getElem?_toArray, List.getElem?_cons_succ, List.getElem?_cons_zero]; rfl) (by kernel_rfl); (focus (intro wv hgv _; have hcv : ∀ b o, b < _ → wv.cell? ⟨b, o, none⟩ = _ := fun b o hb => Below.cell hgv (p := ⟨b, o, none⟩) hb; (try go_simp); try rfl; done)); simp only [Act.put, List.setIfInBounds_toArray, List.set_cons_succ, List.set_cons_zero])
   refine HavG.hav_end (fun wz hgz _ => ?_)
   simp only [List.filterMap]
   have HBZ : Hid (Below Xw.heap.size Xw wz) := hgz
   clear hgz n4 n5 n6 n7 n8 n9 n10 n11
   gi_wp2
   exact ⟨Turn.of_below HBZ.out, HW.out.trans (Turn.of_below HBZ.out), v', HVX.out.below HBZ.out HVX.out.lt, HB3.out⟩
  cases p
  ·cases q
   ·have HB3 : Hid (BitsUp v v' day (∃ j y, j < n + 1 ∧ O[j]? = some y ∧ ComesX i (x, c) y N)) := HNO.out (fun h => by cases h.2.2)
    gi_wp2
    refine HavG.wpIn_region_tail (R := RelB) [(0,false),(1,false),(2,false),(3,false),(4,false),(5,false),(6,false),(7,false),(8,false),(9,false),(10,false),(11,false),(12,false),(13,false),(14,false),(15,false),(16,false),(17,false)] [] (fun _ _ => False) (by kernel_rfl) (by kernel_rfl) (by kernel_rfl) (fun _ _ _ _ h => h.elim) ?_
    (apply HavG.hav_same (by simp only [List.getElem?_toArray, List.getElem?_cons_zero]; rfl) (by kernel_rfl); (focus (intro wv hgv _; have hcv : ∀ b o, b < _ → wv.cell? ⟨b, o, none⟩ = _ := fun b o hb => Below.cell hgv (p := ⟨b, o, none⟩) hb; (try go_simp); try rfl; done)); simp only [Act.put, List.setIfInBounds_toArray, List.set_cons_succ, List.set_cons_zero])
    iterate 3 (apply HavG.hav_same (by simp only [List.getElem?_toArray, List.getElem?_cons_succ, List.getElem?_cons_zero]; rfl) (by kernel_rfl); (focus (intro wv hgv _; have hcv : ∀ b o, b < _ → wv.cell? ⟨b, o, none⟩ = _ := fun b o hb => Below.cell hgv (p := ⟨b, o, none⟩) hb; (try go_simp); try rfl; done)); simp only [Act.put, List.setIfInBounds_toArray, List.set_cons_succ, List.set_cons_zero])
    (apply HavG.hav_same (by simp only [List.getElem?_toArray, List.getElem?_cons_succ, List.getElem?_cons_zero]; rfl) (by kernel_rfl); (focus (intro wv hgv _; have hcv : ∀ b o, b < _ → wv.cell? ⟨b, o, none⟩ = _ := fun b o hb => Below.cell hgv (p := ⟨b, o, none⟩) hb; have hlk := HLK.out wv hgv; (try go_simp); try rfl; done)); simp only [Act.put, List.setIfInBounds_toArray, List.set_cons_succ, List.set_cons_zero])
    iterate 4 (apply HavG.hav_same (by simp only [List.getElem?_toArray, List.getElem?_cons_succ, List.getElem?_cons_zero]; rfl) (by kernel_rfl); (focus (intro wv hgv _; have hcv : ∀ b o, b < _ → wv.cell? ⟨b, o, none⟩ = _ := fun b o hb => Below.cell hgv (p := ⟨b, o, none⟩) hb; (try go_simp); try rfl; done)); simp only [Act.put, List.setIfInBounds_toArray, List.set_cons_succ, List.set_cons_zero])
    (apply HavG.hav_call (by simp only [List.getElem?_toArray, List.getElem?_cons_succ, List.getElem?_cons_zero]; rfl) (by kernel_rfl); (focus (intro wv; go_simp; try exact ⟨rfl, rfl⟩; done)); (focus (intro wv hgv _; exact HC1.out wv; done)); simp only [Act.put, List.setIfInBounds_toArray, List.set_cons_succ, List.set_cons_zero])
    iterate 6 (apply HavG.hav_same (by simp only [List.getElem?_toArray, List.getElem?_cons_succ, List.getElem?_cons_zero]; rfl) (by kernel_rfl); (focus (intro wv hgv _; have hcv : ∀ b o, b < _ → wv.cell? ⟨b, o, none⟩ = _ := fun b o hb => Below.cell hgv (p := ⟨b, o, none⟩) hb; (try go_simp); try rfl; done)); simp only [Act.put, List.setIfInBounds_toArray, List.set_cons_succ, List.set_cons_zero])
    (apply HavG.hav_call (by simp only [List.getElem?_toArray, List.getElem?_cons_succ, List.getElem?_cons_zero]; rfl) (by kernel_rfl); (focus (intro wv; go_simp; try exact ⟨rfl, rfl⟩; done)); (focus (intro wv hgv _; exact HC2.out wv; done)); simp only [Act.put, List.setIfInBounds_toArray, List.set_cons_succ, List.set_cons_zero])
    (apply HavG.hav_same (by simp only [List.getElem?_toArray, List.getElem?_cons_succ, List.getElem?_cons_zero]; rfl) (by kernel_rfl); (focus (intro wv hgv _; have hcv : ∀ b o, b < _ → wv.cell? ⟨b, o, none⟩ = _ := fun b o hb => Below.cell hgv (p := ⟨b, o, none⟩) hb; (try go_simp); try rfl; done)); simp only [Act.put, List.setIfInBounds_toArray, List.set_cons_succ, List.set_cons_zero])
    refine HavG.hav_end (fun wz hgz _ => ?_)
    simp only [List.filterMap]
    have HBZ : Hid (Below Xw.heap.size Xw wz) := hgz
    clear hgz n4 n5 n6 n7 n8 n9 n10 n11
    gi_wp2
    exact ⟨Turn.of_below HBZ.out, HW.out.trans (Turn.of_below HBZ.out), v', HVX.out.below HBZ.out HVX.out.lt, HB3.out⟩
   ·have HYY : Hid (∃ j y, j < n + 1 ∧ O[j]? = some y ∧ ComesX i (x, c) y N) := HYS.out ⟨rfl, rfl, rfl⟩
    gi_wp2
    refine HavG.wpIn_region_tail (R := RelB) [(0,false),(1,false),(2,false),(3,false),(4,false),(5,false),(6,false),(7,false),(8,false),(9,false),(10,false),(11,false),(12,false),(13,false),(14,false),(15,false),(16,false),(17,false)] [] (fun _ _ => False) (by kernel_rfl) (by kernel_rfl) (by kernel_rfl) (fun _ _ _ _ h => h.elim) ?_
    (apply HavG.hav_same (by simp only [List.getElem?_toArray, List.getElem?_cons_zero]; rfl) (by kernel_rfl); (focus (intro wv hgv _; have hcv : ∀ b o, b < _ → wv.cell? ⟨b, o, none⟩ = _ := fun b o hb => Below.cell hgv (p := ⟨b, o, none⟩) hb; (try go_simp); try rfl; done)); simp only [Act.put, List.setIfInBounds_toArray, List.set_cons_succ, List.set_cons_zero])
    iterate 3 (apply HavG.hav_same (by simp only [List.getElem?_toArray, List.getElem?_cons_succ, List.getElem?_cons_zero]; rfl) (by kernel_rfl); (focus (intro wv hgv _; have hcv : ∀ b o, b < _ → wv.cell? ⟨b, o, none⟩ = _ := fun b o hb => Below.cell hgv (p := ⟨b, o, none⟩) hb; (try go_simp); try rfl; done)); simp only [Act.put, List.setIfInBounds_toArray, List.set_cons_succ, List.set_cons_zero])
    (apply HavG.hav_same (by simp only [List.getElem?_toArray, List.getElem?_cons_succ, List.getElem?_cons_zero]; rfl) (by kernel_rfl); (focus (intro wv hgv _; have hcv : ∀ b o, b < _ → wv.cell? ⟨b, o, none⟩ = _ := fun b o hb => Below.cell hgv (p := ⟨b, o, none⟩) hb; have hlk := HLK.out wv hgv; (try go_simp); try rfl; done)); simp only [Act.put, List.setIfInBounds_toArray, List.set_cons_succ, List.set_cons_zero])
    iterate 4 (apply HavG.hav_same (by simp only [List.getElem?_toArray, List.getElem?_cons_succ, List.getElem?_cons_zero]; rfl) (by kernel_rfl); (focus (intro wv hgv _; have hcv : ∀ b o, b < _ → wv.cell? ⟨b, o, none⟩ = _ := fun b o hb => Below.cell hgv (p := ⟨b, o, none⟩) hb; (try go_simp); try rfl; done)); simp only [Act.put, List.setIfInBounds_toArray, List.set_cons_succ, List.set_cons_zero])
    (apply HavG.hav_call (by simp only [List.getElem?_toArray, List.getElem?_cons_succ, List.getElem?_cons_zero]; rfl) (by kernel_rfl); (focus (intro wv; go_simp; try exact ⟨rfl, rfl⟩; done)); (focus (intro wv hgv _; exact HC1.out wv; done)); simp only [Act.put, List.setIfInBounds_toArray, List.set_cons_succ, List.set_cons_zero])
    iterate 6 (apply HavG.hav_same (by simp only [List.getElem?_toArray, List.getElem?_cons_succ, List.getElem?_cons_zero]; rfl) (by kernel_rfl); (focus (intro wv hgv _; have hcv : ∀ b o, b < _ → wv.cell? ⟨b, o, none⟩ = _ := fun b o hb => Below.cell hgv (p := ⟨b, o, none⟩) hb; (try go_simp); try rfl; done)); simp only [Act.put, List.setIfInBounds_toArray, List.set_cons_succ, List.set_cons_zero])
    (apply HavG.hav_call (by simp only [List.getElem?_toArray, List.getElem?_cons_succ, List.getElem?_cons_zero]; rfl) (by kernel_rfl); (focus (intro wv; go_simp; try exact ⟨rfl, rfl⟩; done)); (focus (intro wv hgv _; exact HC2.out wv; done)); simp only [Act.put, List.setIfInBounds_toArray, List.set_cons_succ, List.set_cons_zero])
    (apply HavG.hav_same (by simp only [List.getElem?_toArray, List.getElem?_cons_succ, List.getElem?_cons_zero]; rfl) (by kernel_rfl); (focus (intro wv hgv _; have hcv : ∀ b o, b < _ → wv.cell? ⟨b, o, none⟩ = _ := fun b o hb => Below.cell hgv (p := ⟨b, o, none⟩) hb; (try go_simp); try rfl; done)); simp only [Act.put, List.setIfInBounds_toArray, List.set_cons_succ, List.set_cons_zero])
    refine HavG.hav_end (fun wz hgz _ => ?_)
    simp only [List.filterMap]
    have HBZ : Hid (Below Xw.heap.size Xw wz) := hgz
    have HVZ : Hid (Blk wz B8 3 #[.int .i64 v']) := HVX.out.below HBZ.out HVX.out.lt
    have HGZ : Hid (Blk wz Bd 3 #[.int .i64 day]) := HGD.out.below HBZ.out HGD.out.lt
    clear hgz n4 n5 n6 n7 n8 n9 n10 n11 l4 l5 l7 l8 l10 l11 ln
    have n4 : wz.cell? ⟨Bd, 0, none⟩ = some (.int .i64 day) := HGZ.out.cell 0
    have n5 : wz.cell? ⟨B8, 0, none⟩ = some (.int .i64 v') := HVZ.out.cell 0
    have l4 := HGZ.out.lt
    have l5 := HVZ.out.lt
    have hsh := or_day v' day HIN.out.1 H3.out
    have hsw := wrap_day day H3.out
    have hd64 : (day : Int) < 64 := by omega
    gi_wp2
    refine HavG.wpIn_region_tail (R := RelB) [(0,false),(1,false),(2,false),(3,false)] [4] (fun _ _ => False) (by kernel_rfl) (by kernel_rfl) (by kernel_rfl) (fun _ _ _ _ h => h.elim) ?_
    (apply HavG.hav_same (by simp only [List.getElem?_toArray, List.getElem?_cons_zero]; rfl) (by kernel_rfl); (focus (intro wv hgv _; have hcv : ∀ b o, b < _ → wv.cell? ⟨b, o, none⟩ = _ := fun b o hb => Below.cell hgv (p := ⟨b, o, none⟩) hb; (try go_simp); try rfl; done)); simp only [Act.put, List.setIfInBounds_toArray, List.set_cons_succ, List.set_cons_zero])
    iterate 3 (apply HavG.hav_same (by simp only [List.getElem?_toArray, List.getElem?_cons_succ, List.getElem?_cons_zero]; rfl) (by kernel_rfl); (focus (intro wv hgv _; have hcv : ∀ b o, b < _ → wv.cell? ⟨b, o, none⟩ = _ := fun b o hb => Below.cell hgv (p := ⟨b, o, none⟩) hb; (try go_simp); try rfl; done)); simp only [Act.put, List.setIfInBounds_toArray, List.set_cons_succ, List.set_cons_zero])
    refine HavG.hav_end (fun wy hgy _ => ?_)
    simp only [List.filterMap]
    have HBY : Hid (Below wz.heap.size wz wy) := hgy
    have HVY : Hid (Blk wy B8 3 #[.int .i64 v']) := HVZ.out.below HBY.out HVZ.out.lt
    have n7 : wy.cell? ⟨B8, 0, none⟩ = some (.int .i64 v') := HVY.out.cell 0
    have f7 := HVY.out.frozen 0
    have l7 := HVY.out.lt
    have HUP : Hid (BitsUp v (v' ||| 2 ^ day) day (∃ j y, j < n + 1 ∧ O[j]? = some y ∧ ComesX i (x, c) y N)) := HIN.out.or HYY.out H3.out
    clear hgy n4 n5
    gi_wp2
    have hset : Turn (fun x => x = B8) wy (wy.setCell ⟨B8, 0, none⟩ (.int .i64 ((v' ||| 2 ^ day : Nat) : Int))) := Turn.set _ _ (fun _ => rfl)
    have hAll : Turn (fun x => x = B8) Xw (wy.setCell ⟨B8, 0, none⟩ (.int .i64 ((v' ||| 2 ^ day : Nat) : Int))) := ((Turn.of_below HBZ.out).trans (Turn.of_below HBY.out)).trans hset
    exact ⟨hAll, HW.out.trans hAll, _, HVY.out.set_ 0 _, HUP.out⟩
  ·have HB3 : Hid (BitsUp v v' day (∃ j y, j < n + 1 ∧ O[j]? = some y ∧ ComesX i (x, c) y N)) := HNO.out (fun h => by cases h.2.1)
   gi_wp2
   refine HavG.wpIn_region_tail (R := RelB) [(0,false),(1,false),(2,false),(3,false),(4,false),(5,false),(6,false),(7,false),(8,false),(9,false),(10,false),(11,false),(12,false),(13,false),(14,false),(15,false),(16,false),(17,false)] [] (fun _ _ => False) (by kernel_rfl) (by kernel_rfl) (by kernel_rfl) (fun _ _ _ _ h => h.elim) ?_
   (apply HavG.hav_same (by simp only [List.getElem?_toArray, List.getElem?_cons_zero]; rfl) (by kernel_rfl); (focus (intro wv hgv _; have hcv : ∀ b o, b < _ → wv.cell? ⟨b, o, none⟩ = _ := fun b o hb => Below.cell hgv (p := ⟨b, o, none⟩) hb; (try go_simp); try rfl; done)); simp only [Act.put, List.setIfInBounds_toArray, List.set_cons_succ, List.set_cons_zero])
   iterate 3 (apply HavG.hav_same (by simp only [List.getElem?_toArray, List.getElem?_cons_succ, List.getElem?_cons_zero]; rfl) (by kernel_rfl); (focus (intro wv hgv _; have hcv : ∀ b o, b < _ → wv.cell? ⟨b, o, none⟩ = _ := fun b o hb => Below.cell hgv (p := ⟨b, o, none⟩) hb; (try go_simp); try rfl; done)); simp only [Act.put, List.setIfInBounds_toArray, List.set_cons_succ, List.set_cons_zero])
   (apply HavG.hav_same (by simp only [List.getElem?_toArray, List.getElem?_cons_succ, List.getElem?_cons_zero]; rfl) (by kernel_rfl); (focus (intro wv hgv _; have hcv : ∀ b o, b < _ → wv.cell? ⟨b, o, none⟩ = _ := fun b o hb => Below.cell hgv (p := ⟨b, o, none⟩) hb; have hlk := HLK.out wv hgv; (try go_simp); try rfl; done)); simp only [Act.put, List.setIfInBounds_toArray, List.set_cons_succ, List.set_cons_zero])
   iterate 4 (apply HavG.hav_same (by simp only [List.getElem?_toArray, List.getElem?_cons_succ, List.getElem?_cons_zero]; rfl) (by kernel_rfl); (focus (intro wv hgv _; have hcv : ∀ b o, b < _ → wv.cell? ⟨b, o, none⟩ = _ := fun b o hb => Below.cell hgv (p := ⟨b, o, none⟩) hb; (try go_simp); try rfl; done)); simp only [Act.put, List.setIfInBounds_toArray, List.set_cons_succ, List.set_cons_zero])
   (apply HavG.hav_call (by simp only [List.getElem?_toArray, List.getElem?_cons_succ, List.getElem?_cons_zero]; rfl) (by kernel_rfl); (focus (intro wv; go_simp; try exact ⟨rfl, rfl⟩; done)); (focus (intro wv hgv _; exact HC1.out wv; done)); simp only [Act.put, List.setIfInBounds_toArray, List.set_cons_succ, List.set_cons_zero])
   iterate 3 (apply HavG.hav_same (by simp only [List.getElem?_toArray, List.getElem?_cons_succ, List.getElem?_cons_zero]; rfl) (by kernel_rfl); (focus (intro wv hgv _; have hcv : ∀ b o, b < _ → wv.cell? ⟨b, o, none⟩ = _ := fun b o hb => Below.cell hgv (p := ⟨b, o, none⟩) hb; (try go_simp); try rfl; done)); simp only [Act.put, List.setIfInBounds_toArray, List.set_cons_succ, List.set_cons_zero])
   iterate 4 (refine HavG.hav_skip (by simp only [List.getElem?_toArray, List.getElem?_cons_succ, List.getElem?_cons_zero]; rfl) (by kernel_rfl) ?_; simp only [Act.put, List.setIfInBounds_toArray, List.set_cons_succ, List.set_cons_zero])
   (apply HavG.hav_same (by simp only [List.getElem?_toArray, List.getElem?_cons_succ, List.getElem?_cons_zero]; rfl) (by kernel_rfl); (focus (intro wv hgv _; have hcv : ∀ b o, b < _ → wv.cell? ⟨b, o, none⟩ = _ := fun b o hb => Below.cell hgv (p := ⟨b, o, none⟩) hb; (try go_simp); try rfl; done)); simp only [Act.put, List.setIfInBounds_toArray, List.set_cons_succ, List.set_cons_zero])
   refine HavG.hav_end (fun wz hgz _ => ?_)
   simp only [List.filterMap]
   have HBZ : Hid (Below Xw.heap.size Xw wz) := hgz
   clear hgz n4 n5 n6 n7 n8 n9 n10 n11
   gi_wp2
   exact ⟨Turn.of_below HBZ.out, HW.out.trans (Turn.of_below HBZ.out), v', HVX.out.below HBZ.out HVX.out.lt, HB3.out⟩
 case done =>
  rintro Xw ⟨hT, v', hv', hI⟩
  have HP : Hid (FrPost r by_ day i (x, c) N B8 v W Xw) := by
   refine ⟨(Turn.of_below HB2.out).trans hT, v', hv', hI.iff ?_⟩
   rw [← HOE.out]
   constructor
   ·rintro ⟨j, y, _, q2, q3⟩
    exact ⟨y, List.mem_of_getElem? q2, q3⟩
   ·rintro ⟨y, q2, q3⟩
    obtain ⟨j, hj⟩ := List.getElem?_of_mem q2
    exact ⟨j, y, by rw [List.length_map]; exact (List.getElem?_eq_some_iff.1 hj).1, hj, q3⟩
  clear hT hv' hI
  exact HQ.out _ _ _ _ _ _ _ _ _ _ _ _ _ _ _ _ _ _ _ _ _ _ _ _ _ _ _ _ _ _ _ _ Xw HP.out
 case stop => exact fun c W h => h.elim
end
end Go.Proofs.Ytiodmkokpfgkkaa
namespace Go.Proofs.Ytiodmkokpfgkkaa
open Go.RowKit Go.Hav Go.Shelf Go.Sq
attribute [local go_sem] Oper.semAt_some
section
variable {B d k : Nat} {fa la : Option Addr} {fl fc ll lc : Nat} {r : Riv}
/-- What stands behind so many states of the day before. -/
structure FrInv (r : Riv) (by_ day i B8 b rg v : Nat) (S0 T N : List St) (W wr : World) (v' : Nat) : Prop where
 t : Turn (fun x => x = B8 ∨ x = rg) W wr
 ran : RanS wr b rg S0 T
 set : Blk wr B8 3 #[.int .i64 v']
 up : BitsUp v v' day (∃ s, s ∈ S0 ∧ s ∉ T ∧ ∃ x, x ∈ next r by_ day s ∧ ComesX i s x N)
theorem BitsUp.trans {u v v' D : Nat} {p q : Prop} (h : BitsUp u v D p) (g : BitsUp v v' D q) : BitsUp u v' D (p ∨ q) := ⟨g.1, fun E => by
 rw [g.2 E, h.2 E]
 constructor
 ·rintro ((h1 | ⟨h1, h2⟩) | ⟨h1, h2⟩)
  ·exact .inl h1
  ·exact .inr ⟨h1, .inl h2⟩
  ·exact .inr ⟨h1, .inr h2⟩
 ·rintro (h1 | ⟨h1, h2 | h2⟩)
  ·exact .inl (.inl h1)
  ·exact .inl (.inr ⟨h1, h2⟩)
  ·exact .inr ⟨h1, h2⟩⟩
set_option maxRecDepth 100000 in
set_option maxHeartbeats 1600000 in
theorem fshR_any (hv : r.Good) {W : World} {B3 B6 B7 B8 B10 Bd by_ day i v lx b bn rg : Nat} {ms : Nat → Option Nat} {S0 N : List St} (hD : GauIn W B d k fa fl fc la ll lc r) (hR : FrR W B3 B6 B7 B10 d i ms) (hset : Blk W B8 3 #[.int .i64 v]) (hday : Blk W Bd 3 #[.int .i64 day])
  (hne : B8 ≠ B3 ∧ B8 ≠ B6 ∧ B8 ≠ B7 ∧ B8 ≠ B10 ∧ B8 ≠ Bd) (hms : ms day = some bn) (hN : MapS W bn N) (hM : RanS W b rg S0 S0) (hrn : rg ≠ bn) (hB8 : B ≤ B8 ∧ d ≠ B8 ∧ B ≤ rg ∧ d ≠ rg) (hl0 : ∃ r0, W.heap[lx]? = some (.loop r0))
  (h1 : by_ < 1000) (h3 : day ≤ 10) (hs : ∀ s ∈ S0, s.1 ≤ 1000 ∧ s.2 < 8) (hi : i < 3) (hvv : v < 2048)
  {Q : Exit → Act → World → Prop} {c0 c1 c2 c4 c5 c12 c13 c14 c15 c16 c17 c18 c19 c20 c21 c22 c23 c24 c25 c26 c27 c28 c29 c30 c31 c32 c33 c34 c35 c36 c37 c38 c39 c40 c41 c42 c44 c45 c46 c47 c48 c49 c50 c51 c52 c53 c54 c55 c56 c57 c58 c59 c60 c61 c62 c63 c64 c65 c66 c67 c68 c69 c70 c71 c72 c73 c74 c75 c76 c77 : Value}
  (HQ : Hid (∀ (u12 u13 u44 u45 u46 u47 u48 u49 u50 u51 u52 u53 u54 u55 u56 u57 u58 u59 u60 u61 u62 u63 u64 u65 u66 u67 u68 u69 u70 u71 u72 u73 u74 u75 : Value) (v' : Nat) (w' : World), FrInv r by_ day i B8 b rg v S0 [] N W w' v' → Q .normal ⟨(c0::c1::c2::(.pointer (some ⟨B3, 0, none⟩))::c4::c5::(.pointer (some ⟨B6, 0, none⟩))::(.pointer (some ⟨B7, 0, none⟩))::(.pointer (some ⟨B8, 0, none⟩))::(.int .i64 by_)::(.pointer (some ⟨B10, 0, none⟩))::(.pointer (some ⟨Bd, 0, none⟩))::u12::u13::c14::c15::c16::c17::c18::c19::c20::c21::c22::c23::c24::c25::c26::c27::c28::c29::c30::c31::c32::c33::c34::c35::c36::c37::c38::c39::c40::c41::c42::(.pointer (some ⟨rg, 0, none⟩))::u44::u45::u46::u47::u48::u49::u50::u51::u52::u53::u54::u55::u56::u57::u58::u59::u60::u61::u62::u63::u64::u65::u66::u67::u68::u69::u70::u71::u72::u73::u74::u75::c76::c77::[]).toArray, []⟩ w')) :
  Code.wpIn (Fence.wide.inRound lx) 0 Try.prog (innerC fshR) (Exit.inBlock 4 Q) ⟨(c0::c1::c2::(.pointer (some ⟨B3, 0, none⟩))::c4::c5::(.pointer (some ⟨B6, 0, none⟩))::(.pointer (some ⟨B7, 0, none⟩))::(.pointer (some ⟨B8, 0, none⟩))::(.int .i64 by_)::(.pointer (some ⟨B10, 0, none⟩))::(.pointer (some ⟨Bd, 0, none⟩))::c12::c13::c14::c15::c16::c17::c18::c19::c20::c21::c22::c23::c24::c25::c26::c27::c28::c29::c30::c31::c32::c33::c34::c35::c36::c37::c38::c39::c40::c41::c42::(.pointer (some ⟨rg, 0, none⟩))::c44::c45::c46::c47::c48::c49::c50::c51::c52::c53::c54::c55::c56::c57::c58::c59::c60::c61::c62::c63::c64::c65::c66::c67::c68::c69::c70::c71::c72::c73::c74::c75::c76::c77::[]).toArray, []⟩ W := by
 conv => arg 4; whnf
 conv => arg 4; arg 1; arg 2; arg 2; arg 2; change fshS
 refine wpIn_loop_ghost (fun n a' wr => ∃ (u12 u13 u44 u45 u46 u47 u48 u49 u50 u51 u52 u53 u54 u55 u56 u57 u58 u59 u60 u61 u62 u63 u64 u65 u66 u67 u68 u69 u70 u71 u72 u73 u74 u75 : Value) (v' : Nat) (T : List St), (T.length = n ∧ FrInv r by_ day i B8 b rg v S0 T N W wr v') ∧ a' = ⟨(c0::c1::c2::(.pointer (some ⟨B3, 0, none⟩))::c4::c5::(.pointer (some ⟨B6, 0, none⟩))::(.pointer (some ⟨B7, 0, none⟩))::(.pointer (some ⟨B8, 0, none⟩))::(.int .i64 by_)::(.pointer (some ⟨B10, 0, none⟩))::(.pointer (some ⟨Bd, 0, none⟩))::u12::u13::c14::c15::c16::c17::c18::c19::c20::c21::c22::c23::c24::c25::c26::c27::c28::c29::c30::c31::c32::c33::c34::c35::c36::c37::c38::c39::c40::c41::c42::(.pointer (some ⟨rg, 0, none⟩))::u44::u45::u46::u47::u48::u49::u50::u51::u52::u53::u54::u55::u56::u57::u58::u59::u60::u61::u62::u63::u64::u65::u66::u67::u68::u69::u70::u71::u72::u73::u74::u75::c76::c77::[]).toArray, []⟩) S0.length ?_ ?_
 ·exact ⟨_, _, _, _, _, _, _, _, _, _, _, _, _, _, _, _, _, _, _, _, _, _, _, _, _, _, _, _, _, _, _, _, _, _, v, S0, ⟨rfl, Turn.refl _ _, hM, hset, BitsUp.no hvv (fun ⟨s, h1, h2, _⟩ => h2 h1)⟩, rfl⟩
 ·rintro n a wr ⟨u12, u13, u44, u45, u46, u47, u48, u49, u50, u51, u52, u53, u54, u55, u56, u57, u58, u59, u60, u61, u62, u63, u64, u65, u66, u67, u68, u69, u70, u71, u72, u73, u74, u75, v', T, ⟨hn, hI⟩, rfl⟩
  rcases hI.ran.next 0 with ⟨hT, hrun⟩ | ⟨s, w1, hsT, hrun, hr1, hg1, hs1, hen⟩
  ·have HP : Hid (FrInv r by_ day i B8 b rg v S0 [] N W wr v') := by rw [← hT]; exact hI
   clear hI hT hn hD hR hday hms hM hN hs hset
   gi_wp2
   exact HQ.out _ _ _ _ _ _ _ _ _ _ _ _ _ _ _ _ _ _ _ _ _ _ _ _ _ _ _ _ _ _ _ _ _ _ v' wr HP.out
  ·have t1 : Turn (fun x => x = B8 ∨ x = rg) W w1 := hI.t.trans (Turn.of_grown hg1 (fun q e _ => by cases e; exact .inr rfl))
   have no : ∀ {g : Nat} {t : TypeId} {cs : Array Value}, Blk W g t cs → rg ≠ g := fun hg => hM.ne_blk hg
   obtain ⟨z3, z6, z7, z10, zd⟩ := hne
   have ne : ∀ {g : Nat} {t : TypeId} {cs : Array Value}, Blk W g t cs → B8 ≠ g → ¬ (g = B8 ∨ g = rg) := fun hg h e => e.elim (fun e => h e.symm) (fun e => no hg e.symm)
   have HR1 : FrR w1 B3 B6 B7 B10 d i ms := hR.turn t1 (ne hR.f z3) (ne hR.g z6) (ne hR.h z7) (ne hR.a z10)
   have hday1 : Blk w1 Bd 3 #[.int .i64 day] := hday.turn t1 (ne hday zd)
   have hg1' : Turn (fun x => x = rg) wr w1 := Turn.of_grown hg1 (fun q e _ => by cases e; rfl)
   have hN1 : MapS w1 bn N := hN.turn t1 (fun h => h.elim (fun e => hN.ne_blk hset e) (fun e => hrn (show bn = rg from e).symm))
   have hset1 : Blk w1 B8 3 #[.int .i64 v'] := hI.set.turn hg1' (fun e => no hset (show B8 = rg from e).symm)
   obtain ⟨hTn, hTS, _⟩ := hI.ran.sub
   have hD1 : GauIn w1 B d k fa fl fc la ll lc r := hD.turn t1 (fun x e => by rcases e with e | e <;> omega) (fun e => by rcases e with e | e <;> omega)
   have hl1 : ∃ r0, w1.heap[lx]? = some (.loop r0) := by
    obtain ⟨r0, h0⟩ := hl0
    refine ⟨r0, (t1.block lx (Array.getElem?_eq_some_iff.1 h0).1 (fun e => ?_)).trans h0⟩
    rcases e with e | e
    ·rw [e, show W.heap[B8]? = _ from hset] at h0; cases h0
    ·obtain ⟨_, _, _, _, ⟨_, _, _, _, _, _, _, _, _, q5, _⟩, _⟩ := hM
     rw [e, q5] at h0; cases h0
   have HBB := Lib.hid hr1
   have HII := Lib.hid hI
   have HT1 := Lib.hid t1
   have HSS := Lib.hid (hs s (hTS s hsT))
   have HTN := Lib.hid hTn
   have HTS := Lib.hid hTS
   have HSET := Lib.hid hset1
   have HN1 := Lib.hid hN1
   have HDD := Lib.hid hD1
   have HDY := Lib.hid hday1
   have HRR := Lib.hid HR1
   have HST := Lib.hid hsT
   have HNN := Lib.hid hn
   have HRG : Hid (B8 ≠ rg) := fun e => no hset e.symm
   have hb8 : b ≠ B8 := hM.owns.ne_blk hset
   clear hI hD hR hday hM hN hs hset ne no HR1 hday1 hg1' hN1 hset1 hTn hTS hD1 hr1 hg1 hs1 t1 hl0 hn hsT hrn
   gi_wp2_with fail
   refine fshS_any hv HDD.out HRR.out HSET.out HDY.out ⟨z3, z6, z7, z10, zd⟩ hms HN1.out hen hl1 h1 h3 HSS.out hi HII.out.up.1 (Lib.hid ?_)
   rintro v12 v13 v46 v47 v48 v49 v50 v51 v52 v53 v54 v55 v56 v57 v58 v59 v60 v61 v62 v63 v64 v65 v66 v67 v68 v69 v70 v71 v72 v73 v74 v75 w2 ⟨t2, v2, hv2, hup⟩
   have hn := HNN.out
   have hsT := HST.out
   refine Exists.intro (T.erase s).length ⟨by rw [List.length_erase_of_mem hsT]; have := List.length_pos_of_mem hsT; omega, _, _, _, _, _, _, _, _, _, _, _, _, _, _, _, _, _, _, _, _, _, _, _, _, _, _, _, _, _, _, _, _, _, _, v2, T.erase s, ⟨rfl, HT1.out.trans (t2.mono fun _ => .inl), HBB.out.turn t2 (fun e => hb8 e) (fun e => HRG.out (show rg = B8 from e).symm), hv2, (HII.out.up.trans hup).iff ?_⟩, rfl⟩
   constructor
   ·rintro (⟨s0, q1, q2, q3⟩ | q)
    ·exact ⟨s0, q1, fun h => q2 ((HTN.out.mem_erase_iff.1 h).2), q3⟩
    ·exact ⟨s, HTS.out s hsT, fun h => (HTN.out.mem_erase_iff.1 h).1 rfl, q⟩
   ·rintro ⟨s0, q1, q2, q3⟩
    by_cases e : s0 = s
    ·subst e; exact .inr q3
    ·exact .inl ⟨s0, q1, fun h => q2 (HTN.out.mem_erase_iff.2 ⟨e, h⟩), q3⟩
end
end Go.Proofs.Ytiodmkokpfgkkaa
namespace Go.Proofs.Ytiodmkokpfgkkaa
open Go.RowKit Go.Hav Go.Shelf Go.Sq
attribute [local go_sem] Oper.semAt_some
section
variable {B d k : Nat} {fa la : Option Addr} {fl fc ll lc : Nat} {r : Riv}
/-- The set has got the days of the first m with which the fresh comes. -/
def DayBits (r : Riv) (looks i by_ v v' m : Nat) : Prop := v' < 2048 ∧ ∀ E, v'.testBit E = true ↔ v.testBit E = true ∨ ∃ day, E = day + 1 ∧ day < m ∧ Comes r looks i by_ day
theorem DayBits.step {looks i by_ v v1 v2 p : Nat} {S0 N : List St} (h : DayBits r looks i by_ v v1 p) (hS : ∀ s, s ∈ S0 ↔ AllS r by_ looks p s) (hN : ∀ s, s ∈ N ↔ AllS r by_ looks (p + 1) s)
  (u : BitsUp v1 v2 (p + 1) (∃ s, s ∈ S0 ∧ s ∉ ([] : List St) ∧ ∃ x, x ∈ next r by_ (p + 1) s ∧ ComesX i s x N)) : DayBits r looks i by_ v v2 (p + 1) := by
 refine ⟨u.1, fun E => ?_⟩
 rw [u.2 E, h.2 E]
 have key : (∃ s, s ∈ S0 ∧ s ∉ ([] : List St) ∧ ∃ x, x ∈ next r by_ (p + 1) s ∧ ComesX i s x N) ↔ Comes r looks i by_ p := by
  constructor
  ·rintro ⟨s, q1, _, x, q2, q3, q4, q5⟩
   exact ⟨s, x, (hS s).1 q1, (hN x).1 q3, q2, q4, q5⟩
  ·rintro ⟨s, x, q1, q2, q3, q4, q5⟩
   exact ⟨s, (hS s).2 q1, by simp, x, q3, (hN x).2 q2, q4, q5⟩
 rw [key]
 constructor
 ·rintro ((h1 | ⟨day, h1, h2, h3⟩) | ⟨h1, h2⟩)
  ·exact .inl h1
  ·exact .inr ⟨day, h1, by omega, h3⟩
  ·exact .inr ⟨p, h1, by omega, h2⟩
 ·rintro (h1 | ⟨day, h1, h2, h3⟩)
  ·exact .inl (.inl h1)
  ·by_cases e : day = p
   ·subst e; exact .inr ⟨h1, h3⟩
   ·exact .inl (.inr ⟨day, h1, by omega, h3⟩)
/-- What stands at the head of a day's round. -/
structure FrDay (r : Riv) (looks i by_ v p B8 Bd : Nat) (W wr : World) (v' : Nat) : Prop where
 t : Turn (fun x => x = B8) W wr
 day : Blk wr Bd 3 #[.int .i64 ((p + 1 : Nat) : Int)]
 ne : B8 ≠ Bd
 set : Blk wr B8 3 #[.int .i64 v']
 up : DayBits r looks i by_ v v' p
set_option maxRecDepth 100000 in
set_option maxHeartbeats 1600000 in
theorem fshL_any (hv : r.Good) {W : World} {B3 B6 B7 B8 B10 Bd by_ looks i v lx : Nat} {ms : Nat → Option Nat} (hD : GauIn W B d k fa fl fc la ll lc r) (hR : FrR W B3 B6 B7 B10 d i ms) (hset : Blk W B8 3 #[.int .i64 v]) (hday : Blk W Bd 3 #[.int .i64 1])
  (hne : B8 ≠ B3 ∧ B8 ≠ B6 ∧ B8 ≠ B7 ∧ B8 ≠ B10 ∧ B8 ≠ Bd) (hms : RunOK W k r by_ looks ms) (hB8 : B ≤ B8 ∧ d ≠ B8) (hl0 : ∃ r0, W.heap[lx]? = some (.loop r0))
  (h1 : by_ < 1000) (hi : i < 3) (hvv : v < 2048)
  {Q : Exit → Act → World → Prop} {c0 c1 c2 c4 c5 c12 c13 c14 c15 c16 c17 c18 c19 c20 c21 c22 c23 c24 c25 c26 c27 c28 c29 c30 c31 c32 c33 c34 c35 c36 c37 c38 c39 c40 c41 c42 c43 c44 c45 c46 c47 c48 c49 c50 c51 c52 c53 c54 c55 c56 c57 c58 c59 c60 c61 c62 c63 c64 c65 c66 c67 c68 c69 c70 c71 c72 c73 c74 c75 c76 c77 : Value}
  (HQ : Hid (∀ (u11 u12 u13 u30 u31 u32 u33 u34 u35 u36 u37 u38 u39 u40 u41 u42 u43 u44 u45 u46 u47 u48 u49 u50 u51 u52 u53 u54 u55 u56 u57 u58 u59 u60 u61 u62 u63 u64 u65 u66 u67 u68 u69 u70 u71 u72 u73 u74 u75 u76 : Value) (v' : Nat) (w' : World), Turn (fun x => x = B8) W w' → Blk w' B8 3 #[.int .i64 v'] → DayBits r looks i by_ v v' r.days → Q .normal ⟨(c0::c1::c2::(.pointer (some ⟨B3, 0, none⟩))::c4::c5::(.pointer (some ⟨B6, 0, none⟩))::(.pointer (some ⟨B7, 0, none⟩))::(.pointer (some ⟨B8, 0, none⟩))::(.int .i64 by_)::(.pointer (some ⟨B10, 0, none⟩))::u11::u12::u13::c14::c15::c16::c17::c18::c19::c20::c21::c22::c23::c24::c25::c26::c27::c28::c29::u30::u31::u32::u33::u34::u35::u36::u37::u38::u39::u40::u41::u42::u43::u44::u45::u46::u47::u48::u49::u50::u51::u52::u53::u54::u55::u56::u57::u58::u59::u60::u61::u62::u63::u64::u65::u66::u67::u68::u69::u70::u71::u72::u73::u74::u75::u76::c77::[]).toArray, []⟩ w')) :
  Code.wpIn (Fence.wide.inRound lx) 0 Try.prog (innerC fshL) (Exit.inBlock 2 Q) ⟨(c0::c1::c2::(.pointer (some ⟨B3, 0, none⟩))::c4::c5::(.pointer (some ⟨B6, 0, none⟩))::(.pointer (some ⟨B7, 0, none⟩))::(.pointer (some ⟨B8, 0, none⟩))::(.int .i64 by_)::(.pointer (some ⟨B10, 0, none⟩))::(.pointer (some ⟨Bd, 0, none⟩))::c12::c13::c14::c15::c16::c17::c18::c19::c20::c21::c22::c23::c24::c25::c26::c27::c28::c29::c30::c31::c32::c33::c34::c35::c36::c37::c38::c39::c40::c41::c42::c43::c44::c45::c46::c47::c48::c49::c50::c51::c52::c53::c54::c55::c56::c57::c58::c59::c60::c61::c62::c63::c64::c65::c66::c67::c68::c69::c70::c71::c72::c73::c74::c75::c76::c77::[]).toArray, []⟩ W := by
 conv => arg 4; whnf
 conv => arg 4; arg 1; arg 2; arg 1; arg 2; arg 2; arg 2; change innerC fshR
 refine wpIn_loop_ghost (fun n a' wr => ∃ (u12 u13 u30 u31 u32 u33 u34 u35 u36 u37 u38 u39 u40 u41 u42 u43 u44 u45 u46 u47 u48 u49 u50 u51 u52 u53 u54 u55 u56 u57 u58 u59 u60 u61 u62 u63 u64 u65 u66 u67 u68 u69 u70 u71 u72 u73 u74 u75 u76 : Value) (v' Bd p : Nat), (p + n = r.days ∧ FrDay r looks i by_ v p B8 Bd W wr v') ∧ a' = ⟨(c0::c1::c2::(.pointer (some ⟨B3, 0, none⟩))::c4::c5::(.pointer (some ⟨B6, 0, none⟩))::(.pointer (some ⟨B7, 0, none⟩))::(.pointer (some ⟨B8, 0, none⟩))::(.int .i64 by_)::(.pointer (some ⟨B10, 0, none⟩))::(.pointer (some ⟨Bd, 0, none⟩))::u12::u13::c14::c15::c16::c17::c18::c19::c20::c21::c22::c23::c24::c25::c26::c27::c28::c29::u30::u31::u32::u33::u34::u35::u36::u37::u38::u39::u40::u41::u42::u43::u44::u45::u46::u47::u48::u49::u50::u51::u52::u53::u54::u55::u56::u57::u58::u59::u60::u61::u62::u63::u64::u65::u66::u67::u68::u69::u70::u71::u72::u73::u74::u75::u76::c77::[]).toArray, []⟩) r.days ?_ ?_
 ·exact ⟨_, _, _, _, _, _, _, _, _, _, _, _, _, _, _, _, _, _, _, _, _, _, _, _, _, _, _, _, _, _, _, _, _, _, _, _, _, _, _, _, _, _, _, _, _, _, _, _, _, v, Bd, 0, ⟨by omega, Turn.refl _ _, hday, hne.2.2.2.2, hset, hvv, fun E => ⟨.inl, fun h => h.elim id (fun ⟨_, _, h, _⟩ => by omega)⟩⟩, rfl⟩
 ·obtain ⟨z3, z6, z7, z10, _⟩ := hne
  have HSE := Lib.hid hset
  have HD := Lib.hid hD
  have HV := Lib.hid hv
  have HR := Lib.hid hR
  have HMS := Lib.hid hms
  have HL0 := Lib.hid hl0
  have hv2 := hv.n2
  clear hD hv hR hms hl0 hday hset
  rintro n a wr ⟨u12, u13, u30, u31, u32, u33, u34, u35, u36, u37, u38, u39, u40, u41, u42, u43, u44, u45, u46, u47, u48, u49, u50, u51, u52, u53, u54, u55, u56, u57, u58, u59, u60, u61, u62, u63, u64, u65, u66, u67, u68, u69, u70, u71, u72, u73, u74, u75, u76, v', Bd, p, ⟨hn, hI⟩, rfl⟩
  have HN := Lib.hid hn
  have HI := Lib.hid hI
  have HDr : Hid (GauIn wr B d k fa fl fc la ll lc r) := HD.out.turn hI.t (fun x e => by have e' : x = B8 := e; omega) (fun e => hB8.2 (show d = B8 from e))
  have HRr : Hid (FrR wr B3 B6 B7 B10 d i ms) := HR.out.turn hI.t (fun e => z3 (show B3 = B8 from e).symm) (fun e => z6 (show B6 = B8 from e).symm) (fun e => z7 (show B7 = B8 from e).symm) (fun e => z10 (show B10 = B8 from e).symm)
  have u6 : wr.cell? ⟨B6, 0, none⟩ = some (.pointer (some ⟨d, 0, none⟩)) := HRr.out.g.cell 0
  have u9 : wr.cell? ⟨Bd, 0, none⟩ = some (.int .i64 ((p : Int) + 1)) := by rw [show ((p : Int) + 1) = ((p + 1 : Nat) : Int) by omega]; exact hI.day.cell 0
  have ud : wr.cell? ⟨d, 4, none⟩ = some (.int .i64 r.days) := HDr.out.blk.cell 4
  have m6 := HRr.out.g.lt
  have m9 := hI.day.lt
  have md := HDr.out.blk.lt
  clear hI hn
  gi_wp2
  refine HavG.wpIn_region_tail (R := RelB) [(0,false),(1,false),(2,false),(3,false),(4,false),(5,false),(6,false)] [] (fun _ _ => False) (by kernel_rfl) (by kernel_rfl) (by kernel_rfl) (fun _ _ _ _ h => h.elim) ?_
  (apply HavG.hav_same (by simp only [List.getElem?_toArray, List.getElem?_cons_zero]; rfl) (by kernel_rfl); (focus (intro wv hgv _; have hcv : ∀ b o, b < _ → wv.cell? ⟨b, o, none⟩ = _ := fun b o hb => Below.cell hgv (p := ⟨b, o, none⟩) hb; (try go_simp); try rfl; done)); simp only [Act.put, List.setIfInBounds_toArray, List.set_cons_succ, List.set_cons_zero])
  iterate 6 (apply HavG.hav_same (by simp only [List.getElem?_toArray, List.getElem?_cons_succ, List.getElem?_cons_zero]; rfl) (by kernel_rfl); (focus (intro wv hgv _; have hcv : ∀ b o, b < _ → wv.cell? ⟨b, o, none⟩ = _ := fun b o hb => Below.cell hgv (p := ⟨b, o, none⟩) hb; (try go_simp); try rfl; done)); simp only [Act.put, List.setIfInBounds_toArray, List.set_cons_succ, List.set_cons_zero])
  refine HavG.hav_end (fun wz hgz _ => ?_)
  simp only [List.filterMap]
  have HBZ : Hid (Below wr.heap.size wr wz) := hgz
  have HTZ : Hid (Turn (fun x => x = B8) W wz) := HI.out.t.trans (Turn.of_below HBZ.out)
  have HDz : Hid (GauIn wz B d k fa fl fc la ll lc r) := HDr.out.grow HBZ.out
  have HRz : Hid (FrR wz B3 B6 B7 B10 d i ms) := HRr.out.turn (S := fun _ => False) (Turn.of_below HBZ.out) id id id id
  have HYz : Hid (Blk wz Bd 3 #[.int .i64 ((p + 1 : Nat) : Int)]) := HI.out.day.below HBZ.out HI.out.day.lt
  have HSz : Hid (Blk wz B8 3 #[.int .i64 v']) := HI.out.set.below HBZ.out HI.out.set.lt
  clear hgz u6 u9 ud m6 m9 md
  by_cases hlt : p + 1 ≤ r.days
  ·have hc : (p : Int) + 1 ≤ r.days := by omega
   obtain ⟨b, S0, q1, _, q3, q4⟩ := HMS.out p (by omega)
   obtain ⟨bn, N, p1, _, p3, p4⟩ := HMS.out (p + 1) hlt
   have Hq4 := Lib.hid q4
   have Hp4 := Lib.hid p4
   have Hp1 := Lib.hid p1
   have HMb : Hid (MapS wz b S0) := q3.turn HTZ.out (fun e => q3.ne_blk HSE.out e)
   have HMn : Hid (MapS wz bn N) := p3.turn HTZ.out (fun e => p3.ne_blk HSE.out e)
   have u9 : wz.cell? ⟨Bd, 0, none⟩ = some (.int .i64 ((p : Int) + 1)) := by rw [show ((p : Int) + 1) = ((p + 1 : Nat) : Int) by omega]; exact HYz.out.cell 0
   have u4 : wz.cell? ⟨B10, p, none⟩ = some (.map (some b)) := by
    refine (HRz.out.a.cell p).trans ((runC_get _ (by omega)).trans ?_)
    rw [q1]
   have l9 := HYz.out.lt
   have l4 := HRz.out.a.lt
   have hp11 : (p : Int) < 11 := by omega
   obtain ⟨W7, hrun, hr7, hg7, hs7⟩ := HMb.out.range
   have HR7 := Lib.hid hr7
   have HT7 : Hid (Turn (fun _ => False) wz W7) := Turn.of_grown hg7 (fun q e _ => by cases e)
   have HS7 := Lib.hid hs7
   have HL7 : Hid (∃ r0, W7.heap[lx]? = some (.loop r0)) := by
    obtain ⟨r0, h0⟩ := HL0.out
    refine ⟨r0, ((HTZ.out.trans (HT7.out.mono fun _ h => h.elim)).block lx (Array.getElem?_eq_some_iff.1 h0).1 (fun e => ?_)).trans h0⟩
    rw [show lx = B8 from e, show W.heap[B8]? = _ from HSE.out] at h0; cases h0
   have hfl : ∀ s ∈ S0, s.1 ≤ 1000 ∧ s.2 < 8 := fun s hs => by
    have h := fwd_le HV.out p s ((Hq4.out s).1 hs).1
    exact ⟨by omega, h.2⟩
   have HFL := Lib.hid hfl
   have hzw : W.heap.size ≤ wz.heap.size := HTZ.out.size
   have hBW : B ≤ W.heap.size := HD.out.hB
   have hdW : d < W.heap.size := HD.out.blk.lt
   have hlw : p + 1 ≤ 10 := by omega
   clear q1 q3 q4 p1 p3 p4 hr7 hg7 hs7 hfl
   gi_wp2_with fail
   refine fshR_any HV.out (HDz.out.turn HT7.out (fun _ h => h.elim) id) (HRz.out.turn HT7.out id id id id) (HSz.out.turn HT7.out id) (HYz.out.turn HT7.out id) ⟨z3, z6, z7, z10, HI.out.ne⟩ Hp1.out (HMn.out.turn HT7.out id) HR7.out (by have := HMn.out.lt; omega) ⟨hB8.1, hB8.2, by omega, by omega⟩ HL7.out h1 hlw HFL.out hi HI.out.up.1 (Lib.hid ?_)
   rintro v12 v13 v44 v45 v46 v47 v48 v49 v50 v51 v52 v53 v54 v55 v56 v57 v58 v59 v60 v61 v62 v63 v64 v65 v66 v67 v68 v69 v70 v71 v72 v73 v74 v75 v2 w2 hF
   have HF := Lib.hid hF
   have HT2 : Hid (Turn (fun x => x = B8) wz w2) := (HT7.out.mono (S' := fun x => x = B8) fun _ h => h.elim).join hF.t (fun x h hx => by
    have h' : x = B8 ∨ x = wz.heap.size := h
    show x = B8
    omega)
   have HY2 : Hid (Blk w2 Bd 3 #[.int .i64 ((p + 1 : Nat) : Int)]) := HYz.out.turn HT2.out (fun e => HI.out.ne (show Bd = B8 from e).symm)
   have u9 : w2.cell? ⟨Bd, 0, none⟩ = some (.int .i64 ((p : Int) + 1)) := by rw [show ((p : Int) + 1) = ((p + 1 : Nat) : Int) by omega]; exact HY2.out.cell 0
   have l9' := HY2.out.lt
   have hwp : IntKind.i64.wrap ((p : Int) + 1 + 1) = (p : Int) + 1 + 1 := IntWalk.i64_in _ (by omega)
   have hst := HF.out.set.lt
   clear hF hrun u4
   gi_wp2
   have hA : Turn (fun _ => False) w2 (w2.alloc (.cells #[.int .i64 ((p : Int) + 1 + 1)] 3)) := (Turn.refl _ _).alloc _
   have hn := HN.out
   refine ⟨n - 1, by omega, _, _, _, _, _, _, _, _, _, _, _, _, _, _, _, _, _, _, _, _, _, _, _, _, _, _, _, _, _, _, _, _, _, _, _, _, _, _, _, _, _, _, _, _, _, _, _, _, _, v2, w2.heap.size, p + 1, ⟨by omega, (HTZ.out.trans HT2.out).trans (hA.mono fun _ h => h.elim), ?_, by omega, HF.out.set.turn hA id, ?_⟩, rfl⟩
   ·rw [show ((p + 1 + 1 : Nat) : Int) = (p : Int) + 1 + 1 by omega]; exact Blk.new _ _ _
   ·exact HI.out.up.step Hq4.out Hp4.out HF.out.up
  ·have hc : ¬ (p : Int) + 1 ≤ r.days := by omega
   obtain rfl : p = r.days := by have := HN.out; omega
   gi_wp2
   exact HQ.out _ _ _ _ _ _ _ _ _ _ _ _ _ _ _ _ _ _ _ _ _ _ _ _ _ _ _ _ _ _ _ _ _ _ _ _ _ _ _ _ _ _ _ _ _ _ _ _ _ _ v' wz HTZ.out HSz.out HI.out.up
end
end Go.Proofs.Ytiodmkokpfgkkaa
namespace Go.HavG
open Go.RowKit
section
variable {R : Rel} {P : Program} {ops : Array Oper}
theorem gen_in {l m : Nat} {Q : Exit → Act → World → Prop} {a0 : Act} {S : List Nat} (I : List Nat → Act → World → Prop)
  (hnd0 : ∀ (i : Nat) (o : Oper), ops[i]? = some o → ∀ c, o.op ≠ .defer c)
  (hlow : ∀ i o e, ops[i]? = some o → e ∈ o.after → Region.binds .any e = true → e.on < i)
  (τ : List Nat) (hch : chainOk (Region.before ops) τ = true) (hltτ : ∀ i ∈ τ, i < ops.size)
  (hstep : ∀ (rem : List Nat) i o a w, i ∈ rem → rem.Nodup → ops[i]? = some o → Agree ops S a0 a → (∀ j ∈ rem, ((Region.before ops).getD i 0).testBit j = false) → I rem a w →
   stepOf P ops o a w (fun a' w' => ∃ v, a' = a.put o.dst v ∧ I (rem.erase i) a' w') Q)
  (hend : ∀ a w, Agree ops S a0 a → I [] a w → wpListIn (Fence.wide.inRound l) m P ops Q (τ.filterMap (ops[·]?)) a w) :
  ∀ (n : Nat) (rem : List Nat) (listed : Array Bool) (a : Act) (w : World), rem.length = n → rem.Nodup → listed.size = ops.size → Closed ops listed → (∀ i, i < ops.size → (¬ listed.getD i false = true ↔ i ∈ rem ∨ i ∈ τ)) →
   (∀ i ∈ rem, i < ops.size) → (∀ i ∈ rem, i ∈ S) → (∀ t ∈ τ, ∀ x ∈ rem, t ≠ x ∧ ((Region.before ops).getD t 0).testBit x = true) → Agree ops S a0 a → I rem a w → wpAnyIn (Fence.wide.inRound l) m P .any ops Q (n + τ.length) listed a w := by
 intro n
 induction n with
 | zero =>
  intro rem listed a w hn _ hsz hcl hun _ _ _ hag hI
  obtain rfl : rem = [] := List.eq_nil_of_length_eq_zero hn
  rw [Nat.zero_add]
  exact tail_in hlow τ listed a w hsz hcl hch (fun i hi => by simpa using hun i hi) hltτ (hend a w hag hI)
 | succ n ih =>
  intro rem listed a w hn hnd hsz hcl hun hlt hS hτ hag hI
  have hne : Region.ready .any ops listed ≠ [] := by
   match rem, hn with
   | x :: r, _ =>
    have hx := hlt x (by simp)
    exact ready_some hsz hlow hx ((hun x hx).2 (.inl (by simp)))
  rw [show n + 1 + τ.length = (n + τ.length) + 1 by omega]
  refine ⟨fun h0 => absurd h0 hne, fun i hi => ?_⟩
  obtain ⟨h0, o, ho, _⟩ := mem_ready.1 hi
  have hil := (Array.getElem?_eq_some_iff.1 ho).1
  have hiu := (getD_false_iff (by omega)).1 h0
  have hmem : i ∈ rem := by
   rcases (hun i hil).1 hiu with h1 | h1
   ·exact h1
   ·exfalso
    match rem, hn with
    | x :: r, _ =>
     have hx := hlt x (by simp)
     exact ((hun x hx).2 (.inl (by simp))) (ready_deps hcl hi (hτ i h1 x (by simp)).2)
  have hs := hstep rem i o a w hmem hnd ho hag (fun j hj => by
   cases hb : ((Region.before ops).getD i 0).testBit j
   ·rfl
   ·exact absurd (ready_deps hcl hi hb) ((hun j (hlt j hj)).2 (.inl hj))) hI
  have next : ∀ a' w', (∃ v, a' = a.put o.dst v ∧ I (rem.erase i) a' w') → wpAnyIn (Fence.wide.inRound l) m P .any ops Q (n + τ.length) (listed.setIfInBounds i true) a' w' := by
   rintro a' w' ⟨v, rfl, hI'⟩
   refine ih (rem.erase i) _ _ w' (by rw [List.length_erase_of_mem hmem]; omega) (hnd.erase i) (by simpa using hsz) (hcl.step hi) (fun k hk => ?_) (fun k hk => hlt k (List.mem_of_mem_erase hk)) (fun k hk => hS k (List.mem_of_mem_erase hk)) (fun t ht x hx => hτ t ht x (List.mem_of_mem_erase hx)) (hag.put (hS i hmem) ho v) hI'
   rw [hnd.mem_erase_iff]
   by_cases hik : i = k
   ·subst hik
    rw [Array.getD_eq_getD_getElem?, Array.getElem?_setIfInBounds_self_of_lt (by omega)]
    simp only [Option.getD_some, not_true_eq_false, ne_eq, false_and, false_or, false_iff]
    exact fun h1 => (hτ i h1 i hmem).1 rfl
   ·rw [getD_set_ne false hik, hun k hk]
    simp [Ne.symm hik]
  unfold wpOpIn
  simp only [ho]
  unfold stepOf at hs
  split
  ·rename_i hw
   rw [if_pos hw] at hs
   exact Oper.wpIn_mono next (Hav.oper_in (hnd0 _ o ho) hs)
  ·rename_i hw
   rw [if_neg hw] at hs
   exact ⟨fun _ _ => trivial, next _ _ hs⟩
theorem wpIn_region_gen {l m : Nat} {Q : Exit → Act → World → Prop} (I : List Nat → Act → World → Prop) (rem τ : List Nat) {id : Nat} {a : Act} {w : World} (hm : P.follows .mixedOrders = true) (hnd : Hav.noDefer ops = true) (hok : genOk ops rem τ = true)
  (h0 : I rem a { w with drawn := w.drawn + 1 })
  (hstep : ∀ (rem2 : List Nat) i o a' w', i ∈ rem2 → rem2.Nodup → ops[i]? = some o → Agree ops rem a a' → (∀ j ∈ rem2, ((Region.before ops).getD i 0).testBit j = false) → I rem2 a' w' →
   stepOf P ops o a' w' (fun a'' w'' => ∃ v, a'' = a'.put o.dst v ∧ I (rem2.erase i) a'' w'') Q)
  (hend : ∀ a' w', Agree ops rem a a' → I [] a' w' → wpListIn (Fence.wide.inRound l) m P ops Q (τ.filterMap (ops[·]?)) a' w') : (Code.region id ops true).wpIn (Fence.wide.inRound l) m P Q a w := by
 simp only [genOk, Bool.and_eq_true, List.all_eq_true, List.mem_range, Bool.or_eq_true, beq_iff_eq, decide_eq_true_eq, bne_iff_ne, List.contains_iff_mem] at hok
 obtain ⟨c1, c2, c3, c4, c5, c6, c7, c8⟩ := hok
 have hlow : ∀ i o e, ops[i]? = some o → e ∈ o.after → Region.binds .any e = true → e.on < i := fun i o e ho he hb => by
  have h1 := c8 i (Array.getElem?_eq_some_iff.1 ho).1
  simp only [ho, Array.all_eq_true_iff_forall_mem, Bool.or_eq_true, Bool.not_eq_true', decide_eq_true_eq] at h1
  exact (h1 e he).resolve_left (by simp [hb])
 refine wpIn_region_any hm ?_
 rw [← c7]
 have hr : ∀ i, ¬ (Array.replicate (rem.length + τ.length) false).getD i false = true := fun i => by
  simp [Array.getD_eq_getD_getElem?, Array.getElem?_replicate]
  split <;> rfl
 refine gen_in (a0 := a) (S := rem) I (Hav.noDefer_spec hnd) hlow τ c1 c2 hstep hend rem.length rem _ a _ rfl c6 (by simp [c7]) ?_ (fun i hi => ⟨fun _ => c4 i hi, fun _ => hr i⟩) c3 (fun i hi => hi) (fun t ht x hx => c5 t ht x hx) ⟨rfl, rfl, fun _ _ => rfl⟩ h0
 intro i o e _ hl
 simp [Array.getD_eq_getD_getElem?, Array.getElem?_replicate] at hl
 split at hl <;> simp at hl
theorem wpIn_region_tab {l m : Nat} {Q : Exit → Act → World → Prop} (Φ : Nat → Value → World → Prop) (ds τ : List Nat) {id : Nat} {a : Act} {w : World} (hm : P.follows .mixedOrders = true) (hnd : Hav.noDefer ops = true) (hok : tabOk ops ds τ = true)
  (hsz : (ds.all fun d => decide (d < a.tmps.size)) = true) (hst : ∀ i v w w', Φ i v w → R.G w w' → Φ i v w')
  (hstep : ∀ i, i < ds.length → ∀ o a' w', ops[i]? = some o → Agree ops (List.range ds.length) a a' → R.G w w' → (∀ j d, ((Region.before ops).getD i 0).testBit j = true → ds[j]? = some d → Φ j (slot a' d) w') →
   stepOf P ops o a' w' (fun a'' w'' => ∃ v, a'' = a'.put o.dst v ∧ R.G w' w'' ∧ Φ i v w'') Q)
  (hend : ∀ (f : Nat → Value) w', R.G w w' → (∀ i d, ds[i]? = some d → Φ i (f d) w') → wpListIn (Fence.wide.inRound l) m P ops Q (τ.filterMap (ops[·]?)) (puts f ds a) w') : (Code.region id ops true).wpIn (Fence.wide.inRound l) m P Q a w := by
 simp only [tabOk, Bool.and_eq_true, decide_eq_true_eq] at hok
 obtain ⟨k1, k2, k3⟩ := hok
 have hdst : ∀ i o, i < ds.length → ops[i]? = some o → o.dst = ds[i]? := fun i o hi ho => by
  have := List.all_eq_true.1 k2 i (List.mem_range.2 hi)
  rw [ho] at this
  simpa using this
 refine wpIn_region_gen (P := P) (fun rem a' w' => R.G w w' ∧ a'.tmps.size = a.tmps.size ∧ (∀ i ∈ rem, i < ds.length) ∧ ∀ i d, ds[i]? = some d → i ∉ rem → Φ i (slot a' d) w') (List.range ds.length) τ hm hnd k1
  ⟨R.drew w, rfl, fun i hi => List.mem_range.1 hi, fun i d hd hn => absurd (List.mem_range.2 (List.getElem?_eq_some_iff.1 hd).1) hn⟩ ?_ ?_
 ·rintro rem i o a' w' hmem hnd ho hag hdep ⟨hg, hs, hlt, hf⟩
  have hil := hlt i hmem
  obtain ⟨d, hd⟩ : ∃ d, ds[i]? = some d := ⟨_, List.getElem?_eq_getElem hil⟩
  have hod := (hdst i o hil ho).trans hd
  have h := hstep i hil o a' w' ho hag hg (fun j dj hj hdj => hf j dj hdj (fun hm => by have := hdep j hm; rw [this] at hj; cases hj))
  have next : ∀ a'' w'', (∃ v, a'' = a'.put o.dst v ∧ R.G w' w'' ∧ Φ i v w'') → ∃ v, a'' = a'.put o.dst v ∧ R.G w w'' ∧ a''.tmps.size = a.tmps.size ∧ (∀ k ∈ rem.erase i, k < ds.length) ∧ ∀ k dk, ds[k]? = some dk → k ∉ rem.erase i → Φ k (slot a'' dk) w'' := by
   rintro a'' w'' ⟨v, rfl, hg2, hphi⟩
   refine ⟨v, rfl, R.trans hg hg2, by rw [hod]; simp [Act.put, hs], fun k hk => hlt k (List.mem_of_mem_erase hk), fun k dk hdk hk => ?_⟩
   by_cases e : k = i
   ·subst e
    have : dk = d := by rw [hd] at hdk; exact (Option.some.inj hdk).symm
    subst this
    rw [hod, slot_self]
    ·exact hphi
    ·rw [hs]
     exact of_decide_eq_true (List.all_eq_true.1 hsz dk (List.mem_of_getElem? hd))
   ·have hne : dk ≠ d := fun he => e (by
     subst he
     exact (List.getElem?_inj (List.getElem?_eq_some_iff.1 hdk).1 k3).1 (hdk.trans hd.symm))
    rw [hod, slot_put _ (by simpa using fun h => hne h.symm)]
    exact hst k _ _ _ (hf k dk hdk (fun hm => hk (hnd.mem_erase_iff.2 ⟨e, hm⟩))) hg2
  unfold stepOf at h ⊢
  split
  ·rename_i hw
   rw [if_pos hw] at h
   exact Oper.wp_mono next h
  ·rename_i hw
   rw [if_neg hw] at h
   exact next _ _ h
 ·rintro a' w' hag ⟨hg, hs, _, hf⟩
  have he := agree_puts hag ds (by
   rw [List.all_eq_true]
   intro i hi
   have hil := List.mem_range.1 hi
   cases ho : ops[i]? with
   | none => rfl
   | some o =>
    obtain ⟨d, hd⟩ : ∃ d, ds[i]? = some d := ⟨_, List.getElem?_eq_getElem hil⟩
    have hod := (hdst i o hil ho).trans hd
    simp only [hod]
    simpa using List.mem_of_getElem? hd)
  rw [he]
  exact hend (slot a') w' hg (fun i d hd => hf i d hd (by simp))
end
end Go.HavG
namespace Go.Proofs.Ytiodmkokpfgkkaa
open Go.RowKit Go.Hav Go.Shelf Go.Sq
attribute [local go_sem] Oper.semAt_some
/-- The set has got the days with which the fresh comes, of the first n falls. -/
def FallBits (r : Riv) (looks i : Nat) (F : List Nat) (n v : Nat) : Prop := v < 2048 ∧ ∀ E, v.testBit E = true ↔ ∃ j b day, j < n ∧ F[j]? = some b ∧ E = day + 1 ∧ day < r.days ∧ Comes r looks i b day
theorem FallBits.step {r : Riv} {looks i n v v' b : Nat} {F : List Nat} (h : FallBits r looks i F n v) (hb : F[n]? = some b) (g : DayBits r looks i b v v' r.days) : FallBits r looks i F (n + 1) v' := by
 refine ⟨g.1, fun E => ?_⟩
 rw [g.2 E, h.2 E]
 constructor
 ·rintro (⟨j, c, day, h1, h2, h3⟩ | ⟨day, h1, h2, h3⟩)
  ·exact ⟨j, c, day, by omega, h2, h3⟩
  ·exact ⟨n, b, day, by omega, hb, h1, h2, h3⟩
 ·rintro ⟨j, c, day, h1, h2, h3⟩
  by_cases e : j = n
  ·subst e
   rw [hb] at h2
   cases h2
   exact .inr ⟨day, h3⟩
  ·exact .inl ⟨j, c, day, by omega, h2, h3⟩
theorem fresh_of {r : Riv} (hv : r.Good) {i : Nat} (hi : i < r.fr.length) {v : Nat} (h : FallBits r (full r.lk.length) i (fallsL r (full r.lk.length)) (fallsL r (full r.lk.length)).length v) : v = freshP r i := by
 have hr : FrOk r := fun f hf => ⟨(hv.fr f hf).1, (hv.fr f hf).2.1, (hv.fr f hf).2.2.2.2.2.1⟩
 have hl : LkOk r := fun f hf => (hv.lk f hf).1
 have hdays : ∀ f ∈ r.fr, f.days.hi ≤ r.days := fun f hf => (hv.fr f hf).2.2.1
 refine Nat.eq_of_testBit_eq fun E => ?_
 rw [Bool.eq_iff_iff, h.2 E, fresh_days hr hl hdays hi]
 constructor
 ·rintro ⟨j, b, day, _, h2, h3, h4, h5⟩
  obtain ⟨b1, b2, _⟩ := (mem_fallsL hv.f1).1 (List.mem_of_getElem? h2)
  exact ⟨day, h3, h4, b, b1, b2, h5⟩
 ·rintro ⟨day, h3, h4, b, b1, b2, h5⟩
  have hb : b ∈ fallsL r (full r.lk.length) := by
   refine (mem_fallsL hv.f1).2 ⟨b1, b2, ?_⟩
   obtain ⟨s, x, q1, _⟩ := h5
   obtain ⟨d, ds, rs, q2, _⟩ := (allS_iff hr (by omega)).1 q1
   exact ⟨_, (allS_iff hr (Nat.zero_le _)).2 ⟨d, ds, rs, q2, tells_tellS r b 0 d ds rs⟩⟩
  obtain ⟨j, hj⟩ := List.getElem?_of_mem hb
  exact ⟨j, b, day, (List.getElem?_eq_some_iff.1 hj).1, hj, h3, h4, h5⟩
/-- What the operations leave that make a run's place in Fresh. -/
def frT (r : Riv) (k N y looks : Nat) (gp : Value) : Nat → Value → World → Prop
 | 0, v, _ => v = gp
 | 1, v, _ => v = .int .i64 y
 | 2, v, _ => v = gp
 | 3, v, _ => v = .int .u64 looks
 | 4, v, _ => v = .agg #[.int .i64 y, .int .u64 looks]
 | 5, v, w => RunAt k r y looks v w
 | 6, v, w => ∃ g, v = .pointer (some ⟨g, 0, none⟩) ∧ N ≤ g ∧ Blk w g 93 (runC fun _ => none)
 | _, _, _ => True
theorem frT_keep {r : Riv} {k N y looks : Nat} {gp : Value} (hk : k < N) (i : Nat) (v : Value) (w w' : World) (h : frT r k N y looks gp i v w) (g : (GK k r).G w w') : frT r k N y looks gp i v w' :=
 match i, h with
 | 0, h => h
 | 1, h => h
 | 2, h => h
 | 3, h => h
 | 4, h => h
 | 5, ⟨ms, e, h⟩ => ⟨ms, e, h.gk g⟩
 | 6, ⟨b, e, hb, h⟩ => ⟨b, e, hb, GK.blk g h (by omega)⟩
 | _ + 7, _ => trivial
section
variable {fa la : Option Addr} {fl fc ll lc : Nat} {r : IRiv} {w : World}
set_option maxRecDepth 100000 in
set_option maxHeartbeats 1600000 in
theorem PFresh_ok (i : Nat) (hP : RvIn w w.heap.size fa fl la ll r) (hv : okR r = true) (hi : isFrB r i = true) (ht : truthsA r.nat ≠ []) :
  Calls Try.prog 18 #[(.agg #[.int .i64 r.depth.lo, .int .i64 r.depth.hi, .int .i64 r.fall.lo, .int .i64 r.fall.hi, .int .i64 r.days, .slice fa fl fc, .slice la ll lc]), .int .i64 i] w fun e w' => e = .returned (.tuple #[.int .i64 (freshV r i), .int .i64 (freshE r i)]) ∧ Below w.heap.size w w' := by
 obtain ⟨s, hs⟩ : ∃ s, s = freshP r.nat i := ⟨_, rfl⟩
 obtain ⟨fresh, hfresh⟩ : ∃ fresh : Int, fresh = i := ⟨_, rfl⟩
 have hE2 : freshE r i = 0 := toldE_fine hv hi ht
 have HR : Hid (Value.tuple #[.int .i64 (freshV r i), .int .i64 (freshE r i)] = .tuple #[.int .i64 s, .int .i64 0]) := by
  show _ = _
  unfold freshV
  rw [if_pos hE2, hE2, hs]
  rfl
 have HII : Hid (i < r.nat.fr.length) := by
  have := inB_iff.1 hi
  show i < (r.fr.map (·.nat)).length
  rw [List.length_map]
  omega
 have hi3 : i < 3 := by have := (good_of hv).fl; have := HII.out; omega
 have HSS := Lib.hid hs
 have HP := Lib.hid hP
 have HV := Lib.hid hv
 have HGD : Hid (r.nat.Good) := good_of hv
 have HFL0 : Hid (r.fr.length = fl) := hP.efl
 have HI : Hid (isFrB r fresh = true) := by rw [hfresh]; exact hi
 have HFE := Lib.hid hfresh
 have HC : Hid (canB r.nat (full r.nat.lk.length) = true) := by show _ = _; rw [can_of hv]; simp [ht]
 have hfu := full_lt32 (good_of hv).ll
 rw [← hfresh]
 have EG := Lib.hid (enters_of Try.func61 (by kernel_rfl) rfl)
 have EG60 := Lib.hid (enters_of Try.func60 (by kernel_rfl) rfl)
 rw [← hfresh] at HR
 clear hP hv hi ht hE2 hs hfresh
 refine (callsIn_wide (n := 6)).1 (callsIn_of_wp_marks Try.func18 rfl trivial ?_ rfl)
 simp only [Try.ntmps18, List.size_toArray, List.length_cons, List.length_nil, Nat.reduceAdd, Nat.reduceSub, Array.replicate_succ, Array.replicate_zero, List.push_toArray, List.append_toArray, List.nil_append, List.cons_append]
 refine wpIn_wide.2 ?_
 have hmf : ∀ (fn : Fn) (first cap : Array Value) (w : World), (Instr.makeFunc fn first cap).run Try.prog w = .ok (.func fn first cap) w := fun _ _ _ _ => rfl
 go_upto_region 2 with (fail)
 obtain ⟨W, hW⟩ : ∃ W, W = ((w.alloc (.cells #[.int .i64 r.depth.lo, .int .i64 r.depth.hi, .int .i64 r.fall.lo, .int .i64 r.fall.hi, .int .i64 r.days, .slice fa fl fc, .slice la ll lc] 27)).alloc (.cells #[.int .i64 fresh] 3)).alloc (.cells #[.int .i64 0] 30) := ⟨_, rfl⟩
 obtain ⟨B2, hB2⟩ : ∃ B2, B2 = w.heap.size := ⟨_, rfl⟩
 obtain ⟨B3, hB3⟩ : ∃ B3, B3 = w.heap.size + 1 := ⟨_, rfl⟩
 obtain ⟨B5, hB5⟩ : ∃ B5, B5 = w.heap.size + 1 + 1 := ⟨_, rfl⟩
 have HB0 : Hid (Below w.heap.size w W) := by rw [hW]; exact (((Below.refl _ _).alloc (Nat.le_refl _) _).alloc (by simp) _).alloc (by simp; omega) _
 have HXB : Hid (Blk W B2 27 #[.int .i64 r.depth.lo, .int .i64 r.depth.hi, .int .i64 r.fall.lo, .int .i64 r.fall.hi, .int .i64 r.days, .slice fa fl fc, .slice la ll lc]) := by rw [hW, hB2]; exact ((Blk.new w 27 _).alloc _).alloc _
 have HX3 : Hid (Blk W B3 3 #[.int .i64 fresh]) := by rw [hW, hB3]; exact (Blk.new_ (by simp) 3 _).alloc _
 have HX5 : Hid (Blk W B5 30 #[.int .i64 0]) := by rw [hW, hB5]; exact Blk.new_ (by simp) 30 _
 have HE : Hid (w.heap.size ≤ B5 ∧ w.heap.size ≤ W.heap.size ∧ B5 < W.heap.size ∧ B3 < W.heap.size ∧ w.heap.size ≤ B3) := ⟨by omega, HB0.out.size, HX5.out.lt, HX3.out.lt, by omega⟩
 rw [← hW, ← hB5, ← hB3, ← hB2]
 clear hW hB2 hB3 hB5
 have q0 := HXB.out.cell 0
 have q1 := HXB.out.cell 1
 have q2 := HXB.out.cell 2
 have q3 := HXB.out.cell 3
 have q4 := HXB.out.cell 4
 have q5 := HXB.out.cell 5
 have q6 := HXB.out.cell 6
 have ql := HXB.out.lt
 simp at q0 q1 q2 q3 q4 q5 q6
 go_wp2_with fail
 refine (open_ok 61 #[.pointer (some ⟨B3, 0, none⟩)] EG.out (HP.out.grow HB0.out) (fun hv => by have := isG_fresh (fa := fa) (fl := fl) (fc := fc) (la := la) (ll := ll) (lc := lc) hv HFL0.out B3 fresh HX3.out; rwa [HI.out] at this) HV.out).mono ?_
 rintro e w1 ⟨d, k, rfl, hD, hK, hb0⟩
 have HB1 : Hid (Below W.heap.size W w1) := hb0
 have HD1 := Lib.hid hD
 have HK1 := Lib.hid hK
 clear hD hK hb0 q0 q1 q2 q3 q4 q5 q6 ql
 go_wp2_with fail
 refine (told_yes HGD.out HC.out w1 HD1.out HK1.out).mono ?_
 rintro e w2 ⟨rfl, hk2, hg2⟩
 have hkW : W.heap.size ≤ k := HD1.out.hk
 have HB2 : Hid (Below W.heap.size W w2) := HB1.out.trans ((Turn.of_grownK hg2).below HB1.out.size (fun b e => by have e' : b = k := e; rw [e']; exact hkW))
 have HD2 := Lib.hid (HD1.out.turn (Turn.of_grownK hg2) (fun b e => by have e' : b = k := e; rw [e']; exact hkW) (fun e => HD1.out.kd (show d = k from e).symm))
 have HK2 := Lib.hid hk2
 have hkw : k < w2.heap.size := by obtain ⟨o, ho, _⟩ := hk2.lt; exact (Array.getElem?_eq_some_iff.1 ho).1
 have hdw : d < w2.heap.size := HD2.out.blk.lt
 clear hk2 hg2
 obtain ⟨B6, hB6⟩ : ∃ B6, B6 = w2.heap.size := ⟨_, rfl⟩
 obtain ⟨B7, hB7⟩ : ∃ B7, B7 = w2.heap.size + 1 := ⟨_, rfl⟩
 obtain ⟨B8, hB8⟩ : ∃ B8, B8 = w2.heap.size + 1 + 1 := ⟨_, rfl⟩
 obtain ⟨wz, hwz⟩ : ∃ wz, wz = ((w2.alloc (.cells #[(.pointer (some ⟨d, 0, none⟩))] 70)).alloc (.cells #[.func (.func 63) #[] #[]] 88)).alloc (.cells #[.int .i64 0] 3) := ⟨_, rfl⟩
 have HBZ : Hid (Below w2.heap.size w2 wz) := by rw [hwz]; exact (((Below.refl _ _).alloc (Nat.le_refl _) _).alloc (by simp) _).alloc (by simp; omega) _
 have HX6 : Hid (Blk wz B6 70 #[(.pointer (some ⟨d, 0, none⟩))]) := by rw [hwz, hB6]; exact ((Blk.new w2 70 _).alloc _).alloc _
 have HX7 : Hid (Blk wz B7 88 #[.func (.func 63) #[] #[]]) := by rw [hwz, hB7]; exact (Blk.new_ (by simp) 88 _).alloc _
 have HX8 : Hid (Blk wz B8 3 #[.int .i64 0]) := by rw [hwz, hB8]; exact Blk.new_ (by simp) 3 _
 have hsz : wz.heap.size = B6 + 3 := by rw [hwz, hB6]; simp
 have HEE : Hid (B6 = w2.heap.size ∧ B7 = B6 + 1 ∧ B8 = B6 + 2) := ⟨hB6, by omega, by omega⟩
 go_upto_region 4 with (fail)
 rw [← hwz, ← hB8, ← hB7, ← hB6]
 have HSZ := Lib.hid hsz
 have u6 : wz.cell? ⟨B6, 0, none⟩ = some (.pointer (some ⟨d, 0, none⟩)) := HX6.out.cell 0
 have m6 := HX6.out.lt
 clear hwz hB6 hB7 hB8 hsz
 have HDZ := Lib.hid (HD2.out.grow HBZ.out)
 go_wp2_with fail
 refine HavG.wp_region_havoc (R := RelB) [(0,false),(1,false),(2,false)] [3] (fun _ _ => False) (by kernel_rfl) (by kernel_rfl) (fun _ _ _ _ h => h.elim) ?_
 (apply HavG.hav_same (by simp only [List.getElem?_toArray, List.getElem?_cons_zero]; rfl) (by kernel_rfl); (focus (intro wv hgv _; have hcv : ∀ b o, b < _ → wv.cell? ⟨b, o, none⟩ = _ := fun b o hb => Below.cell hgv (p := ⟨b, o, none⟩) hb; (try go_simp); try rfl; done)); simp only [Act.put, List.setIfInBounds_toArray, List.set_cons_succ, List.set_cons_zero])
 (apply HavG.hav_same (by simp only [List.getElem?_toArray, List.getElem?_cons_succ, List.getElem?_cons_zero]; rfl) (by kernel_rfl); (focus (intro wv hgv _; have hcv : ∀ b o, b < _ → wv.cell? ⟨b, o, none⟩ = _ := fun b o hb => Below.cell hgv (p := ⟨b, o, none⟩) hb; (try go_simp); try rfl; done)); simp only [Act.put, List.setIfInBounds_toArray, List.set_cons_succ, List.set_cons_zero])
 (apply HavG.hav_call (by simp only [List.getElem?_toArray, List.getElem?_cons_succ, List.getElem?_cons_zero]; rfl) (by kernel_rfl); (focus (intro wv; go_simp; try exact ⟨rfl, rfl⟩; done)); (focus (intro wv hgv _; refine (every_any HGD.out wv (HDZ.out.grow hgv)).mono ?_; rintro e w' ⟨rfl, rfl⟩; exact ⟨rfl, RelB.refl _⟩; done)); simp only [Act.put, List.setIfInBounds_toArray, List.set_cons_succ, List.set_cons_zero])
 refine HavG.hav_end (fun wy hgy _ => ?_)
 simp only [List.filterMap]
 have HBV : Hid (Below wz.heap.size wz wy) := hgy
 obtain ⟨W2, hW2⟩ : ∃ W2, W2 = (wy.alloc (.cells #[(.pointer (some ⟨d, 0, none⟩))] 70)).alloc (.cells #[.int .u64 (full r.nat.lk.length)] 82) := ⟨_, rfl⟩
 have HBY : Hid (Below wz.heap.size wz W2) := by rw [hW2]; exact (HBV.out.alloc HBV.out.size _).alloc (by have := HBV.out.size; simp; omega) _
 have hs2 : W2.heap.size = wy.heap.size + 2 := by rw [hW2]; simp
 have HXg : Hid (Blk W2 wy.heap.size 70 #[(.pointer (some ⟨d, 0, none⟩))]) := by rw [hW2]; exact (Blk.new_ rfl 70 _).alloc _
 have HXl : Hid (Blk W2 (wy.heap.size + 1) 82 #[.int .u64 (full r.nat.lk.length)]) := by rw [hW2]; exact Blk.new_ (by simp) 82 _
 clear hgy u6 m6
 go_wp2_with fail
 refine (falls_any (d := d) (full r.nat.lk.length) wy).mono ?_
 rw [← hW2]
 rintro e wx ⟨rfl, hwx⟩
 obtain rfl : W2 = wx := hwx.symm
 have heg : ∀ args w, (callFunc 102 args).run Try.prog w = .ok (.enter 102 args) w := enters_of Try.func102 (by kernel_rfl) rfl
 have HEG := Lib.hid heg
 have HSEQ := Lib.hid (falls_seq (B := W.heap.size) (d := d) (k := k) (fa := fa) (fl := fl) (fc := fc) (la := la) (ll := ll) (lc := lc) HGD.out (full r.nat.lk.length) hfu wy.heap.size (wy.heap.size + 1))
 obtain ⟨F, hF⟩ : ∃ F, F = fallsL r.nat (full r.nat.lk.length) := ⟨_, rfl⟩
 rw [← hF] at HSEQ
 have HFL : Hid (F.length ≤ 3) := by show F.length ≤ 3; rw [hF]; exact fallsL_len HGD.out _
 have HFB : Hid (∀ b ∈ F, b < 1000) := fun b hb => by
  rw [hF] at hb
  have := ((mem_fallsL HGD.out.f1).1 hb).2.1
  have := HGD.out.f2
  omega
 have HFIN : Hid (∀ v, FallBits r.nat (full r.nat.lk.length) i F F.length v → v = s) := fun v h => by rw [HSS.out]; rw [hF] at h; exact fresh_of HGD.out HII.out h
 have HBW : Hid (Below W.heap.size W W2) := HB2.out.trans ((HBZ.out.trans (HBY.out.mono HBZ.out.size)).mono HB2.out.size)
 have HD3 := Lib.hid (HDZ.out.grow HBY.out)
 have HK3 := Lib.hid ((HK2.out.below HBZ.out).below HBY.out)
 have HY6 : Hid (Blk W2 B6 70 #[(.pointer (some ⟨d, 0, none⟩))]) := HX6.out.below HBY.out HX6.out.lt
 have HY7 : Hid (Blk W2 B7 88 #[.func (.func 63) #[] #[]]) := HX7.out.below HBY.out HX7.out.lt
 have HY8 : Hid (Blk W2 B8 3 #[.int .i64 0]) := HX8.out.below HBY.out HX8.out.lt
 have HY3 : Hid (Blk W2 B3 3 #[.int .i64 fresh]) := HX3.out.below HBW.out HX3.out.lt
 have HY5 : Hid (Blk W2 B5 30 #[.int .i64 0]) := HX5.out.below HBW.out HX5.out.lt
 have HQQ : Hid (wz.heap.size = B6 + 3 ∧ wz.heap.size ≤ wy.heap.size ∧ W2.heap.size = wy.heap.size + 2 ∧ k < B6 ∧ d < B6 ∧ B3 < W.heap.size ∧ B5 < W.heap.size ∧ W.heap.size ≤ B6 ∧ W.heap.size ≤ k ∧ B7 = B6 + 1 ∧ B8 = B6 + 2 ∧ W.heap.size ≤ d) := by
  have h1 := HE.out
  have h2 := HB2.out.size
  have h3 := HEE.out
  have h4 := HSZ.out
  have h5 := HBV.out.size
  have h6 := HD1.out.hd
  refine ⟨h4, h5, hs2, by omega, by omega, h1.2.2.2.1, h1.2.2.1, by omega, hkW, h3.2.1, h3.2.2, h6⟩
 clear hW2 hs2 heg hF hwx
 go_wp2_with fail
 refine wpIn_wide.1 (wpIn_rangeK_slots (n := 6) rfl HEG.out HSEQ.out (keepsRec_K k r.nat) (fun x hx => by obtain ⟨y, _, rfl⟩ := List.mem_map.1 hx; rfl) (fun x => x = k ∨ x = B8 ∨ W2.heap.size + 2 ≤ x)
  (fun e => by have := HQQ.out; have e' : _ = _ ∨ _ = _ ∨ _ ≤ _ := e; omega) (fun e => by have := HQQ.out; have e' : _ = _ ∨ _ = _ ∨ _ ≤ _ := e; omega)
  (fun rec => ⟨(HXg.out.alloc _).alloc _, (HXl.out.alloc _).alloc _, (HD3.out.grow (((Below.refl _ _).alloc (Nat.le_refl _) _).alloc (by simp) _)), fun e => by have := HQQ.out; have e' : (_ = _ ∨ _ = _ ∨ _ ≤ _) ∨ _ = _ := e; omega, fun e => by have := HQQ.out; have e' : (_ = _ ∨ _ = _ ∨ _ ≤ _) ∨ _ = _ := e; omega, fun e => by have := HQQ.out; have := HD1.out.kd; have e' : (_ = _ ∨ _ = _ ∨ _ ≤ _) ∨ _ = _ := e; omega, fun b e => by have := HQQ.out; have e' : (_ = _ ∨ _ = _ ∨ _ ≤ _) ∨ _ = _ := e; omega⟩)
  (fun n Xw => (Turn (fun x => x = k ∨ x = B8 ∨ W2.heap.size + 2 ≤ x) W2 Xw ∧ KeptOK Xw k r.nat) ∧ ∃ (v : Nat), Blk Xw B8 3 #[.int .i64 (v : Int)] ∧ FallBits r.nat (full r.nat.lk.length) i F n v) (fun _ _ => False)
  (fun n => ((own_turnK (S := fun x => x = k ∨ x = B8 ∨ W2.heap.size + 2 ≤ x) (W := W2) (Nat.le_refl _) (.inl rfl)).and (own_kept W2.heap.size k r.nat)).and (OwnT.ex fun v => (own_ltK (l := B8) (by have := HQQ.out; omega)).and (OwnT.pure _ _ _ _))) (fun cd => OwnT.pure _ _ _ False)
  (fun n X h => h.1.2)
  ⟨⟨Turn.refl _ _, HK3.out⟩, 0, HY8.out, by omega, fun E => ⟨fun h => by simp at h, fun ⟨j, _, _, h, _⟩ => by omega⟩⟩
  (fun n (_ : Unit) T => (T.setIfInBounds 23 (.int .i64 ((F[n]?.getD 0 : Nat) : Int))).setIfInBounds 9 (.int .i64 ((F[n]?.getD 0 : Nat) : Int))) (fun n _ Xw => True) (fun _ _ => (OwnT.pure _ _ _ _))
  ?assign ?body ?done ?stop)
 case assign =>
  rintro l n xx Xw K hI hx hK
  rw [List.getElem?_map] at hx
  obtain ⟨y, hy⟩ : ∃ y, F[n]? = some y := by
   cases h : F[n]? with
   | none => rw [h] at hx; cases hx
   | some y => exact ⟨y, rfl⟩
  rw [hy] at hx hK
  obtain rfl : encB y = xx := Option.some.inj hx
  simp only [Option.getD_some] at hK
  simp only [List.setIfInBounds_toArray, List.set_cons_succ, List.set_cons_zero] at hK
  dsimp only [encB]
  have HK := Lib.hid hK
  have HI := Lib.hid hI
  clear hK hx hI
  gi_wp2
  exact HK.out () _ (Turn.refl _ Xw) HI.out trivial
 case body =>
  rintro l n xx Bx Xw hl ⟨r0, hr⟩ ⟨⟨hT, hk⟩, v, hv8, hbits⟩ _ hx
  rw [List.getElem?_map] at hx
  obtain ⟨y, hy⟩ : ∃ y, F[n]? = some y := by
   cases h : F[n]? with
   | none => rw [h] at hx; cases hx
   | some y => exact ⟨y, rfl⟩
  have HY := Lib.hid hy
  rw [hy]
  simp only [Option.getD_some]
  simp only [List.setIfInBounds_toArray, List.set_cons_succ, List.set_cons_zero]
  have HTX := Lib.hid hT
  have HKX := Lib.hid hk
  have HV8 := Lib.hid hv8
  have HBT := Lib.hid hbits
  have HQ := HQQ.out
  have hy1000 : y < 1000 := HFB.out y (List.mem_of_getElem? hy)
  have HG6 : Hid (Blk Xw B6 70 #[(.pointer (some ⟨d, 0, none⟩))]) := HY6.out.turn hT (fun e => by have e' : _ = _ ∨ _ = _ ∨ _ ≤ _ := e; omega)
  have HG7 : Hid (Blk Xw B7 88 #[.func (.func 63) #[] #[]]) := HY7.out.turn hT (fun e => by have e' : _ = _ ∨ _ = _ ∨ _ ≤ _ := e; omega)
  have HG3 : Hid (Blk Xw B3 3 #[.int .i64 fresh]) := HY3.out.turn hT (fun e => by have e' : _ = _ ∨ _ = _ ∨ _ ≤ _ := e; omega)
  have HDX : Hid (GauIn Xw W.heap.size d k fa fl fc la ll lc r.nat) := HD3.out.turn hT (fun x e => by have e' : _ = _ ∨ _ = _ ∨ _ ≤ _ := e; omega) (fun e => by have := HD1.out.kd; have e' : _ = _ ∨ _ = _ ∨ _ ≤ _ := e; omega)
  have HGV : Hid (∀ wv, (GK k r.nat).G Xw wv → GauIn wv W.heap.size d k fa fl fc la ll lc r.nat) := fun wv h => HDX.out.turn (Turn.of_grownK h.1) (fun x e => by have e' : x = k := e; omega) (fun e => HD1.out.kd (show d = k from e).symm)
  have HRUN : Hid (∀ wv, (GK k r.nat).G Xw wv → Calls Try.prog 64 #[(.pointer (some ⟨d, 0, none⟩)), .agg #[.int .i64 y, .int .u64 (full r.nat.lk.length)]] wv fun e w' => ∃ ms, e = .returned (runV ms) ∧ RunOK w' k r.nat y (full r.nat.lk.length) ms ∧ KeptOK w' k r.nat ∧ wv.grownBy w' (some k)) := fun wv h => run_any HGD.out y (full r.nat.lk.length) hy1000 hfu wv (HGV.out wv h) (h.2 HKX.out)
  have hk6 : B6 ≠ k := by omega
  have HHR := Lib.hid hr
  have HHL := Lib.hid hl
  clear hT hk hv8 hbits hy hx hr HQ
  gi_wp2
  have hkX : k < Xw.heap.size := by have := HTX.out.size; have := HQQ.out; omega
  refine HavG.wpIn_region_tab (R := GK k r.nat) (frT r.nat k Xw.heap.size y (full r.nat.lk.length) (.pointer (some ⟨d, 0, none⟩))) [24,25,26,27,28,29,10] [7] (by kernel_rfl) (by kernel_rfl) (by kernel_rfl) (by rfl) (frT_keep hkX) ?_ ?_
  ·intro i2 hi2 oo a' w' ho hag hg hd
   have HB6 := GK.blk (k := k) (r := r.nat) hg HG6.out hk6
   have v6 : w'.cell? ⟨B6, 0, none⟩ = some (.pointer (some ⟨d, 0, none⟩)) := HB6.cell 0
   have l6 := HB6.lt
   match i2, hi2, ho, hd with
   | 0, _, ho, hd =>
    (simp only [List.getElem?_toArray, List.getElem?_cons_zero, Option.some.injEq] at ho; subst ho)
    have s6 : a'.tmps.getD 6 undef = .pointer (some ⟨B6, 0, none⟩) := hag.slot 6 (by kernel_rfl)
    refine HavG.tab_val rfl ⟨_, w', ?_, (GK k r.nat).refl _, rfl⟩
    go_simp
   | 1, _, ho, hd =>
    (simp only [List.getElem?_toArray, List.getElem?_cons_succ, List.getElem?_cons_zero, Option.some.injEq] at ho; subst ho)
    have s9 : a'.tmps.getD 9 undef = .int .i64 y := hag.slot 9 (by kernel_rfl)
    refine HavG.tab_val rfl ⟨_, w', ?_, (GK k r.nat).refl _, rfl⟩
    go_simp
   | 2, _, ho, hd =>
    (simp only [List.getElem?_toArray, List.getElem?_cons_succ, List.getElem?_cons_zero, Option.some.injEq] at ho; subst ho)
    have s6 : a'.tmps.getD 6 undef = .pointer (some ⟨B6, 0, none⟩) := hag.slot 6 (by kernel_rfl)
    refine HavG.tab_val rfl ⟨_, w', ?_, (GK k r.nat).refl _, rfl⟩
    go_simp
   | 3, _, ho, hd =>
    (simp only [List.getElem?_toArray, List.getElem?_cons_succ, List.getElem?_cons_zero, Option.some.injEq] at ho; subst ho)
    have s26 : a'.tmps[26]?.getD undef = (.pointer (some ⟨d, 0, none⟩)) := by rw [← Array.getD_eq_getD_getElem?]; exact hd 2 26 (by kernel_rfl) rfl
    refine HavG.tab_call (f := 57) (args := #[(.pointer (some ⟨d, 0, none⟩))]) rfl ?_ ?_
    ·go_simp
     try exact ⟨rfl, rfl⟩
    ·refine (every_any HGD.out w' (HGV.out w' hg)).mono ?_
     rintro e w2 ⟨rfl, rfl⟩
     exact ⟨_, rfl, (GK k r.nat).refl _, rfl⟩
   | 4, _, ho, hd =>
    (simp only [List.getElem?_toArray, List.getElem?_cons_succ, List.getElem?_cons_zero, Option.some.injEq] at ho; subst ho)
    have s25 : a'.tmps[25]?.getD undef = .int .i64 y := by rw [← Array.getD_eq_getD_getElem?]; exact hd 1 25 (by kernel_rfl) rfl
    have s27 : a'.tmps[27]?.getD undef = .int .u64 (full r.nat.lk.length) := by rw [← Array.getD_eq_getD_getElem?]; exact hd 3 27 (by kernel_rfl) rfl
    refine HavG.tab_val rfl ⟨_, w', ?_, (GK k r.nat).refl _, rfl⟩
    go_simp
    try rfl
   | 5, _, ho, hd =>
    (simp only [List.getElem?_toArray, List.getElem?_cons_succ, List.getElem?_cons_zero, Option.some.injEq] at ho; subst ho)
    have s24 : a'.tmps[24]?.getD undef = (.pointer (some ⟨d, 0, none⟩)) := by rw [← Array.getD_eq_getD_getElem?]; exact hd 0 24 (by kernel_rfl) rfl
    have s28 : a'.tmps[28]?.getD undef = .agg #[.int .i64 y, .int .u64 (full r.nat.lk.length)] := by rw [← Array.getD_eq_getD_getElem?]; exact hd 4 28 (by kernel_rfl) rfl
    refine HavG.tab_call (f := 64) (args := #[(.pointer (some ⟨d, 0, none⟩)), .agg #[.int .i64 y, .int .u64 (full r.nat.lk.length)]]) rfl ?_ ?_
    ·go_simp
     try exact ⟨rfl, rfl⟩
    ·refine (HRUN.out w' hg).mono ?_
     rintro e w2 ⟨ms, rfl, h1, h2, h3⟩
     exact ⟨_, rfl, ⟨h3, fun _ => h2⟩, ms, rfl, h1⟩
   | 6, _, ho, hd =>
    (simp only [List.getElem?_toArray, List.getElem?_cons_succ, List.getElem?_cons_zero, Option.some.injEq] at ho; subst ho)
    refine HavG.tab_val rfl ⟨.pointer (some ⟨w'.heap.size, 0, none⟩), w'.alloc (.cells (runC fun _ => none) 93), ?_, ⟨(Turn.grownK (Turn.of_below ((Below.refl _ _).alloc (Nat.le_refl _) _))), fun h => h.below ((Below.refl _ _).alloc (Nat.le_refl _) _)⟩, w'.heap.size, rfl, hg.1.size, Blk.new w' 93 _⟩
    go_simp
    try rfl
  intro f w5 hg5 hf
  have h0 : f 24 = _ := hf 0 24 rfl
  have h1 : f 25 = _ := hf 1 25 rfl
  have h2 : f 26 = _ := hf 2 26 rfl
  have h3 : f 27 = _ := hf 3 27 rfl
  have h4 : f 28 = _ := hf 4 28 rfl
  obtain ⟨ms, h5, hrunok⟩ := hf 5 29 rfl
  obtain ⟨g5, h6, hgB, hz5⟩ := hf 6 10 rfl
  simp only [List.filterMap, HavG.puts, List.foldl_cons, List.foldl_nil, Act.put, List.setIfInBounds_toArray, List.set_cons_succ, List.set_cons_zero]
  rw [h0, h1, h2, h3, h4, h5, h6]
  have HGQ := Lib.hid hg5
  have HRO := Lib.hid hrunok
  have HZ5 := Lib.hid hz5
  clear h0 h1 h2 h3 h4 h5 h6 hf hg5 hrunok hz5
  have hlg := HZ5.out.lt
  have yc0 : w5.cell? ⟨g5, 0, none⟩ = some (.map ((fun _ : Nat => (none : Option Nat)) 0)) := (HZ5.out.cell 0).trans (runC_get (fun _ : Nat => (none : Option Nat)) (by omega)); have yc1 : w5.cell? ⟨g5, 1, none⟩ = some (.map ((fun _ : Nat => (none : Option Nat)) 1)) := (HZ5.out.cell 1).trans (runC_get (fun _ : Nat => (none : Option Nat)) (by omega)); have yc2 : w5.cell? ⟨g5, 2, none⟩ = some (.map ((fun _ : Nat => (none : Option Nat)) 2)) := (HZ5.out.cell 2).trans (runC_get (fun _ : Nat => (none : Option Nat)) (by omega)); have yc3 : w5.cell? ⟨g5, 3, none⟩ = some (.map ((fun _ : Nat => (none : Option Nat)) 3)) := (HZ5.out.cell 3).trans (runC_get (fun _ : Nat => (none : Option Nat)) (by omega)); have yc4 : w5.cell? ⟨g5, 4, none⟩ = some (.map ((fun _ : Nat => (none : Option Nat)) 4)) := (HZ5.out.cell 4).trans (runC_get (fun _ : Nat => (none : Option Nat)) (by omega)); have yc5 : w5.cell? ⟨g5, 5, none⟩ = some (.map ((fun _ : Nat => (none : Option Nat)) 5)) := (HZ5.out.cell 5).trans (runC_get (fun _ : Nat => (none : Option Nat)) (by omega)); have yc6 : w5.cell? ⟨g5, 6, none⟩ = some (.map ((fun _ : Nat => (none : Option Nat)) 6)) := (HZ5.out.cell 6).trans (runC_get (fun _ : Nat => (none : Option Nat)) (by omega)); have yc7 : w5.cell? ⟨g5, 7, none⟩ = some (.map ((fun _ : Nat => (none : Option Nat)) 7)) := (HZ5.out.cell 7).trans (runC_get (fun _ : Nat => (none : Option Nat)) (by omega)); have yc8 : w5.cell? ⟨g5, 8, none⟩ = some (.map ((fun _ : Nat => (none : Option Nat)) 8)) := (HZ5.out.cell 8).trans (runC_get (fun _ : Nat => (none : Option Nat)) (by omega)); have yc9 : w5.cell? ⟨g5, 9, none⟩ = some (.map ((fun _ : Nat => (none : Option Nat)) 9)) := (HZ5.out.cell 9).trans (runC_get (fun _ : Nat => (none : Option Nat)) (by omega)); have yc10 : w5.cell? ⟨g5, 10, none⟩ = some (.map ((fun _ : Nat => (none : Option Nat)) 10)) := (HZ5.out.cell 10).trans (runC_get (fun _ : Nat => (none : Option Nat)) (by omega)); have yf0 : w5.frozen? ⟨g5, 0, none⟩ = false := HZ5.out.frozen 0; have yf1 : w5.frozen? ⟨g5, 1, none⟩ = false := HZ5.out.frozen 1; have yf2 : w5.frozen? ⟨g5, 2, none⟩ = false := HZ5.out.frozen 2; have yf3 : w5.frozen? ⟨g5, 3, none⟩ = false := HZ5.out.frozen 3; have yf4 : w5.frozen? ⟨g5, 4, none⟩ = false := HZ5.out.frozen 4; have yf5 : w5.frozen? ⟨g5, 5, none⟩ = false := HZ5.out.frozen 5; have yf6 : w5.frozen? ⟨g5, 6, none⟩ = false := HZ5.out.frozen 6; have yf7 : w5.frozen? ⟨g5, 7, none⟩ = false := HZ5.out.frozen 7; have yf8 : w5.frozen? ⟨g5, 8, none⟩ = false := HZ5.out.frozen 8; have yf9 : w5.frozen? ⟨g5, 9, none⟩ = false := HZ5.out.frozen 9; have yf10 : w5.frozen? ⟨g5, 10, none⟩ = false := HZ5.out.frozen 10
  unfold runV
  gi_wp2_with fail
  obtain ⟨W7, hW7⟩ : ∃ W7, W7 = (set11 w5 g5 ms).alloc (.cells #[.int .i64 1] 3) := ⟨_, rfl⟩
  have HT5 : Hid (Turn (fun x => x = g5) w5 (set11 w5 g5 ms)) := set11_turn w5 g5 ms
  have HT7 : Hid (Turn (fun x => x = g5) w5 W7) := by rw [hW7]; exact HT5.out.alloc _
  have HA7 : Hid (Blk W7 g5 93 (runC ms)) := by rw [hW7]; exact (set11_blk HZ5.out ms).alloc _
  have hs5 : (set11 w5 g5 ms).heap.size = w5.heap.size := by simp [set11, World.setCell]
  have HD7 : Hid (Blk W7 w5.heap.size 3 #[.int .i64 1]) := by rw [hW7, ← hs5]; exact Blk.new _ 3 _
  unfold set11 at hW7
  rw [← hW7]
  have HTQ : Hid (Turn (fun x => x = k) Xw W7) := (Turn.of_grownK HGQ.out.1).join HT7.out (fun x e hx => by have e' : x = g5 := e; omega)
  have hlt : l < Xw.heap.size := (Array.getElem?_eq_some_iff.1 HHR.out).1
  have hl2 := HHL.out
  have hq1 := (Turn.of_grownK HGQ.out.1).size
  have hHQ := HQQ.out
  have hXs := HTX.out.size
  have hkg : ∀ (b : Nat) (o : Obj), b = g5 → w5.heap[b]? = some o → o.isWalk = false := fun b o e hb => by
   subst e
   rw [show w5.heap[b]? = _ from HZ5.out] at hb
   cases hb
   rfl
  have hkr : RunOK W7 k r.nat y (full r.nat.lk.length) ms := HRO.out.keep fun b o hb ho hw => (HT7.out.block b (Array.getElem?_eq_some_iff.1 ho).1 (fun e => by rw [hkg b o e ho] at hw; cases hw)).trans ho
  have HFE := HFE.out
  clear hW7
  subst HFE
  refine fshL_any HGD.out (HDX.out.turn HTQ.out (fun x e => by have e' : x = k := e; omega) (fun e => HD1.out.kd (show d = k from e).symm)) ⟨HG3.out.turn HTQ.out (fun e => by have e' : B3 = k := e; omega), HG6.out.turn HTQ.out hk6, HG7.out.turn HTQ.out (fun e => by have e' : B7 = k := e; omega), HA7.out⟩ (HV8.out.turn HTQ.out (fun e => by have e' : B8 = k := e; omega)) HD7.out ⟨by omega, by omega, by omega, by omega, by omega⟩ hkr ⟨by omega, by omega⟩ ⟨r0, (HTQ.out.block l hlt (fun e => by have e' : l = k := e; omega)).trans HHR.out⟩ hy1000 hi3 HBT.out.1 (Lib.hid ?_)
  rintro u11 u12 u13 u30 u31 u32 u33 u34 u35 u36 u37 u38 u39 u40 u41 u42 u43 u44 u45 u46 u47 u48 u49 u50 u51 u52 u53 u54 u55 u56 u57 u58 u59 u60 u61 u62 u63 u64 u65 u66 u67 u68 u69 u70 u71 u72 u73 u74 u75 u76 v' w' hT' hB' hD'
  have hAll : Turn (fun x => x = k ∨ x = B8 ∨ W2.heap.size + 2 ≤ x) Xw w' := (HTQ.out.mono fun _ h => .inl h).trans (hT'.mono fun _ h => .inr (.inl h))
  refine ⟨hAll, ⟨HTX.out.trans hAll, (((HGQ.out.2 HKX.out).turn HT7.out hkg).turn hT' (fun b o e hb => ?_))⟩, v', hB', HBT.out.step HY.out hD'⟩
  obtain rfl : b = B8 := e
  rw [show W7.heap[b]? = _ from HV8.out.turn HTQ.out (fun e => by have e' : b = k := e; omega)] at hb
  cases hb
  rfl
 case done =>
  rintro D Xw hDe ⟨⟨hT, hk⟩, vv, hv8, hbits⟩ hDD
  rw [List.length_map] at hbits
  obtain rfl := HFIN.out vv hbits
  have HT := Lib.hid hT
  have HDD := Lib.hid hDD
  have HDE := Lib.hid hDe
  have H8 := Lib.hid hv8
  have H5 : Hid (Blk Xw B5 30 #[.int .i64 0]) := HY5.out.turn hT (fun e => by have := HQQ.out; have e' : _ = _ ∨ _ = _ ∨ _ ≤ _ := e; omega)
  have c8 : Xw.cell? ⟨B8, 0, none⟩ = some (.int .i64 vv) := hv8.cell 0
  have l8 := hv8.lt
  have c2 : Xw.cell? ⟨B5, 0, none⟩ = some (.int .i64 0) := H5.out.cell 0
  have f2 := H5.out.frozen 0
  have l5 := H5.out.lt
  clear hT hk hv8 hbits hDD hDe
  go_wp2
  obtain ⟨W9, hW9⟩ : ∃ W9, W9 = Xw.setCell ⟨B5, 0, none⟩ (.int .i64 0) := ⟨_, rfl⟩
  rw [← hW9]
  have HT5 : Blk W9 B5 30 #[.int .i64 0] := by rw [hW9]; exact H5.out.set_ 0 _
  obtain ⟨e1, e2, _⟩ := HE.out
  have hXB : Below W.heap.size W Xw := HBW.out.trans (HT.out.below HBW.out.size (fun b e => by have := HQQ.out; have := HBW.out.size; have e' : b = k ∨ b = B8 ∨ W2.heap.size + 2 ≤ b := e; omega))
  have hB9 : Below w.heap.size w W9 := by rw [hW9]; exact setCell_below (HB0.out.trans (hXB.mono e2)) e1 _ _
  have hD9 : W9.heap[D]? = some (.deferred (some [])) := by
   have hd5 : D ≠ B5 := by have := HDE.out; have := HQQ.out; have := HBW.out.size; omega
   rw [hW9]
   exact (Below.heap_setCell _ ⟨B5, 0, none⟩ _ D hd5).trans HDD.out
  refine api_ret (ds := [markD D]) (B := W.heap.size) isAns60 EG60.out (Marks.cons (Marks.nil _ _) (by have := HDE.out; have := HQQ.out; have := HBW.out.size; omega) hD9 (fun l h => by cases l <;> simp at h ⊢)) (fun w4 hk hbel => ?_)
  have g2 := (hk _ _ _ HT5).cell 0
  simp at g2
  refine ⟨.tuple #[.int .i64 vv, .int .i64 0], by simp [results, Try.results18, go_sem, g2], by rw [HR.out], ?_⟩
  exact hB9.trans (hbel w.heap.size e2)
 case stop => exact fun D c W _ h _ => h.elim
theorem PFresh_any (fresh : Int) (hP : RvIn w w.heap.size fa fl la ll r) : Calls Try.prog 18 #[(.agg #[.int .i64 r.depth.lo, .int .i64 r.depth.hi, .int .i64 r.fall.lo, .int .i64 r.fall.hi, .int .i64 r.days, .slice fa fl fc, .slice la ll lc]), .int .i64 fresh] w fun e w' => e = .returned (.tuple #[.int .i64 (freshV r fresh), .int .i64 (freshE r fresh)]) ∧ Below w.heap.size w w' := by
 cases hv : okR r
 ·exact PFresh_err fresh hP (.inl hv)
 cases hi : isFrB r fresh
 ·exact PFresh_err fresh hP (.inr hi)
 by_cases ht : truthsA r.nat = []
 ·exact PFresh_clash fresh hP hv hi ht
 ·obtain ⟨n, rfl⟩ : ∃ n : Nat, fresh = n := ⟨fresh.toNat, by have := inB_iff.1 hi; omega⟩
  exact PFresh_ok n hP hv hi ht
end
end Go.Proofs.Ytiodmkokpfgkkaa
