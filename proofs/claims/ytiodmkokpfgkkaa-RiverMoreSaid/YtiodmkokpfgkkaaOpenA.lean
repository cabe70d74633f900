/- The walk of open, from its end: what is asked beside, the looks, the freshes, the head. No condition. The walk of open: the looks, the freshes, the head; what it returns for every river. No condition. How the exported functions end: the deferred answer, what it makes of a panic, and of none; marks ahead of it. Printed by gen_defer.py. No condition. A rule for a region that draws its order, where some operations only read (they may come at any time) and the others come one behind the other: these are walked world by world. Condition: the closed check 'havOk' on the region. -/
import Derived.Test.YtiodmkokpfgkkaaFallA
import Derived.Tactics
import Derived.Tactics2
import Derived.Defers
import Derived.Recover
import Derived.Laws.Pointers
import Derived.Test.YtiodmkokpfgkkaaKeptA
namespace Go.Proofs.Ytiodmkokpfgkkaa
open Go.RowKit Go.Hav Go.Shelf Go.Sq
attribute [local go_sem] Oper.semAt_some
def frI (f : IFr) : List Value := [.int .i64 f.days.lo, .int .i64 f.days.hi, .int .i64 f.rise.lo, .int .i64 f.rise.hi]
def lkI (l : ILk) : List Value := [.int .i64 l.day, .int .i64 l.dep.lo, .int .i64 l.dep.hi]
theorem frI_len (s : IFr) : (frI s).length = 4 := rfl
theorem lkI_len (s : ILk) : (lkI s).length = 3 := rfl
/-- A river that comes in. -/
structure RvIn (w : World) (B : Nat) (fa : Option Addr) (fl : Nat) (la : Option Addr) (ll : Nat) (r : IRiv) : Prop where
 efl : r.fr.length = fl
 ell : r.lk.length = ll
 hfr : RdG frI 4 w B fa r.fr
 hlk : RdG lkI 3 w B la r.lk
 mfl : fl ≤ 9223372036854775807
 mll : ll ≤ 9223372036854775807
theorem RvIn.grow {w w' : World} {fa la : Option Addr} {fl ll : Nat} {r : IRiv} (h : RvIn w w.heap.size fa fl la ll r) (hb : Below w.heap.size w w') : RvIn w' w'.heap.size fa fl la ll r :=
 { h with hfr := h.hfr.grow hb, hlk := h.hlk.grow hb }
theorem RvIn.below {w w' : World} {B : Nat} {fa la : Option Addr} {fl ll : Nat} {r : IRiv} (h : RvIn w B fa fl la ll r) (hb : Below B w w') : RvIn w' B fa fl la ll r :=
 { h with hfr := h.hfr.below hb, hlk := h.hlk.below hb }
section
variable {w : World} {B : Nat} {A : Option Addr}
theorem rd_frI {l : List IFr} (h : RdG frI 4 w B A l) (k : Nat) (c : IFr) (hc : l[k]? = some c) : ∃ b off, A = some ⟨b, off, none⟩ ∧ b < B ∧ w.cell? ⟨b, off + k * 4, none⟩ = some (.int .i64 c.days.lo) ∧ w.cell? ⟨b, off + k * 4 + 1, none⟩ = some (.int .i64 c.days.hi) ∧
  w.cell? ⟨b, off + k * 4 + 2, none⟩ = some (.int .i64 c.rise.lo) ∧ w.cell? ⟨b, off + k * 4 + 3, none⟩ = some (.int .i64 c.rise.hi) := by
 obtain ⟨b, off, e, hb, hx⟩ := h k c hc
 exact ⟨b, off, e, hb, hx 0 _ rfl, by rw [Nat.add_assoc]; exact hx 1 _ rfl, by rw [Nat.add_assoc]; exact hx 2 _ rfl, by rw [Nat.add_assoc]; exact hx 3 _ rfl⟩
theorem rd_lkI {l : List ILk} (h : RdG lkI 3 w B A l) (k : Nat) (c : ILk) (hc : l[k]? = some c) : ∃ b off, A = some ⟨b, off, none⟩ ∧ b < B ∧ w.cell? ⟨b, off + k * 3, none⟩ = some (.int .i64 c.day) ∧ w.cell? ⟨b, off + k * 3 + 1, none⟩ = some (.int .i64 c.dep.lo) ∧
  w.cell? ⟨b, off + k * 3 + 2, none⟩ = some (.int .i64 c.dep.hi) := by
 obtain ⟨b, off, e, hb, hx⟩ := h k c hc
 exact ⟨b, off, e, hb, hx 0 _ rfl, by rw [Nat.add_assoc]; exact hx 1 _ rfl, by rw [Nat.add_assoc]; exact hx 2 _ rfl⟩
/-- What is valid reads as numbers that are not negative. -/
theorem fr_nat {days : Int} {l : List IFr} (h : RdG frI 4 w B A l) (hv : l.all (frB days) = true) : RdG frF 4 w B A (l.map (·.nat)) := fun k x hx => by
 rw [List.getElem?_map] at hx
 obtain ⟨c, hc, rfl⟩ := Option.map_eq_some_iff.1 hx
 have := List.all_eq_true.1 hv c (List.mem_of_getElem? hc)
 unfold frB at this
 rw [Bool.and_eq_true] at this
 obtain ⟨h1, h2⟩ := this
 obtain ⟨a1, a2, _⟩ := spB_iff.1 h1
 obtain ⟨b1, b2, _⟩ := spB_iff.1 h2
 have e : frF c.nat = frI c := by
  unfold frF frI IFr.nat ISp.nat
  simp only
  rw [show ((c.days.lo.toNat : Nat) : Int) = c.days.lo by omega, show ((c.days.hi.toNat : Nat) : Int) = c.days.hi by omega, show ((c.rise.lo.toNat : Nat) : Int) = c.rise.lo by omega, show ((c.rise.hi.toNat : Nat) : Int) = c.rise.hi by omega]
 rw [e]
 exact h k c hc
theorem lk_nat {days : Int} {l : List ILk} (h : RdG lkI 3 w B A l) (hv : l.all (lkB days) = true) : RdG lkF 3 w B A (l.map (·.nat)) := fun k x hx => by
 rw [List.getElem?_map] at hx
 obtain ⟨c, hc, rfl⟩ := Option.map_eq_some_iff.1 hx
 have := List.all_eq_true.1 hv c (List.mem_of_getElem? hc)
 unfold lkB at this
 rw [Bool.and_eq_true] at this
 obtain ⟨h1, h2⟩ := this
 have a1 := inB_iff.1 h1
 obtain ⟨b1, b2, _⟩ := spB_iff.1 h2
 have e : lkF c.nat = lkI c := by
  unfold lkF lkI ILk.nat ISp.nat
  simp only
  rw [show ((c.day.toNat : Nat) : Int) = c.day by omega, show ((c.dep.lo.toNat : Nat) : Int) = c.dep.lo by omega, show ((c.dep.hi.toNat : Nat) : Int) = c.dep.hi by omega]
 rw [e]
 exact h k c hc
end
theorem okR_parts {r : IRiv} (h : okR r = true) : (spB r.depth 0 60 4 = true ∧ spB r.fall 0 5 2 = true ∧ inB r.days 1 10 = true ∧ r.fr.length ≤ 3 ∧ r.lk.length ≤ 5) ∧ r.fr.all (frB r.days) = true ∧ r.lk.all (lkB r.days) = true := by
 unfold okR headB at h
 simp only [Bool.and_eq_true, decide_eq_true_eq] at h
 obtain ⟨⟨⟨⟨⟨⟨h1, h2⟩, h3⟩, h4⟩, h5⟩, h6⟩, h7⟩ := h
 exact ⟨⟨h1, h2, h3, h4, h5⟩, h6, h7⟩
/-- What is valid is good. -/
theorem good_of {r : IRiv} (h : okR r = true) : r.nat.Good := by
 obtain ⟨⟨h1, h2, h3, h4, h5⟩, h6, h7⟩ := okR_parts h
 obtain ⟨a1, a2, a3, a4⟩ := spB_iff.1 h1
 obtain ⟨b1, b2, b3, b4⟩ := spB_iff.1 h2
 have c1 := inB_iff.1 h3
 refine ⟨?_, ?_, ?_, ?_, ?_, ?_, ?_, ?_, ?_, ?_, fun f hf => ?_, fun l hl => ?_⟩
 ·simp only [IRiv.nat, ISp.nat]; omega
 ·simp only [IRiv.nat, ISp.nat]; omega
 ·simp only [IRiv.nat, ISp.nat]; omega
 ·simp only [IRiv.nat, ISp.nat]; omega
 ·simp only [IRiv.nat, ISp.nat]; omega
 ·simp only [IRiv.nat, ISp.nat]; omega
 ·simp only [IRiv.nat]; omega
 ·simp only [IRiv.nat]; omega
 ·simp only [IRiv.nat, List.length_map]; exact h4
 ·simp only [IRiv.nat, List.length_map]; exact h5
 ·simp only [IRiv.nat, List.mem_map] at hf
  obtain ⟨c, hc, rfl⟩ := hf
  have := List.all_eq_true.1 h6 c hc
  unfold frB at this
  rw [Bool.and_eq_true] at this
  obtain ⟨d1, d2, d3, d4⟩ := spB_iff.1 this.1
  obtain ⟨e1, e2, e3, e4⟩ := spB_iff.1 this.2
  simp only [IRiv.nat, IFr.nat, ISp.nat]
  omega
 ·simp only [IRiv.nat, List.mem_map] at hl
  obtain ⟨c, hc, rfl⟩ := hl
  have := List.all_eq_true.1 h7 c hc
  unfold lkB at this
  rw [Bool.and_eq_true] at this
  have d1 := inB_iff.1 this.1
  obtain ⟨e1, e2, e3, e4⟩ := spB_iff.1 this.2
  simp only [IRiv.nat, ILk.nat, ISp.nat]
  omega
noncomputable def openTail (n : Nat) : Code := dropSeq n (Try.f46.body.getD .skip)
section
variable {fa la : Option Addr} {fl fc ll lc : Nat} {r : IRiv} {b : Bool} {w : World}
/-- The first map above N. -/
def FirstM (N k : Nat) (w : World) : Prop := ∀ (g : Nat) (o : Obj), N ≤ g → g < k → w.heap[g]? = some o → o.isWalk = false
theorem FirstM.turn {N k : Nat} {X Y : World} {S : Nat → Prop} (h : FirstM N k X) (t : Turn S X Y) (hk : k < X.heap.size) (hs : ∀ g, N ≤ g → g < k → ¬ S g) : FirstM N k Y := fun g o h1 h2 h3 => h g o h1 h2 ((t.block g (by omega) (hs g h1 h2)).symm.trans h3)
/-- What open leaves. -/
def OpenPost (fa : Option Addr) (fl fc : Nat) (la : Option Addr) (ll lc : Nat) (r : IRiv) (b : Bool) (w : World) (e : Ending) (w' : World) : Prop :=
 Below w.heap.size w w' ∧ ((okR r = false ∧ e = .panicked [refE 1]) ∨ (okR r = true ∧ b = false ∧ e = .panicked [refE 2]) ∨
  (okR r = true ∧ b = true ∧ ∃ d k, e = .returned (.pointer (some ⟨d, 0, none⟩)) ∧ d < w'.heap.size ∧ GauIn w' w.heap.size d k fa fl fc la ll lc r.nat ∧ KeptOK w' k r.nat ∧ FirstM w.heap.size k w'))
/-- The function that is handed over: what it says of the river. -/
def IsG (w : World) (fa : Option Addr) (fl fc : Nat) (la : Option Addr) (ll lc : Nat) (r : IRiv) (g : Nat) (cap : Array Value) (b : Bool) : Prop :=
 ∀ (wq : World) (d k : Nat), Below w.heap.size w wq → GauIn wq w.heap.size d k fa fl fc la ll lc r.nat → Calls Try.prog g (#[.pointer (some ⟨d, 0, none⟩)] ++ cap) wq fun e w' => e = .returned (.bool b) ∧ w' = wq
set_option maxRecDepth 100000 in
set_option maxHeartbeats 1600000 in
theorem openT6 (g : Nat) (cap : Array Value) (eg : ∀ args w, (callFunc g args).run Try.prog w = .ok (.enter g args) w) (hg : IsG w fa fl fc la ll lc r g cap b) (hv : okR r = true) {w1 : World} {d k : Nat} (hb : Below w.heap.size w w1) (hd : d < w1.heap.size) (hD : GauIn w1 w.heap.size d k fa fl fc la ll lc r.nat) (hK : KeptOK w1 k r.nat) (hfm : FirstM w.heap.size k w1)
  {c0 c2 c3 c4 c5 c6 c7 c9 c10 c11 c12 c13 c14 c15 c16 c17 c18 c19 c20 c21 c22 c23 c24 c25 c26 c27 c28 c29 c30 c31 c32 c33 c34 c35 c36 c37 c38 c39 c40 c41 c42 c43 c44 c45 c46 c47 c48 c49 c50 c51 c52 c53 c54 c55 c56 c57 c58 c59 c60 c61 c62 c63 c64 c65 c66 c67 c68 c69 c70 c71 c72 c73 c74 c75 c76 c77 c78 c79 c80 c81 c82 c83 c84 c85 c86 c87 : Value} : Code.wp Try.prog (openTail 6) (bodyPost Try.prog Try.f46 (OpenPost fa fl fc la ll lc r b w)) ⟨(c0::(.func (.func g) #[] cap)::c2::c3::c4::c5::c6::c7::(.pointer (some ⟨d, 0, none⟩))::c9::c10::c11::c12::c13::c14::c15::c16::c17::c18::c19::c20::c21::c22::c23::c24::c25::c26::c27::c28::c29::c30::c31::c32::c33::c34::c35::c36::c37::c38::c39::c40::c41::c42::c43::c44::c45::c46::c47::c48::c49::c50::c51::c52::c53::c54::c55::c56::c57::c58::c59::c60::c61::c62::c63::c64::c65::c66::c67::c68::c69::c70::c71::c72::c73::c74::c75::c76::c77::c78::c79::c80::c81::c82::c83::c84::c85::c86::c87::[]).toArray, []⟩ w1 := by
 conv => arg 2; whnf
 have HG := Lib.hid hg
 have HV := Lib.hid hv
 have HB := Lib.hid hb
 have HD := Lib.hid hD
 have HK := Lib.hid hK
 have HFM := Lib.hid hfm
 clear hg hv hb hD hK hfm
 go_wp2_with fail
 refine (HG.out w1 d k HB.out HD.out).mono ?_
 cases b
 ·rintro e w' ⟨rfl, rfl⟩
  go_wp2_with fail
  refine (must_any false 2 _).mono ?_
  rintro e w2 ⟨h1, rfl⟩
  obtain rfl : e = .panicked [refE 2] := h1
  have HP : Hid (OpenPost fa fl fc la ll lc r false w (.panicked [refE 2]) w2) := ⟨HB.out, .inr (.inl ⟨HV.out, rfl, rfl⟩)⟩
  go_wp2
  exact ⟨rfl, HP.out⟩
 ·rintro e w' ⟨rfl, rfl⟩
  go_wp2_with fail
  refine (must_any true 2 _).mono ?_
  rintro e w2 ⟨h1, rfl⟩
  obtain rfl : e = .returned (.tuple #[]) := h1
  have HP : Hid (OpenPost fa fl fc la ll lc r true w (.returned (.pointer (some ⟨d, 0, none⟩))) w2) := ⟨HB.out, .inr (.inr ⟨HV.out, rfl, d, k, rfl, hd, HD.out, HK.out, HFM.out⟩)⟩
  go_wp2
  go_ret
  exact HP.out
end
end Go.Proofs.Ytiodmkokpfgkkaa
namespace Go.Proofs.Ytiodmkokpfgkkaa
open Go.RowKit Go.Hav Go.Shelf Go.Sq
attribute [local go_sem] Oper.semAt_some
theorem take_all_succ {α : Type} (f : α → Bool) (l : List α) (k : Nat) (x : α) (h : l[k]? = some x) : (l.take (k + 1)).all f = ((l.take k).all f && f x) := by
 rw [List.take_add_one, h]
 simp
theorem all_false {α : Type} {f : α → Bool} {l : List α} {k : Nat} {x : α} (h : l[k]? = some x) (hx : f x = false) : l.all f = false := by
 cases ha : l.all f with
 | false => rfl
 | true =>
  have := List.all_eq_true.1 ha x (List.mem_of_getElem? h)
  rw [hx] at this
  cases this
section
variable {fa la : Option Addr} {fl fc ll lc : Nat} {r : IRiv} {b : Bool} {w : World}
def gCsI (r : IRiv) (fa : Option Addr) (fl fc : Nat) (la : Option Addr) (ll lc k : Nat) : Array Value :=
 #[.int .i64 r.depth.lo, .int .i64 r.depth.hi, .int .i64 r.fall.lo, .int .i64 r.fall.hi, .int .i64 r.days, .slice fa fl fc, .slice la ll lc, .map (some k)]
theorem gCsI_eq (h1 : spB r.depth 0 60 4 = true) (h2 : spB r.fall 0 5 2 = true) (h3 : inB r.days 1 10 = true) (k : Nat) : gCsI r fa fl fc la ll lc k = gCs r.nat fa fl fc la ll lc k := by
 obtain ⟨a1, a2, a3, a4⟩ := spB_iff.1 h1
 obtain ⟨b1, b2, b3, b4⟩ := spB_iff.1 h2
 have c1 := inB_iff.1 h3
 unfold gCsI gCs
 simp only [IRiv.nat, ISp.nat]
 rw [show ((r.depth.lo.toNat : Nat) : Int) = r.depth.lo by omega, show ((r.depth.hi.toNat : Nat) : Int) = r.depth.hi by omega, show ((r.fall.lo.toNat : Nat) : Int) = r.fall.lo by omega, show ((r.fall.hi.toNat : Nat) : Int) = r.fall.hi by omega, show ((r.days.toNat : Nat) : Int) = r.days by omega]
/-- What holds when the head and the freshes are valid, and the gauge is made. -/
structure OpenG (w : World) (fa : Option Addr) (fl fc : Nat) (la : Option Addr) (ll lc : Nat) (r : IRiv) (B2 d k : Nat) (w1 : World) : Prop where
 b : Below w.heap.size w w1
 box : Blk w1 B2 27 #[.int .i64 r.depth.lo, .int .i64 r.depth.hi, .int .i64 r.fall.lo, .int .i64 r.fall.hi, .int .i64 r.days, .slice fa fl fc, .slice la ll lc]
 g : Blk w1 d 99 (gCsI r fa fl fc la ll lc k)
 m : KeptOK w1 k r.nat
 hk : w.heap.size ≤ k
 hd : w.heap.size ≤ d
 kd : k ≠ d
 fm : FirstM w.heap.size k w1
theorem OpenG.grow {w1 w2 : World} {B2 d k : Nat} (h : OpenG w fa fl fc la ll lc r B2 d k w1) (hb : Below w1.heap.size w1 w2) : OpenG w fa fl fc la ll lc r B2 d k w2 :=
 { h with b := h.b.trans (hb.mono h.b.size), box := h.box.below hb h.box.lt, g := h.g.below hb h.g.lt, m := h.m.below hb, fm := h.fm.turn (S := fun _ => False) (Turn.of_below hb) (by obtain ⟨o, ho, _⟩ := h.m.lt; exact (Array.getElem?_eq_some_iff.1 ho).1) (fun _ _ _ h => h) }
theorem OpenG.gau {w1 : World} {B2 d k : Nat} (h : OpenG w fa fl fc la ll lc r B2 d k w1) (hP : RvIn w w.heap.size fa fl la ll r) (hv : okR r = true) : GauIn w1 w.heap.size d k fa fl fc la ll lc r.nat := by
 obtain ⟨⟨h1, h2, h3, h4, h5⟩, h6, h7⟩ := okR_parts hv
 exact { blk := by rw [← gCsI_eq h1 h2 h3]; exact h.g, efl := by simp only [IRiv.nat, List.length_map]; exact hP.efl, ell := by simp only [IRiv.nat, List.length_map]; exact hP.ell, hfr := (fr_nat hP.hfr h6).below h.b, hlk := (lk_nat hP.hlk h7).below h.b, hB := h.b.size, hk := h.hk, hd := h.hd, kd := h.kd }
set_option maxRecDepth 100000 in
set_option maxHeartbeats 6400000 in
theorem openT5 (g : Nat) (cap : Array Value) (eg : ∀ args w, (callFunc g args).run Try.prog w = .ok (.enter g args) w) (hg : okR r = true → IsG w fa fl fc la ll lc r g cap b) (hP : RvIn w w.heap.size fa fl la ll r) (h1 : spB r.depth 0 60 4 = true) (h2 : spB r.fall 0 5 2 = true) (h3 : inB r.days 1 10 = true) (h4 : r.fr.length ≤ 3) (h5 : r.lk.length ≤ 5) (h6 : r.fr.all (frB r.days) = true)
  {w1 : World} {B2 d k : Nat} (hO : OpenG w fa fl fc la ll lc r B2 d k w1)
  {c0 c3 c4 c6 c7 c9 c10 c11 c12 c13 c14 c15 c16 c17 c18 c19 c20 c21 c22 c23 c24 c25 c26 c27 c28 c29 c30 c31 c32 c33 c34 c35 c36 c37 c38 c39 c40 c41 c42 c43 c44 c45 c46 c47 c48 c49 c50 c51 c52 c53 c54 c55 c56 c57 c58 c59 c60 c61 c62 c63 c64 c65 c66 c67 c68 c69 c70 c71 c72 c73 c74 c75 c76 c77 c78 c79 c80 c81 c82 c83 c84 c85 c86 c87 : Value} : Code.wp Try.prog (openTail 5) (bodyPost Try.prog Try.f46 (OpenPost fa fl fc la ll lc r b w)) ⟨(c0::(.func (.func g) #[] cap)::(.pointer (some ⟨B2, 0, none⟩))::c3::c4::(.func (.func 99) #[] #[])::c6::c7::(.pointer (some ⟨d, 0, none⟩))::c9::c10::c11::c12::c13::c14::c15::c16::c17::c18::c19::c20::c21::c22::c23::c24::c25::c26::c27::c28::c29::c30::c31::c32::c33::c34::c35::c36::c37::c38::c39::c40::c41::c42::c43::c44::c45::c46::c47::c48::c49::c50::c51::c52::c53::c54::c55::c56::c57::c58::c59::c60::c61::c62::c63::c64::c65::c66::c67::c68::c69::c70::c71::c72::c73::c74::c75::c76::c77::c78::c79::c80::c81::c82::c83::c84::c85::c86::c87::[]).toArray, []⟩ w1 := by
 conv => arg 2; whnf
 have HG := Lib.hid hg
 have HP := Lib.hid hP
 have HO := Lib.hid hO
 have HE := Lib.hid hP.ell
 have hll : ll ≤ 5 := by have := hP.ell; omega
 have HH : Hid (headB r = true) := by show headB r = true; unfold headB; rw [h1, h2, h3]; simp; omega
 have HF := Lib.hid h6
 have hdd := inB_iff.1 h3
 have u6 : w1.cell? ⟨B2, 6, none⟩ = some (.slice la ll lc) := hO.box.cell 6
 have l2 := hO.box.lt
 clear hg hP hO h1 h2 h3 h4 h5 h6
 go_wp2_with fail
 rename ∀ a w, Code.wp Try.prog (openTail 6) _ a w → _ => hKT
 have HKT := Lib.hid hKT
 clear hKT u6
 go_loopw [67] (fun i wr => ∃ j : Nat, j ≤ ll ∧ i = .int .i64 j ∧ Hid ((r.lk.take j).all (lkB r.days) = true) ∧ Hid (OpenG w fa fl fc la ll lc r B2 d k wr)) (fun i _ => ll - (intOf i).toNat)
 case atStart => exact ⟨0, Nat.zero_le _, rfl, by show _ = _; simp, HO⟩
 case round =>
  obtain ⟨j, hj, rfl, HA, HOr⟩ := hrel
  by_cases hlt : j < ll
  ·obtain ⟨c, hc⟩ : ∃ c, r.lk[j]? = some c := ⟨r.lk[j]'(by have := HE.out; omega), by simp⟩
   have HS := Lib.hid (take_all_succ (lkB r.days) r.lk j c hc)
   have HBAD : Hid (lkB r.days c = false → okR r = false) := fun h => by unfold okR; rw [all_false hc h, Bool.and_false]
   obtain ⟨bk, off, rfl, hbl, H0, H1, H2⟩ := rd_lkI (HP.out.hlk.below HOr.out.b) j c hc
   have hbw : bk < wr.heap.size := Nat.lt_of_lt_of_le hbl HOr.out.b.size
   have lg := HOr.out.g.lt
   obtain ⟨cd, ⟨c0, c1⟩⟩ := c
   simp only at H0 H1 H2
   clear hc hbl
   have HOd : Hid (OpenG w fa fl fc (some ⟨bk, off, none⟩) ll lc r B2 d k (wr.alloc (.cells #[.int .i64 cd, .int .i64 c0, .int .i64 c1] 58))) := HOr.out.grow ((Below.refl _ _).alloc (Nat.le_refl _) _)
   have hg4 : (wr.alloc (.cells #[.int .i64 cd, .int .i64 c0, .int .i64 c1] 58)).cell? ⟨d, 4, none⟩ = some (.int .i64 r.days) := HOd.out.g.cell 4
   go_wp2_with fail
   refine (isDay_any (d := d) cd r.days _ hg4 (by simp; omega)).mono ?_
   cases hday : inB cd 0 r.days
   ·have HBD : Hid (okR r = false) := HBAD.out (by unfold lkB; simp only [hday, Bool.false_and])
    have HPP : Hid (OpenPost fa fl fc (some ⟨bk, off, none⟩) ll lc r b w (.panicked [refE 1]) (wr.alloc (.cells #[.int .i64 cd, .int .i64 c0, .int .i64 c1] 58))) := ⟨HOd.out.b, .inl ⟨HBD.out, rfl⟩⟩
    rintro e w' ⟨rfl, rfl⟩
    go_wp2_with fail
    refine (must_any false 1 _).mono ?_
    rintro e w2 ⟨q1, rfl⟩
    obtain rfl : e = .panicked [refE 1] := q1
    go_wp2
    exact ⟨rfl, HPP.out⟩
   ·rintro e w' ⟨rfl, rfl⟩
    clear hg4
    go_wp2_with fail
    refine (isSp_any ⟨c0, c1⟩ 0 200 200 (by omega) (by omega) _).mono ?_
    cases hsp : spB ⟨c0, c1⟩ 0 200 200
    ·have HBD : Hid (okR r = false) := HBAD.out (by unfold lkB; simp only [hsp, Bool.and_false])
     rintro e w3 ⟨rfl, hg3⟩
     have hb3 := hg3.b
     have HPP : Hid (OpenPost fa fl fc (some ⟨bk, off, none⟩) ll lc r b w (.panicked [refE 1]) w3) := ⟨(HOd.out.grow hb3).b, .inl ⟨HBD.out, rfl⟩⟩
     clear hb3 hg3
     go_wp2_with fail
     refine (must_any false 1 _).mono ?_
     rintro e w2 ⟨q1, rfl⟩
     obtain rfl : e = .panicked [refE 1] := q1
     go_wp2
     exact ⟨rfl, HPP.out⟩
    ·have HOK : Hid (lkB r.days ⟨cd, ⟨c0, c1⟩⟩ = true) := by show _ = _; unfold lkB; simp only [hday, hsp, Bool.and_self]
     rintro e w3 ⟨rfl, hg3⟩
     have hb3 := hg3.b
     have HO3 := Lib.hid (HOd.out.grow hb3)
     clear hb3 hg3
     go_wp2_with fail
     refine (must_any true 1 _).mono ?_
     rintro e w2 ⟨q1, rfl⟩
     obtain rfl : e = .returned (.tuple #[]) := q1
     go_wp2
     go_roundw
     case rel => exact ⟨j + 1, by omega, by go_num, by show _ = _; rw [HS.out, HA.out, HOK.out]; rfl, HO3⟩
     case measure => simp [intOf]; omega
  ·obtain rfl : ll = j := by omega
   have HV : Hid (okR r = true) := by
    have h := HA.out
    rw [List.take_of_length_le (by rw [HE.out]; exact Nat.le_refl _)] at h
    show _ = _
    unfold okR
    rw [HH.out, HF.out, h]
    rfl
   go_wp2
   refine HKT.out _ _ (openT6 g cap eg (HG.out HV.out) HV.out HOr.out.b HOr.out.g.lt (HOr.out.gau HP.out HV.out) HOr.out.m HOr.out.fm)
set_option maxRecDepth 100000 in
set_option maxHeartbeats 6400000 in
theorem openT3 (g : Nat) (cap : Array Value) (eg : ∀ args w, (callFunc g args).run Try.prog w = .ok (.enter g args) w) (hg : okR r = true → IsG w fa fl fc la ll lc r g cap b) (hP : RvIn w w.heap.size fa fl la ll r) (h1 : spB r.depth 0 60 4 = true) (h2 : spB r.fall 0 5 2 = true) (h3 : inB r.days 1 10 = true) (h4 : r.fr.length ≤ 3) (h5 : r.lk.length ≤ 5)
  {w1 : World} {B2 : Nat} (hb : Gro w w1) (hx : Blk w1 B2 27 #[.int .i64 r.depth.lo, .int .i64 r.depth.hi, .int .i64 r.fall.lo, .int .i64 r.fall.hi, .int .i64 r.days, .slice fa fl fc, .slice la ll lc])
  {c0 c3 c4 c6 c7 c8 c9 c10 c11 c12 c13 c14 c15 c16 c17 c18 c19 c20 c21 c22 c23 c24 c25 c26 c27 c28 c29 c30 c31 c32 c33 c34 c35 c36 c37 c38 c39 c40 c41 c42 c43 c44 c45 c46 c47 c48 c49 c50 c51 c52 c53 c54 c55 c56 c57 c58 c59 c60 c61 c62 c63 c64 c65 c66 c67 c68 c69 c70 c71 c72 c73 c74 c75 c76 c77 c78 c79 c80 c81 c82 c83 c84 c85 c86 c87 : Value} : Code.wp Try.prog (openTail 3) (bodyPost Try.prog Try.f46 (OpenPost fa fl fc la ll lc r b w)) ⟨(c0::(.func (.func g) #[] cap)::(.pointer (some ⟨B2, 0, none⟩))::c3::c4::(.func (.func 99) #[] #[])::c6::c7::c8::c9::c10::c11::c12::c13::c14::c15::c16::c17::c18::c19::c20::c21::c22::c23::c24::c25::c26::c27::c28::c29::c30::c31::c32::c33::c34::c35::c36::c37::c38::c39::c40::c41::c42::c43::c44::c45::c46::c47::c48::c49::c50::c51::c52::c53::c54::c55::c56::c57::c58::c59::c60::c61::c62::c63::c64::c65::c66::c67::c68::c69::c70::c71::c72::c73::c74::c75::c76::c77::c78::c79::c80::c81::c82::c83::c84::c85::c86::c87::[]).toArray, []⟩ w1 := by
 conv => arg 2; whnf
 have HG := Lib.hid hg
 have HP := Lib.hid hP
 have HBG := Lib.hid hb
 have HB := Lib.hid hb.b
 have HX := Lib.hid hx
 have HE := Lib.hid hP.efl
 have hfl : fl ≤ 3 := by have := hP.efl; omega
 have H1 := Lib.hid h1
 have H2 := Lib.hid h2
 have H3 := Lib.hid h3
 have H4 := Lib.hid h4
 have H5 := Lib.hid h5
 have hmm := @run_makeMap Try.prog
 have u5 : w1.cell? ⟨B2, 5, none⟩ = some (.slice fa fl fc) := hx.cell 5
 have l2 := hx.lt
 have hdd := inB_iff.1 h3
 clear hg hP hb hx h1 h2 h3 h4 h5
 go_wp2_with fail
 rename ∀ a w, Code.wp Try.prog (Code.seq (Code.region 8 _ _) _) _ a w → _ => hKT
 have HKT := Lib.hid hKT
 clear hKT u5
 go_loopw [42] (fun i wr => ∃ j : Nat, j ≤ fl ∧ i = .int .i64 j ∧ Hid ((r.fr.take j).all (frB r.days) = true) ∧ Hid (Gro w1 wr)) (fun i _ => fl - (intOf i).toNat)
 case atStart => exact ⟨0, Nat.zero_le _, rfl, by show _ = _; simp, Gro.refl _⟩
 case round =>
  obtain ⟨j, hj, rfl, HA, HGr⟩ := hrel
  have HBr : Hid (Below w1.heap.size w1 wr) := HGr.out.b
  have HBw : Hid (Below w.heap.size w wr) := HB.out.trans (HBr.out.mono HB.out.size)
  have HXr : Hid (Blk wr B2 27 #[.int .i64 r.depth.lo, .int .i64 r.depth.hi, .int .i64 r.fall.lo, .int .i64 r.fall.hi, .int .i64 r.days, .slice fa fl fc, .slice la ll lc]) := HX.out.below HBr.out l2
  by_cases hlt : j < fl
  ·obtain ⟨c, hc⟩ : ∃ c, r.fr[j]? = some c := ⟨r.fr[j]'(by have := HE.out; omega), by simp⟩
   have HS := Lib.hid (take_all_succ (frB r.days) r.fr j c hc)
   have HBAD : Hid (frB r.days c = false → okR r = false) := fun h => by unfold okR; rw [all_false hc h, Bool.and_false, Bool.false_and]
   obtain ⟨bk, off, rfl, hbl, G0, G1, G2, G3⟩ := rd_frI (HP.out.hfr.below HBw.out) j c hc
   have hbw : bk < wr.heap.size := Nat.lt_of_lt_of_le hbl HBw.out.size
   obtain ⟨⟨c0, c1⟩, ⟨c2, c3⟩⟩ := c
   simp only at G0 G1 G2 G3
   clear hc hbl
   obtain ⟨Wd, hWd⟩ : ∃ Wd, Wd = wr.alloc (.cells #[.int .i64 c0, .int .i64 c1, .int .i64 c2, .int .i64 c3] 55) := ⟨_, rfl⟩
   have HGd : Hid (Gro wr Wd) := by rw [hWd]; exact (Gro.refl _).alloc _ _
   have HBd : Hid (Below wr.heap.size wr Wd) := HGd.out.b
   have HXd : Hid (Blk Wd B2 27 #[.int .i64 r.depth.lo, .int .i64 r.depth.hi, .int .i64 r.fall.lo, .int .i64 r.fall.hi, .int .i64 r.days, .slice (some ⟨bk, off, none⟩) fl fc, .slice la ll lc]) := HXr.out.below HBd.out HXr.out.lt
   have HFd : Hid (Blk Wd wr.heap.size 55 #[.int .i64 c0, .int .i64 c1, .int .i64 c2, .int .i64 c3]) := by rw [hWd]; exact Blk.new _ _ _
   have v4 : wr.cell? ⟨B2, 4, none⟩ = some (.int .i64 r.days) := HXr.out.cell 4
   have lr2 := HXr.out.lt
   go_wp2_with fail
   rw [← hWd]
   clear hWd v4
   refine (isSp_any ⟨c0, c1⟩ 1 r.days 3 (by omega) (by omega) _).mono ?_
   cases hday : spB ⟨c0, c1⟩ 1 r.days 3
   ·have HBD : Hid (okR r = false) := HBAD.out (by unfold frB; simp only [hday, Bool.false_and])
    rintro e w3 ⟨rfl, hg3⟩
    have hb3 := hg3.b
    have HPP : Hid (OpenPost (some ⟨bk, off, none⟩) fl fc la ll lc r b w (.panicked [refE 1]) w3) := ⟨(HBw.out.trans (HBd.out.mono HBw.out.size)).trans (hb3.mono (Nat.le_trans HBw.out.size HBd.out.size)), .inl ⟨HBD.out, rfl⟩⟩
    clear hb3 hg3
    go_wp2_with fail
    refine (must_any false 1 _).mono ?_
    rintro e w2 ⟨q1, rfl⟩
    obtain rfl : e = .panicked [refE 1] := q1
    go_wp2
    exact ⟨rfl, HPP.out⟩
   ·rintro e w3 ⟨rfl, hg3⟩
    have hb3 := hg3.b
    have HB3 := Lib.hid hb3
    have HG3 := Lib.hid hg3
    have HF3 : Hid (Blk w3 wr.heap.size 55 #[.int .i64 c0, .int .i64 c1, .int .i64 c2, .int .i64 c3]) := HFd.out.below hb3 HFd.out.lt
    have v2 : w3.cell? ⟨wr.heap.size, 2, none⟩ = some (.int .i64 c2) := HF3.out.cell 2
    have v3 : w3.cell? ⟨wr.heap.size, 3, none⟩ = some (.int .i64 c3) := HF3.out.cell 3
    have lf3 := HF3.out.lt
    clear hb3 hg3
    go_wp2_with fail
    refine (isSp_any ⟨c2, c3⟩ 1 20 3 (by omega) (by omega) _).mono ?_
    have HBW3 : Hid (Below w.heap.size w w3) := (HBw.out.trans (HBd.out.mono HBw.out.size)).trans (HB3.out.mono (Nat.le_trans HBw.out.size HBd.out.size))
    clear v2 v3
    cases hsp : spB ⟨c2, c3⟩ 1 20 3
    ·have HBD : Hid (okR r = false) := HBAD.out (by unfold frB; simp only [hsp, Bool.and_false])
     rintro e w4 ⟨rfl, hg4⟩
     have hb4 := hg4.b
     have HPP : Hid (OpenPost (some ⟨bk, off, none⟩) fl fc la ll lc r b w (.panicked [refE 1]) w4) := ⟨HBW3.out.trans (hb4.mono HBW3.out.size), .inl ⟨HBD.out, rfl⟩⟩
     clear hb4 hg4
     go_wp2_with fail
     refine (must_any false 1 _).mono ?_
     rintro e w2 ⟨q1, rfl⟩
     obtain rfl : e = .panicked [refE 1] := q1
     go_wp2
     exact ⟨rfl, HPP.out⟩
    ·have HOK : Hid (frB r.days ⟨⟨c0, c1⟩, ⟨c2, c3⟩⟩ = true) := by show _ = _; unfold frB; simp only [hday, hsp, Bool.and_self]
     rintro e w4 ⟨rfl, hg4⟩
     have hb4 := hg4.b
     have HB4 : Hid (Gro w1 w4) := ((HGr.out.trans HGd.out).trans HG3.out).trans hg4
     clear hb4 hg4
     go_wp2_with fail
     refine (must_any true 1 _).mono ?_
     rintro e w2 ⟨q1, rfl⟩
     obtain rfl : e = .returned (.tuple #[]) := q1
     go_wp2
     go_roundw
     case rel => exact ⟨j + 1, by omega, by go_num, by show _ = _; rw [HS.out, HA.out, HOK.out]; rfl, HB4⟩
     case measure => simp [intOf]; omega
  ·obtain rfl : fl = j := by omega
   have HF : Hid (r.fr.all (frB r.days) = true) := by
    have h := HA.out
    rwa [List.take_of_length_le (by rw [HE.out]; exact Nat.le_refl _)] at h
   have v0 : wr.cell? ⟨B2, 0, none⟩ = some (.int .i64 r.depth.lo) := HXr.out.cell 0
   have v1 : wr.cell? ⟨B2, 1, none⟩ = some (.int .i64 r.depth.hi) := HXr.out.cell 1
   have v2 : wr.cell? ⟨B2, 2, none⟩ = some (.int .i64 r.fall.lo) := HXr.out.cell 2
   have v3 : wr.cell? ⟨B2, 3, none⟩ = some (.int .i64 r.fall.hi) := HXr.out.cell 3
   have v4 : wr.cell? ⟨B2, 4, none⟩ = some (.int .i64 r.days) := HXr.out.cell 4
   have v5 : wr.cell? ⟨B2, 5, none⟩ = some (.slice fa fl fc) := HXr.out.cell 5
   have v6 : wr.cell? ⟨B2, 6, none⟩ = some (.slice la ll lc) := HXr.out.cell 6
   have lr2 := HXr.out.lt
   obtain ⟨W3, hW3⟩ : ∃ W3, W3 = (wr.alloc (.map #[] 0)).alloc (.cells (gCsI r fa fl fc la ll lc wr.heap.size) 99) := ⟨_, rfl⟩
   have HO : Hid (OpenG w fa fl fc la ll lc r B2 (wr.heap.size + 1) wr.heap.size W3) := by
    have hb3 : Below wr.heap.size wr W3 := by rw [hW3]; exact ((Below.refl _ _).alloc (Nat.le_refl _) _).alloc (by simp) _
    have hzw := HBw.out.size
    refine ⟨HBw.out.trans (hb3.mono hzw), HXr.out.below hb3 lr2, by rw [hW3]; exact Blk.new_ (by simp) _ _, ?_, hzw, by omega, by omega, fun g o q1 q2 q3 => (HBG.out.trans HGr.out).nw g o q1 ((hb3.block g q2).symm.trans q3)⟩
    rw [hW3]
    exact (KeptOK.made (w := wr) r.nat).turn (S := fun _ => False) ((Turn.refl _ _).alloc _) (fun _ _ h => h.elim)
   dsimp only [gCsI] at hW3
   go_wp2_with fail
   refine HKT.out _ _ ?_
   go_upto_region 8 with (fail)
   rename ∀ a w, Code.wp Try.prog (openTail 5) _ a w → _ => hK5
   have HK5 := Lib.hid hK5
   clear hK5
   go_wp2_with fail
   rw [← hW3]
   exact HK5.out _ _ (openT5 g cap eg HG.out HP.out H1.out H2.out H3.out H4.out H5.out HF.out HO.out)
set_option maxRecDepth 100000 in
set_option maxHeartbeats 6400000 in
/-- Open, for every river. -/
theorem open_any (g : Nat) (cap : Array Value) (eg : ∀ args w, (callFunc g args).run Try.prog w = .ok (.enter g args) w) (hP : RvIn w w.heap.size fa fl la ll r) (hg : okR r = true → IsG w fa fl fc la ll lc r g cap b) :
  Calls Try.prog 46 #[(.agg #[.int .i64 r.depth.lo, .int .i64 r.depth.hi, .int .i64 r.fall.lo, .int .i64 r.fall.hi, .int .i64 r.days, .slice fa fl fc, .slice la ll lc]), .func (.func g) #[] cap] w (OpenPost fa fl fc la ll lc r b w) := by
 have m1 := hP.mfl
 have m2 := hP.mll
 have HE1 := Lib.hid hP.efl
 have HE2 := Lib.hid hP.ell
 have HP := Lib.hid hP
 have HG := Lib.hid hg
 have must1 : ∀ w, Calls Try.prog 90 #[.bool false, .int .i64 1] w fun x w' => x = .panicked [refE 1] ∧ w' = w := fun w => (must_any false 1 w).mono (fun x w' h => by simpa using h)
 have HM := Lib.hid must1
 have HBAD : Hid (∀ w', headB r = false → Below w.heap.size w w' → OpenPost fa fl fc la ll lc r b w (.panicked [refE 1]) w') := fun w' h hb => ⟨hb, .inl ⟨by unfold okR; rw [h]; rfl, rfl⟩⟩
 have HHD : Hid (headB r = (spB r.depth 0 60 4 && spB r.fall 0 5 2 && inB r.days 1 10 && decide (fl ≤ 3) && decide (ll ≤ 5))) := by show _ = _; unfold headB; rw [hP.efl, hP.ell]
 have HX0 : Hid (Blk (w.alloc (.cells #[.int .i64 r.depth.lo, .int .i64 r.depth.hi, .int .i64 r.fall.lo, .int .i64 r.fall.hi, .int .i64 r.days, .slice fa fl fc, .slice la ll lc] 27)) w.heap.size 27 #[.int .i64 r.depth.lo, .int .i64 r.depth.hi, .int .i64 r.fall.lo, .int .i64 r.fall.hi, .int .i64 r.days, .slice fa fl fc, .slice la ll lc]) := Blk.new _ _ _
 have HG0 : Hid (Gro w (w.alloc (.cells #[.int .i64 r.depth.lo, .int .i64 r.depth.hi, .int .i64 r.fall.lo, .int .i64 r.fall.hi, .int .i64 r.days, .slice fa fl fc, .slice la ll lc] 27))) := (Gro.refl _).alloc _ _
 clear hP hg must1
 go_enter Try.func46, Try.ntmps46
 go_upto_region 2 with (fail)
 rename ∀ a w, Code.wp Try.prog (openTail 3) _ a w → _ => hKT
 have HKT := Lib.hid hKT
 clear hKT
 go_wp2_with fail
 obtain ⟨W0, hW0⟩ : ∃ W0, W0 = w.alloc (.cells #[.int .i64 r.depth.lo, .int .i64 r.depth.hi, .int .i64 r.fall.lo, .int .i64 r.fall.hi, .int .i64 r.days, .slice fa fl fc, .slice la ll lc] 27) := ⟨_, rfl⟩
 rw [← hW0] at HX0 HG0 ⊢
 clear hW0
 have HB0 : Hid (Below w.heap.size w W0) := HG0.out.b
 refine (isSp_any r.depth 0 60 4 (by omega) (by omega) _).mono ?_
 cases q1 : spB r.depth 0 60 4
 ·have HQ : Hid (headB r = false) := by show _ = _; rw [HHD.out, q1]; rfl
  clear q1
  rintro e w1 ⟨rfl, hg1⟩
  have hb1 := hg1.b
  have HPP := Lib.hid (HBAD.out w1 HQ.out (HB0.out.trans (hb1.mono HB0.out.size)))
  clear hb1 hg1
  go_wp2_with fail
  refine (HM.out _).mono ?_
  rintro e w' ⟨rfl, rfl⟩
  go_wp2
  exact ⟨rfl, HPP.out⟩
 have Q1 := Lib.hid q1
 clear q1
 rintro e w1 ⟨rfl, hg1⟩
 have hb1 := hg1.b
 have HX1 : Hid (Blk w1 w.heap.size 27 #[.int .i64 r.depth.lo, .int .i64 r.depth.hi, .int .i64 r.fall.lo, .int .i64 r.fall.hi, .int .i64 r.days, .slice fa fl fc, .slice la ll lc]) := HX0.out.below hb1 HX0.out.lt
 have HG1 : Hid (Gro w w1) := HG0.out.trans hg1
 have HB1 : Hid (Below w.heap.size w w1) := HB0.out.trans (hb1.mono HB0.out.size)
 have u2 : w1.cell? ⟨w.heap.size, 2, none⟩ = some (.int .i64 r.fall.lo) := HX1.out.cell 2
 have u3 : w1.cell? ⟨w.heap.size, 3, none⟩ = some (.int .i64 r.fall.hi) := HX1.out.cell 3
 have l1 := HX1.out.lt
 clear hb1 hg1
 go_wp2_with fail
 refine (isSp_any r.fall 0 5 2 (by omega) (by omega) _).mono ?_
 clear u2 u3
 cases q2 : spB r.fall 0 5 2
 ·have HQ : Hid (headB r = false) := by show _ = _; rw [HHD.out, q2, Bool.and_false]; rfl
  clear q2
  rintro e w2 ⟨rfl, hg2⟩
  have hb2 := hg2.b
  have HPP := Lib.hid (HBAD.out w2 HQ.out (HB1.out.trans (hb2.mono HB1.out.size)))
  clear hb2 hg2
  go_wp2_with fail
  refine (HM.out _).mono ?_
  rintro e w' ⟨rfl, rfl⟩
  go_wp2
  exact ⟨rfl, HPP.out⟩
 have Q2 := Lib.hid q2
 clear q2
 rintro e w2 ⟨rfl, hg2⟩
 have hb2 := hg2.b
 have HX2 : Hid (Blk w2 w.heap.size 27 #[.int .i64 r.depth.lo, .int .i64 r.depth.hi, .int .i64 r.fall.lo, .int .i64 r.fall.hi, .int .i64 r.days, .slice fa fl fc, .slice la ll lc]) := HX1.out.below hb2 HX1.out.lt
 have HG2 : Hid (Gro w w2) := HG1.out.trans hg2
 have HB2 : Hid (Below w.heap.size w w2) := HB1.out.trans (hb2.mono HB1.out.size)
 have u4 : w2.cell? ⟨w.heap.size, 4, none⟩ = some (.int .i64 r.days) := HX2.out.cell 4
 have l2 := HX2.out.lt
 clear hb2 hg2
 go_wp2_with fail
 refine (within_any r.days 1 10 _).mono ?_
 clear u4
 cases q3 : inB r.days 1 10
 ·have HQ : Hid (headB r = false) := by show _ = _; rw [HHD.out, q3, Bool.and_false]; rfl
  clear q3
  rintro e w' ⟨rfl, rfl⟩
  have HPP := Lib.hid (HBAD.out w' HQ.out HB2.out)
  go_wp2_with fail
  refine (HM.out _).mono ?_
  rintro e w' ⟨rfl, rfl⟩
  go_wp2
  exact ⟨rfl, HPP.out⟩
 have Q3 := Lib.hid q3
 clear q3
 have u5 : w2.cell? ⟨w.heap.size, 5, none⟩ = some (.slice fa fl fc) := HX2.out.cell 5
 by_cases q4 : fl ≤ 3
 case neg =>
  have hd : decide ((fl : Int) ≤ 3) = false := by simp; omega
  have HQ : Hid (headB r = false) := by show _ = _; rw [HHD.out]; simp [q4]
  have HPP := Lib.hid (HBAD.out w2 HQ.out HB2.out)
  rintro e w' ⟨rfl, hw'⟩
  obtain rfl : w2 = w' := hw'.symm
  go_wp2_with fail
  refine (HM.out _).mono ?_
  rintro e w' ⟨rfl, rfl⟩
  go_wp2
  exact ⟨rfl, HPP.out⟩
 have u6 : w2.cell? ⟨w.heap.size, 6, none⟩ = some (.slice la ll lc) := HX2.out.cell 6
 by_cases q5 : ll ≤ 5
 case neg =>
  have hd : decide ((ll : Int) ≤ 5) = false := by simp; omega
  have HQ : Hid (headB r = false) := by show _ = _; rw [HHD.out]; simp [q5]
  have HPP := Lib.hid (HBAD.out w2 HQ.out HB2.out)
  rintro e w' ⟨rfl, hw'⟩
  obtain rfl : w2 = w' := hw'.symm
  go_wp2_with fail
  refine (HM.out _).mono ?_
  rintro e w' ⟨rfl, rfl⟩
  go_wp2
  exact ⟨rfl, HPP.out⟩
 have hd5 : decide ((ll : Int) ≤ 5) = true := by simp; omega
 rintro e w' ⟨rfl, hw'⟩
 obtain rfl : w2 = w' := hw'.symm
 go_wp2_with fail
 refine (must_any true 1 _).mono ?_
 rintro e w3 ⟨h1, rfl⟩
 obtain rfl : e = .returned (.tuple #[]) := h1
 clear u5 u6
 go_wp2_with fail
 exact HKT.out _ _ (openT3 g cap eg HG.out HP.out Q1.out Q2.out Q3.out (by rw [HE1.out]; exact q4) (by rw [HE2.out]; exact q5) HG2.out HX2.out)
end
end Go.Proofs.Ytiodmkokpfgkkaa
namespace Go
/-- A deferred function that recovers, in the wide fence. -/
theorem callsDIn_of_wpS {n : Nat} {P : Program} {f : FuncId} {fn : Func} {c : Code} {args : Array Value} {u : FrameMode} {w : World} {R : Ending → FrameMode → World → Prop}
  (hf : P.funcs[f]? = some fn) (hb : fn.body = some c)
  (h : ∀ (c₀ : Frame) (cs : List Frame), c₀.mode = u →
   c.wpS P (bodyPostS P fn c₀ cs R) { tmps := args ++ Array.replicate (fn.ntmps - args.size) undef, defers := [] } (c₀ :: cs) w) :
  CallsDIn Fence.wide n P f args u w R := by
 refine ⟨trivial, fun c₀ cs hu _ => ?_⟩
 let b : Frame := { (default : Frame) with fn := f, kind := .deferred }
 have henter : Frame.enter P f args .deferred =
   b.at { tmps := args ++ Array.replicate (fn.ntmps - args.size) undef, defers := [] } [.code c] := by
  simp [Frame.enter, Frame.at, hf, hb, b]
 obtain ⟨e, a', cs', w', hq, harr⟩ := h c₀ cs hu b [] rfl rfl
 rw [← henter] at harr
 cases e with
 | normal =>
  obtain ⟨hd, u', rfl, v, hr, hR⟩ := hq
  exact ⟨.returned v, u', w', _, hR, comesIn_wide.2 (Steps.trans harr (.one step_end)), rfl, rfl, rfl, hd, fn, hf, hr⟩
 | ret =>
  obtain ⟨hd, u', rfl, v, hr, hR⟩ := hq
  obtain ⟨todo, hs⟩ := harr
  exact ⟨.returned v, u', w', _, hR, comesIn_wide.2 hs, rfl, rfl, rfl, hd, fn, hf, hr⟩
 | panic chain =>
  obtain ⟨hd, u', rfl, hR⟩ := hq
  obtain ⟨todo, hs⟩ := harr
  exact ⟨.panicked chain, u', w', _, hR, comesIn_wide.2 hs, rfl, rfl, rfl, hd, fn, hf⟩
 | exit id => exact hq.elim
 | goto l => exact hq.elim
 | outgrown =>
  obtain ⟨u', hR⟩ := hq
  exact ⟨.outgrown, u', w', b, hR, harr.resolve_left (by simp [b]), rfl, rfl, trivial⟩
end Go
namespace Go.Proofs.Ytiodmkokpfgkkaa
open Go.RowKit Go.Hav Go.Shelf Go.Sq
attribute [local go_sem] Oper.semAt_some
theorem stopped_nil (p : Addr) (w : World) : Calls Try.prog 45 #[.nilIface, .pointer (some p)] w fun e w' => e = .returned (.tuple #[]) ∧ w' = w := by
 go_enter Try.func45, Try.ntmps45
 go_wp2
 refine bodyPost_ret (results_none rfl _ _ _) rfl ⟨rfl, rfl⟩
/-- The world behind an answer that sets an error. -/
def ansW (w : World) (b : Nat) (e : Int) : World := (w.setCell ⟨b, 0, none⟩ (.int .i64 e)).alloc (.cells #[.int .i64 e] 127)
theorem stopped_err (b : Nat) (x e : Int) (w : World) (hk : Blk w b 30 #[.int .i64 x]) :
  Calls Try.prog 45 #[.iface 127 (.agg #[.int .i64 e]), .pointer (some ⟨b, 0, none⟩)] w fun en w' => en = .returned (.tuple #[]) ∧ w' = ansW w b e := by
 have hta : ∀ w, (Instr.typeAssert (.iface 127 (.agg #[.int .i64 e])) 20 127 true).run Try.prog w = .ok (.tuple #[.agg #[.int .i64 e], .bool true]) w := fun w => by kernel_rfl
 have HK := Lib.hid (hk.alloc (.cells #[.int .i64 e] 127))
 have hc : (w.alloc (.cells #[.int .i64 e] 127)).cell? ⟨b, 0, none⟩ = some (.int .i64 x) := HK.out.cell 0
 have hz : (w.alloc (.cells #[.int .i64 e] 127)).frozen? ⟨b, 0, none⟩ = false := HK.out.frozen 0
 have hl := hk.lt
 clear hk
 unfold ansW
 go_enter Try.func45, Try.ntmps45
 go_wp2
 go_end0
 exact ⟨rfl, rfl⟩
/-- The deferred function of an exported one. -/
def IsAns (f : Nat) : Prop := (∀ (b : Nat) (x e : Int) (w : World) (n : Nat), Blk w b 30 #[.int .i64 x] → CallsDIn Fence.wide n Try.prog f #[.pointer (some ⟨b, 0, none⟩)] (.panicking [refE e]) w fun en u' w' => en = .returned (.tuple #[]) ∧ u' = .panicking [{ refE e with recovered := true }] ∧ w' = ansW w b e) ∧
 ∀ (p : Addr) (w : World) (n : Nat), CallsDIn Fence.wide n Try.prog f #[.pointer (some p)] .returning w fun en u' w' => en = .returned (.tuple #[]) ∧ u' = .returning ∧ w' = w
set_option maxRecDepth 100000 in
theorem isAns44 : IsAns 44 := by
 refine ⟨fun b x e w n hk => ?_, fun p w n => ?_⟩
 ·refine callsDIn_of_wpS Try.func44 rfl fun c₀ cs hu => ?_
  apply wpS_region
  simp [wpOpsS, go_sem, recoverD, hu, Try.ntmps44, refE]
  refine (stopped_err b x e w hk).mono ?_
  rintro en w' ⟨rfl, rfl⟩
  simp [bodyPostS, results, Try.results44, go_sem]
 ·refine callsDIn_of_wpS Try.func44 rfl fun c₀ cs hu => ?_
  apply wpS_region
  simp [wpOpsS, go_sem, recoverD, hu, Try.ntmps44]
  refine (stopped_nil p w).mono ?_
  rintro en w' ⟨rfl, rfl⟩
  cases c₀
  simp_all [bodyPostS, results, Try.results44, go_sem]
set_option maxRecDepth 100000 in
theorem isAns54 : IsAns 54 := by
 refine ⟨fun b x e w n hk => ?_, fun p w n => ?_⟩
 ·refine callsDIn_of_wpS Try.func54 rfl fun c₀ cs hu => ?_
  apply wpS_region
  simp [wpOpsS, go_sem, recoverD, hu, Try.ntmps54, refE]
  refine (stopped_err b x e w hk).mono ?_
  rintro en w' ⟨rfl, rfl⟩
  simp [bodyPostS, results, Try.results54, go_sem]
 ·refine callsDIn_of_wpS Try.func54 rfl fun c₀ cs hu => ?_
  apply wpS_region
  simp [wpOpsS, go_sem, recoverD, hu, Try.ntmps54]
  refine (stopped_nil p w).mono ?_
  rintro en w' ⟨rfl, rfl⟩
  cases c₀
  simp_all [bodyPostS, results, Try.results54, go_sem]
set_option maxRecDepth 100000 in
theorem isAns60 : IsAns 60 := by
 refine ⟨fun b x e w n hk => ?_, fun p w n => ?_⟩
 ·refine callsDIn_of_wpS Try.func60 rfl fun c₀ cs hu => ?_
  apply wpS_region
  simp [wpOpsS, go_sem, recoverD, hu, Try.ntmps60, refE]
  refine (stopped_err b x e w hk).mono ?_
  rintro en w' ⟨rfl, rfl⟩
  simp [bodyPostS, results, Try.results60, go_sem]
 ·refine callsDIn_of_wpS Try.func60 rfl fun c₀ cs hu => ?_
  apply wpS_region
  simp [wpOpsS, go_sem, recoverD, hu, Try.ntmps60]
  refine (stopped_nil p w).mono ?_
  rintro en w' ⟨rfl, rfl⟩
  cases c₀
  simp_all [bodyPostS, results, Try.results60, go_sem]
set_option maxRecDepth 100000 in
theorem isAns69 : IsAns 69 := by
 refine ⟨fun b x e w n hk => ?_, fun p w n => ?_⟩
 ·refine callsDIn_of_wpS Try.func69 rfl fun c₀ cs hu => ?_
  apply wpS_region
  simp [wpOpsS, go_sem, recoverD, hu, Try.ntmps69, refE]
  refine (stopped_err b x e w hk).mono ?_
  rintro en w' ⟨rfl, rfl⟩
  simp [bodyPostS, results, Try.results69, go_sem]
 ·refine callsDIn_of_wpS Try.func69 rfl fun c₀ cs hu => ?_
  apply wpS_region
  simp [wpOpsS, go_sem, recoverD, hu, Try.ntmps69]
  refine (stopped_nil p w).mono ?_
  rintro en w' ⟨rfl, rfl⟩
  cases c₀
  simp_all [bodyPostS, results, Try.results69, go_sem]
set_option maxRecDepth 100000 in
theorem isAns75 : IsAns 75 := by
 refine ⟨fun b x e w n hk => ?_, fun p w n => ?_⟩
 ·refine callsDIn_of_wpS Try.func75 rfl fun c₀ cs hu => ?_
  apply wpS_region
  simp [wpOpsS, go_sem, recoverD, hu, Try.ntmps75, refE]
  refine (stopped_err b x e w hk).mono ?_
  rintro en w' ⟨rfl, rfl⟩
  simp [bodyPostS, results, Try.results75, go_sem]
 ·refine callsDIn_of_wpS Try.func75 rfl fun c₀ cs hu => ?_
  apply wpS_region
  simp [wpOpsS, go_sem, recoverD, hu, Try.ntmps75]
  refine (stopped_nil p w).mono ?_
  rintro en w' ⟨rfl, rfl⟩
  cases c₀
  simp_all [bodyPostS, results, Try.results75, go_sem]
set_option maxRecDepth 100000 in
theorem isAns77 : IsAns 77 := by
 refine ⟨fun b x e w n hk => ?_, fun p w n => ?_⟩
 ·refine callsDIn_of_wpS Try.func77 rfl fun c₀ cs hu => ?_
  apply wpS_region
  simp [wpOpsS, go_sem, recoverD, hu, Try.ntmps77, refE]
  refine (stopped_err b x e w hk).mono ?_
  rintro en w' ⟨rfl, rfl⟩
  simp [bodyPostS, results, Try.results77, go_sem]
 ·refine callsDIn_of_wpS Try.func77 rfl fun c₀ cs hu => ?_
  apply wpS_region
  simp [wpOpsS, go_sem, recoverD, hu, Try.ntmps77]
  refine (stopped_nil p w).mono ?_
  rintro en w' ⟨rfl, rfl⟩
  cases c₀
  simp_all [bodyPostS, results, Try.results77, go_sem]
set_option maxRecDepth 100000 in
theorem isAns81 : IsAns 81 := by
 refine ⟨fun b x e w n hk => ?_, fun p w n => ?_⟩
 ·refine callsDIn_of_wpS Try.func81 rfl fun c₀ cs hu => ?_
  apply wpS_region
  simp [wpOpsS, go_sem, recoverD, hu, Try.ntmps81, refE]
  refine (stopped_err b x e w hk).mono ?_
  rintro en w' ⟨rfl, rfl⟩
  simp [bodyPostS, results, Try.results81, go_sem]
 ·refine callsDIn_of_wpS Try.func81 rfl fun c₀ cs hu => ?_
  apply wpS_region
  simp [wpOpsS, go_sem, recoverD, hu, Try.ntmps81]
  refine (stopped_nil p w).mono ?_
  rintro en w' ⟨rfl, rfl⟩
  cases c₀
  simp_all [bodyPostS, results, Try.results81, go_sem]
set_option maxRecDepth 100000 in
theorem isAns83 : IsAns 83 := by
 refine ⟨fun b x e w n hk => ?_, fun p w n => ?_⟩
 ·refine callsDIn_of_wpS Try.func83 rfl fun c₀ cs hu => ?_
  apply wpS_region
  simp [wpOpsS, go_sem, recoverD, hu, Try.ntmps83, refE]
  refine (stopped_err b x e w hk).mono ?_
  rintro en w' ⟨rfl, rfl⟩
  simp [bodyPostS, results, Try.results83, go_sem]
 ·refine callsDIn_of_wpS Try.func83 rfl fun c₀ cs hu => ?_
  apply wpS_region
  simp [wpOpsS, go_sem, recoverD, hu, Try.ntmps83]
  refine (stopped_nil p w).mono ?_
  rintro en w' ⟨rfl, rfl⟩
  cases c₀
  simp_all [bodyPostS, results, Try.results83, go_sem]
/-- The exported function's deferred answer: the error lies at block b. -/
def ansD (f b : Nat) : Deferred := { target := .fn (.func f) #[.pointer (some ⟨b, 0, none⟩)], args := #[] }
theorem leaves_marksR {B : Nat} {F : Fence} {n : Nat} {P : Program} {fn : Func} {tmps : Array Value} {R : Ending → World → Prop} {u : FrameMode} (hu : u ≠ .run) (rest : List Deferred) : ∀ (ds : List Deferred) (w : World), Marks B w ds → (∀ w', Shut B w w' → LeavesInM F n P fn tmps R rest u w') → LeavesInM F n P fn tmps R (ds ++ rest) u w := by
 intro ds
 induction ds with
 | nil => exact fun w _ h => h w ⟨rfl, rfl, rfl, rfl, fun _ _ => rfl, fun _ _ h _ => h⟩
 | cons d ds ih =>
  intro w hm h
  obtain ⟨l, h1, h2, h3⟩ := hm
  cases l with
  | nil => cases h1
  | cons D l =>
   simp only [List.map_cons, List.cons.injEq] at h1
   obtain ⟨rfl, rfl⟩ := h1
   obtain ⟨hn, h2⟩ := List.nodup_cons.1 h2
   obtain ⟨hB, hD⟩ := h3 D (by simp)
   refine ⟨hu, .inl ⟨D, _, rfl, run_takeDeferred hD, ih _ ⟨l, rfl, h2, fun x hx => ⟨(h3 x (by simp [hx])).1, (World.putObj_heap_other (fun e => by subst e; exact hn hx)).trans (h3 x (by simp [hx])).2⟩⟩ fun w' hs => h w' ?_⟩⟩
   refine ⟨hs.os, hs.tape, hs.output, by rw [hs.size]; simp, fun b hb => (hs.low b hb).trans (World.putObj_heap_other (by omega)), fun b o hb ho => ?_⟩
   have hne : b ≠ D := by
    rintro rfl
    rw [hD] at hb
    exact ho _ (Option.some.inj hb).symm
   exact hs.other b o ((World.putObj_heap_other hne).trans hb) ho
theorem Shut.below {B N : Nat} {w w' : World} (h : Shut B w w') (hN : N ≤ B) : Below N w w' := ⟨h.os, h.tape, h.output, by rw [h.size]; exact Nat.le_refl _, fun b hb => h.low b (by omega)⟩
theorem Shut.blk {B : Nat} {w w' : World} (h : Shut B w w') {g : Nat} {t : TypeId} {cs : Array Value} (hb : Blk w g t cs) : Blk w' g t cs := h.other g _ hb (fun c e => by cases e)
theorem api_panic {f b B n : Nat} {x e : Int} {fn : Func} {tmps : Array Value} {R : Ending → World → Prop} {ds : List Deferred} {w : World} (hf : IsAns f) (ef : ∀ args w, (callFunc f args).run Try.prog w = .ok (.enter f args) w) (hm : Marks B w ds) (hk : Blk w b 30 #[.int .i64 x])
  (hfin : ∀ w', Blk w' b 30 #[.int .i64 e] → (∀ (g : Nat) (t : TypeId) (cs : Array Value), g ≠ b → Blk w g t cs → Blk w' g t cs) → (∀ N, N ≤ B → N ≤ b → Below N w w') → ∃ v, (results fn tmps).run Try.prog w' = .ok v w' ∧ R (.returned v) w') :
  LeavesInM Fence.wide n Try.prog fn tmps R (ds ++ [ansD f b]) (.panicking [refE e]) w := by
 refine leaves_marksR (by simp) _ ds w hm fun w1 hs => ?_
 refine ⟨by simp, .inr ⟨by simp [Fence.wide], .func f, #[.pointer (some ⟨b, 0, none⟩)], f, #[.pointer (some ⟨b, 0, none⟩)], rfl, by simp [ansD, invoke, go_sem, ef], fun _ _ => trivial, ?_⟩⟩
 refine (hf.1 b x e w1 (n - 1) (hs.blk hk)).mono ?_
 rintro en u' w' ⟨rfl, rfl, rfl⟩
 have hsz := (hs.blk hk).lt
 have hb1 : Blk (ansW w1 b e) b 30 #[.int .i64 e] := ((hs.blk hk).set_ 0 _).alloc _
 refine hfin _ hb1 (fun g t cs hg h => ((hs.blk h).far (p := ⟨b, 0, none⟩) hg _).alloc _) (fun N h1 h2 => ?_)
 have h3 := (hs.below h1).size
 have h4 : N ≤ w1.heap.size := by omega
 exact ((hs.below h1).setCell (p := ⟨b, 0, none⟩) h2 _).alloc (by rw [hs.size] at h4; simpa [World.setCell, hs.size] using h4) _
theorem api_ret {f b B n : Nat} {fn : Func} {tmps : Array Value} {R : Ending → World → Prop} {ds : List Deferred} {w : World} (hf : IsAns f) (ef : ∀ args w, (callFunc f args).run Try.prog w = .ok (.enter f args) w) (hm : Marks B w ds)
  (hfin : ∀ w', (∀ (g : Nat) (t : TypeId) (cs : Array Value), Blk w g t cs → Blk w' g t cs) → (∀ N, N ≤ B → Below N w w') → ∃ v, (results fn tmps).run Try.prog w' = .ok v w' ∧ R (.returned v) w') :
  LeavesInM Fence.wide n Try.prog fn tmps R (ds ++ [ansD f b]) .returning w := by
 refine leaves_marksR (by simp) _ ds w hm fun w1 hs => ?_
 refine ⟨by simp, .inr ⟨by simp [Fence.wide], .func f, #[.pointer (some ⟨b, 0, none⟩)], f, #[.pointer (some ⟨b, 0, none⟩)], rfl, by simp [ansD, invoke, go_sem, ef], fun _ _ => trivial, ?_⟩⟩
 refine (hf.2 ⟨b, 0, none⟩ w1 (n - 1)).mono ?_
 rintro en u' w' ⟨rfl, rfl, rfl⟩
 exact hfin _ (fun g t cs h => hs.blk h) (fun N h1 => hs.below h1)
end Go.Proofs.Ytiodmkokpfgkkaa
namespace Go.HavG
open Go.RowKit
/-- Nothing is asked of the worlds. -/
def RelT : Rel where
 G _ _ := True
 refl _ := trivial
 trans _ _ := trivial
 drew _ := trivial
section
variable {P : Program} {ops : Array Oper}
/-- The walk: first what only reads, in every world of I; then the chain, at its own worlds. -/
def wpStg (P : Program) (ops : Array Oper) (I : World → Prop) (Qp : List PanicEntry → World → Prop) (Cont : Act → World → Prop) : List (Nat × Bool) → Act → World → Prop
 | [], a, w => Cont a w
 | (i, g) :: rest, a, w => ∃ o, ops[i]? = some o ∧
  if g then Obl RelT P ops Qp o a w (fun v w' => I w' ∧ wpStg P ops I Qp Cont rest (a.put o.dst v) w')
  else ∃ V : Value, (∀ w, I w → Obl RelT P ops Qp o a w (fun v w' => v = V ∧ w' = w)) ∧ wpStg P ops I Qp Cont rest (a.put o.dst V) w
variable {I : World → Prop} {Qp : List PanicEntry → World → Prop} {Cont : Act → World → Prop}
theorem wpStg_swap {x y : Nat} {g : Bool} {rest : List (Nat × Bool)} {a : Act} {w : World}
  (hsel : Region.noSelect ops = true) (hap : ∀ ox oy, ops[x]? = some ox → ops[y]? = some oy → ox.apart ops oy = true)
  (h : wpStg P ops I Qp Cont ((x, false) :: (y, g) :: rest) a w) : wpStg P ops I Qp Cont ((y, g) :: (x, false) :: rest) a w := by
 obtain ⟨ox, hox, h⟩ := h
 simp only [Bool.false_eq_true, if_false] at h
 obtain ⟨V, hV, oy, hoy, h⟩ := h
 obtain ⟨a1, a2, a3⟩ := Oper.apart_spec (hap ox oy hox hoy)
 have hsx := fun cs b => Region.noSelect_spec hsel x ox cs b hox
 have hsy := fun cs b => Region.noSelect_spec hsel y oy cs b hoy
 refine ⟨oy, hoy, ?_⟩
 cases g
 ·simp only [Bool.false_eq_true, if_false] at h ⊢
  obtain ⟨U, hU, h⟩ := h
  refine ⟨U, fun w h1 => Obl.of_put hsy a1 (hU w h1), ox, hox, ?_⟩
  simp only [Bool.false_eq_true, if_false]
  refine ⟨V, fun w h1 => Obl.to_put hsx a3 (fun d hd e => a2 d e hd) (hV w h1), ?_⟩
  rw [← Act.put_comm a V U a2]
  exact h
 ·simp only [if_true] at h ⊢
  refine (Obl.of_put hsy a1 h).weaken fun v w' _ ⟨hI, hr⟩ => ⟨hI, ox, hox, ?_⟩
  simp only [Bool.false_eq_true, if_false]
  refine ⟨V, fun w h1 => Obl.to_put hsx a3 (fun d hd e => a2 d e hd) (hV w h1), ?_⟩
  rw [← Act.put_comm a V v a2]
  exact hr
theorem wpStg_front {y : Nat} {g : Bool} (hsel : Region.noSelect ops = true) :
  ∀ (pre rest : List (Nat × Bool)) (a : Act) (w : World), (∀ x ∈ pre, x.2 = false ∧ ∀ ox oy, ops[x.1]? = some ox → ops[y]? = some oy → ox.apart ops oy = true) →
   wpStg P ops I Qp Cont (pre ++ (y, g) :: rest) a w → wpStg P ops I Qp Cont ((y, g) :: (pre ++ rest)) a w := by
 intro pre
 induction pre with
 | nil => intro rest a w _ h; exact h
 | cons x pre ih =>
  intro rest a w hp h
  obtain ⟨x, gx⟩ := x
  obtain ⟨hg, hap⟩ := hp (x, gx) (by simp)
  simp only at hg
  subst hg
  refine wpStg_swap hsel hap ?_
  simp only [List.cons_append, wpStg, Bool.false_eq_true, if_false] at h ⊢
  obtain ⟨ox, hox, V, hV, h⟩ := h
  exact ⟨ox, hox, V, hV, ih rest _ _ (fun z hz => hp z (List.mem_cons_of_mem _ hz)) h⟩
theorem stg_any {Q : Exit → Act → World → Prop} {a0 : Act} {S : List Nat} (hsel : Region.noSelect ops = true)
  (hlow : ∀ i o e, ops[i]? = some o → e ∈ o.after → Region.binds .any e = true → e.on < i) (hQ : ∀ ch a w, Agree ops S a0 a → Qp ch w → Q (.panic ch) a w)
  (τ : List Nat) (hch : chainOk (Region.before ops) τ = true) (hlt : ∀ i ∈ τ, i < ops.size) :
  ∀ (n : Nat) (π : List (Nat × Bool)) (listed : Array Bool) (a : Act) (w : World), π.length = n → listed.size = ops.size → Closed ops listed → pairsOk ops (Region.before ops) π = true →
   (∀ t ∈ τ, ∀ x ∈ π, t ≠ x.1 ∧ ((Region.before ops).getD t 0).testBit x.1 = true) → (∀ x ∈ π, x.1 < ops.size) → (∀ x ∈ π, x.1 ∈ S) → (∀ i, i < ops.size → (¬ listed.getD i false = true ↔ i ∈ π.map (·.1) ∨ i ∈ τ)) →
   I w → Agree ops S a0 a → wpStg P ops I Qp (fun a w => wpList P ops Q (τ.filterMap (ops[·]?)) a w) π a w → wpAny P .any ops Q (n + τ.length) listed a w := by
 intro n
 induction n with
 | zero =>
  intro π listed a w hn hsz hcl _ _ _ _ hun _ _ h
  obtain rfl : π = [] := List.eq_nil_of_length_eq_zero hn
  rw [Nat.zero_add]
  exact tail_any hlow τ listed a w hsz hcl hch (fun i hi => by simpa using hun i hi) hlt h
 | succ n ih =>
  intro π listed a w hn hsz hcl hpo hτ hπ hS hun hI hag h
  have hne : Region.ready .any ops listed ≠ [] := by
   match π, hn with
   | x :: π', _ =>
    have hx := hπ x (by simp)
    exact ready_some hsz hlow hx ((hun x.1 hx).2 (.inl (by simp)))
  rw [show n + 1 + τ.length = (n + τ.length) + 1 by omega]
  refine ⟨fun h0 => absurd h0 hne, fun i hi => ?_⟩
  obtain ⟨h0, o, ho, _⟩ := mem_ready.1 hi
  have hil := (Array.getElem?_eq_some_iff.1 ho).1
  have hiu := (getD_false_iff (by omega)).1 h0
  have hmem : i ∈ π.map (·.1) := by
   rcases (hun i hil).1 hiu with h1 | h1
   ·exact h1
   ·exfalso
    match π, hn with
    | x :: π', _ =>
     have hx := hπ x (by simp)
     exact ((hun x.1 hx).2 (.inl (by simp))) (ready_deps hcl hi (hτ i h1 x (by simp)).2)
  obtain ⟨⟨i', g⟩, hm, rfl⟩ := List.mem_map.1 hmem
  simp only at *
  obtain ⟨pre, rest, rfl⟩ := List.append_of_mem hm
  have hpre : ∀ (pre : List (Nat × Bool)) (rest : List (Nat × Bool)), pairsOk ops (Region.before ops) (pre ++ (i', g) :: rest) = true → (∀ x ∈ pre, x.1 < ops.size ∧ ¬ listed.getD x.1 false = true) →
    (∀ x ∈ pre, x.2 = false ∧ ∀ ox oy, ops[x.1]? = some ox → ops[i']? = some oy → ox.apart ops oy = true) ∧ pairsOk ops (Region.before ops) (pre ++ rest) = true ∧ i' ∉ (pre ++ rest).map (·.1) := by
   intro pre
   induction pre with
   | nil =>
    intro rest hp _
    simp only [List.nil_append, pairsOk, Bool.and_eq_true, List.all_eq_true, bne_iff_ne] at hp ⊢
    refine ⟨by simp, hp.2, fun hc => ?_⟩
    obtain ⟨y, hy, he⟩ := List.mem_map.1 hc
    exact (hp.1 y hy).1 he
   | cons x pre ihp =>
    intro rest hp hx
    obtain ⟨x, gx⟩ := x
    simp only [List.cons_append, pairsOk, Bool.and_eq_true, List.all_eq_true, bne_iff_ne] at hp
    obtain ⟨r1, r2, r3⟩ := ihp rest hp.2 (fun z hz => hx z (List.mem_cons_of_mem _ hz))
    have h1 := hp.1 (i', g) (by simp)
    have hnd : ((Region.before ops).getD i' 0).testBit x = false := by
     cases hb : ((Region.before ops).getD i' 0).testBit x
     ·rfl
     ·exact absurd (ready_deps hcl hi hb) (hx (x, gx) (by simp)).2
    simp only [hnd, Bool.false_or, Bool.and_eq_true, Bool.not_eq_true'] at h1
    refine ⟨fun z hz => ?_, ?_, ?_⟩
    ·rcases List.mem_cons.1 hz with rfl | hz
     ·exact ⟨h1.2.1, fun ox oy hox hoy => by simpa [hox, hoy] using h1.2.2⟩
     ·exact r1 z hz
    ·simp only [List.cons_append, pairsOk, Bool.and_eq_true, List.all_eq_true, bne_iff_ne]
     refine ⟨fun y hy => hp.1 y ?_, r2⟩
     rcases List.mem_append.1 hy with hy | hy
     ·exact List.mem_append_left _ hy
     ·exact List.mem_append_right _ (List.mem_cons_of_mem _ hy)
    ·simp only [List.cons_append, List.map_cons, List.mem_cons, not_or]
     exact ⟨h1.1, r3⟩
  obtain ⟨q1, q2, q3⟩ := hpre pre rest hpo (fun x hx => ⟨hπ x (List.mem_append_left _ hx), (hun x.1 (hπ x (List.mem_append_left _ hx))).2 (.inl (List.mem_map.2 ⟨x, List.mem_append_left _ hx, rfl⟩))⟩)
  have hf := wpStg_front hsel pre rest a w q1 h
  obtain ⟨o', ho', hf⟩ := hf
  rw [ho] at ho'
  obtain rfl := Option.some.inj ho'
  have next : ∀ (v : Value) (w' : World), I w' → wpStg P ops I Qp (fun a w => wpList P ops Q (τ.filterMap (ops[·]?)) a w) (pre ++ rest) (a.put o.dst v) w' →
    wpAny P .any ops Q (n + τ.length) (listed.setIfInBounds i' true) (a.put o.dst v) w' := fun v w' hs1 hs4 => by
   refine ih (pre ++ rest) _ _ w' (by simp at hn ⊢; omega) (by simpa using hsz) (hcl.step hi) q2 (fun t ht x hx => hτ t ht x ?_) (fun x hx => hπ x ?_) (fun x hx => hS x ?_) (fun k hk => ?_) hs1 (hag.put (hS (i', g) (by simp)) ho v) hs4
   ·rcases List.mem_append.1 hx with hx | hx
    ·exact List.mem_append_left _ hx
    ·exact List.mem_append_right _ (List.mem_cons_of_mem _ hx)
   ·rcases List.mem_append.1 hx with hx | hx
    ·exact List.mem_append_left _ hx
    ·exact List.mem_append_right _ (List.mem_cons_of_mem _ hx)
   ·rcases List.mem_append.1 hx with hx | hx
    ·exact List.mem_append_left _ hx
    ·exact List.mem_append_right _ (List.mem_cons_of_mem _ hx)
   ·by_cases hik : i' = k
    ·subst hik
     rw [Array.getD_eq_getD_getElem?, Array.getElem?_setIfInBounds_self_of_lt (by omega)]
     simp only [Option.getD_some, not_true_eq_false, false_iff, not_or]
     exact ⟨q3, fun h1 => (hτ i' h1 (i', g) (by simp)).1 rfl⟩
    ·rw [getD_set_ne false hik, hun k hk]
     simp [Ne.symm hik]
  have fin : ∀ (Φ : Value → World → Prop) , Obl RelT P ops Qp o a w Φ → (∀ v w', Φ v w' → wpAny P .any ops Q (n + τ.length) (listed.setIfInBounds i' true) (a.put o.dst v) w') →
    wpOp P ops Q i' (wpAny P .any ops Q (n + τ.length) (listed.setIfInBounds i' true)) a w := fun Φ hO hN => by
   unfold wpOp
   simp only [ho]
   unfold Obl stepOf at hO
   split
   ·rename_i hw
    rw [if_pos hw] at hO
    exact .inl (Oper.wp_mono (fun a' w' ⟨v, e, _, h2⟩ => by rw [e]; exact hN v w' h2) (wp_of_Qh (fun ch w' hc => hQ ch a w' hag hc) hO))
   ·rename_i hw
    rw [if_neg hw] at hO
    obtain ⟨v, e, _, h2⟩ := hO
    rw [e]
    exact hN v w h2
  cases g
  ·simp only [Bool.false_eq_true, if_false] at hf
   obtain ⟨V, hV, hf⟩ := hf
   exact fin _ (hV w hI) fun v w' h2 => by rw [h2.1, h2.2]; exact next V w hI hf
  ·simp only [if_true] at hf
   exact fin _ hf fun v w' h2 => next v w' h2.1 h2.2
theorem wp_region_stg {Q : Exit → Act → World → Prop} (I : World → Prop) (π : List (Nat × Bool)) (τ : List Nat) (Qp : List PanicEntry → World → Prop) {id : Nat} {a : Act} {w : World} (hm : P.follows .mixedOrders = true) (hok : havOk ops π τ = true)
  (hQ : ∀ ch a' w', Agree ops (π.map (·.1)) a a' → Qp ch w' → Q (.panic ch) a' w') (hI : I w.drew)
  (h : wpStg P ops I Qp (fun a w => wpList P ops Q (τ.filterMap (ops[·]?)) a w) π a w.drew) : (Code.region id ops true).wp P Q a w := by
 simp only [havOk, Bool.and_eq_true, List.all_eq_true, List.mem_range, Bool.or_eq_true, List.any_eq_true, beq_iff_eq, decide_eq_true_eq, bne_iff_ne, List.contains_iff_mem] at hok
 obtain ⟨c1, c2, c3, c4, c5, ⟨c6, c7⟩, c8, c9⟩ := hok
 have hlow : ∀ i o e, ops[i]? = some o → e ∈ o.after → Region.binds .any e = true → e.on < i := fun i o e ho he hb => by
  have h1 := c9 i (Array.getElem?_eq_some_iff.1 ho).1
  simp only [ho, Array.all_eq_true_iff_forall_mem, Bool.or_eq_true, Bool.not_eq_true', decide_eq_true_eq] at h1
  exact (h1 e he).resolve_left (by simp [hb])
 refine wp_region_any hm ?_
 rw [← c8]
 refine stg_any (a0 := a) (Qp := Qp) c1 hlow hQ τ c3 c7 π.length π _ a _ rfl (by simp [c8]) ?_ c2 c4 c6 (fun x hx => List.mem_map.2 ⟨x, hx, rfl⟩) (fun i hi => ?_) hI ⟨rfl, rfl, fun _ _ => rfl⟩ h
 ·intro i o e _ hl
  simp [Array.getD_eq_getD_getElem?, Array.getElem?_replicate] at hl
  split at hl <;> simp at hl
 ·have hr : ¬ (Array.replicate (π.length + τ.length) false).getD i false = true := by
   simp [Array.getD_eq_getD_getElem?, Array.getElem?_replicate]
   split <;> rfl
  refine ⟨fun _ => ?_, fun _ => by simpa [c8] using hr⟩
  rcases c5 i hi with ⟨x, hx, he⟩ | hx
  ·exact .inl (List.mem_map.2 ⟨x, hx, he⟩)
  ·exact .inr hx
/-- A step that only reads. -/
theorem stg_same {i : Nat} {rest : List (Nat × Bool)} {a : Act} {w : World} {o : Oper} {V : Value} (ho : ops[i]? = some o) (hw : Region.wanted o (yielded ops a.tmps) = true)
  (h1 : ∀ w, I w → (execOp a.eval o).run P w = .ok (.value V) w) (h2 : wpStg P ops I Qp Cont rest (a.put o.dst V) w) : wpStg P ops I Qp Cont ((i, false) :: rest) a w :=
 ⟨o, ho, by
  simp only [Bool.false_eq_true, if_false]
  exact ⟨V, fun w hI => Obl.of_K fun K hK => by unfold stepOf Oper.wp; rw [if_pos hw, h1 w hI]; exact hK V w trivial ⟨rfl, rfl⟩, h2⟩⟩
/-- One that is passed over. -/
theorem stg_skip {i : Nat} {rest : List (Nat × Bool)} {a : Act} {w : World} {o : Oper} (ho : ops[i]? = some o) (hw : Region.wanted o (yielded ops a.tmps) = false)
  (h2 : wpStg P ops I Qp Cont rest (a.put o.dst undef) w) : wpStg P ops I Qp Cont ((i, false) :: rest) a w :=
 ⟨o, ho, by
  simp only [Bool.false_eq_true, if_false]
  exact ⟨undef, fun w _ => Obl.of_K fun K hK => by unfold stepOf; rw [if_neg (by rw [hw]; exact Bool.false_ne_true)]; exact hK undef w trivial ⟨rfl, rfl⟩, h2⟩⟩
/-- A step of the chain that is a call. -/
theorem stg_call {i : Nat} {rest : List (Nat × Bool)} {a : Act} {w : World} {o : Oper} {f : FuncId} {args : Array Value} (ho : ops[i]? = some o) (hw : Region.wanted o (yielded ops a.tmps) = true)
  (h0 : (execOp a.eval o).run P w = .ok (.enter f args) w)
  (h1 : Calls P f args w fun e w' => (∃ v, e = .returned v ∧ I w' ∧ wpStg P ops I Qp Cont rest (a.put o.dst v) w') ∨ (∃ ch, e = .panicked ch ∧ Qp ch w')) : wpStg P ops I Qp Cont ((i, true) :: rest) a w :=
 ⟨o, ho, by
  simp only [if_true]
  exact Obl.of_K fun K hK => by
   unfold stepOf Oper.wp
   rw [if_pos hw, h0]
   simp only [Oper.upon]
   refine h1.mono ?_
   rintro e w' (⟨v, rfl, hb, hp⟩ | ⟨ch, rfl, hp⟩)
   ·exact hK v w' trivial ⟨hb, hp⟩
   ·exact hp⟩
/-- A step of the chain that is no call. -/
theorem stg_val {i : Nat} {rest : List (Nat × Bool)} {a : Act} {w w' : World} {o : Oper} {v : Value} (ho : ops[i]? = some o) (hw : Region.wanted o (yielded ops a.tmps) = true)
  (h0 : (execOp a.eval o).run P w = .ok (.value v) w') (hI : I w') (h1 : wpStg P ops I Qp Cont rest (a.put o.dst v) w') : wpStg P ops I Qp Cont ((i, true) :: rest) a w :=
 ⟨o, ho, by
  simp only [if_true]
  exact Obl.of_K fun K hK => by
   unfold stepOf Oper.wp
   rw [if_pos hw, h0]
   exact hK v w' trivial ⟨hI, h1⟩⟩
end
end Go.HavG
