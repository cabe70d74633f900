/- The walk of open, from its end: what is asked beside, the looks, the freshes, the head. What the exported functions share: open and told for every river; what else is asked; whether there is a truth. Condition: what the statements say. -/
import Derived.Test.YtgmfhngcehkibaaGreatPkB9
import Derived.Tactics
import Derived.Tactics2
import Derived.Defers
import Derived.Recover
import Derived.Laws.Pointers
set_option maxRecDepth 100000
set_option maxHeartbeats 6400000
namespace Go.Proofs.YtgmfhngcehkibaaGreat
open Go.RowKit Go.Hav Go.Shelf Go.Sq
attribute [local go_sem] Oper.semAt_some
def frI (f : IFr) : List Value := [.int .i64 f.days.lo, .int .i64 f.days.hi, .int .i64 f.rise.lo, .int .i64 f.rise.hi]
def lkI (l : ILk) : List Value := [.int .i64 l.day, .int .i64 l.dep.lo, .int .i64 l.dep.hi]
structure RvIn (w : World) (B : Nat) (fa : Option Addr) (fl : Nat) (la : Option Addr) (ll : Nat) (r : IRiv) : Prop where
 efl : r.fr.length = fl
 ell : r.lk.length = ll
 hfr : RdG frI 4 w B fa r.fr
 hlk : RdG lkI 3 w B la r.lk
 mfl : fl ≤ 9223372036854775807
 mll : ll ≤ 9223372036854775807
theorem RvIn.grow {w w' : World} {fa la : Option Addr} {fl ll : Nat} {r : IRiv} (h : RvIn w w.heap.size fa fl la ll r) (hb : Below w.heap.size w w') : RvIn w' w'.heap.size fa fl la ll r :=
 { h with hfr := h.hfr.grow hb, hlk := h.hlk.grow hb }
section
variable {w : World} {B : Nat} {A : Option Addr}
theorem rd_frI {l : List IFr} (h : RdG frI 4 w B A l) (k : Nat) (c : IFr) (hc : l[k]? = some c) : ∃ b off, A = some ⟨b, off, none⟩ ∧ b < B ∧ w.cell? ⟨b, off + k * 4, none⟩ = some (.int .i64 c.days.lo) ∧ w.cell? ⟨b, off + k * 4 + 1, none⟩ = some (.int .i64 c.days.hi) ∧
  w.cell? ⟨b, off + k * 4 + 2, none⟩ = some (.int .i64 c.rise.lo) ∧ w.cell? ⟨b, off + k * 4 + 3, none⟩ = some (.int .i64 c.rise.hi) := by
 obtain ⟨b, off, e, hb, hx⟩ := h k c hc; exact ⟨b, off, e, hb, hx 0 _ rfl, by rw [Nat.add_assoc]; exact hx 1 _ rfl, by rw [Nat.add_assoc]; exact hx 2 _ rfl, by rw [Nat.add_assoc]; exact hx 3 _ rfl⟩
theorem rd_lkI {l : List ILk} (h : RdG lkI 3 w B A l) (k : Nat) (c : ILk) (hc : l[k]? = some c) : ∃ b off, A = some ⟨b, off, none⟩ ∧ b < B ∧ w.cell? ⟨b, off + k * 3, none⟩ = some (.int .i64 c.day) ∧ w.cell? ⟨b, off + k * 3 + 1, none⟩ = some (.int .i64 c.dep.lo) ∧
  w.cell? ⟨b, off + k * 3 + 2, none⟩ = some (.int .i64 c.dep.hi) := by
 obtain ⟨b, off, e, hb, hx⟩ := h k c hc; exact ⟨b, off, e, hb, hx 0 _ rfl, by rw [Nat.add_assoc]; exact hx 1 _ rfl, by rw [Nat.add_assoc]; exact hx 2 _ rfl⟩
theorem fr_nat {days : Int} {l : List IFr} (h : RdG frI 4 w B A l) (hv : l.all (frB days) = true) : RdG frF 4 w B A (l.map (·.nat)) := fun k x hx => by
 rw [List.getElem?_map] at hx; obtain ⟨c, hc, rfl⟩ := Option.map_eq_some_iff.1 hx; have := List.all_eq_true.1 hv c (List.mem_of_getElem? hc); unfold frB at this; rw [Bool.and_eq_true] at this; obtain ⟨h1, h2⟩ := this; obtain ⟨a1, a2, _⟩ := spB_iff.1 h1; obtain ⟨b1, b2, _⟩ := spB_iff.1 h2
 have e : frF c.nat = frI c := by
  unfold frF frI IFr.nat ISp.nat; simp only; rw [show ((c.days.lo.toNat : Nat) : Int) = c.days.lo by omega, show ((c.days.hi.toNat : Nat) : Int) = c.days.hi by omega, show ((c.rise.lo.toNat : Nat) : Int) = c.rise.lo by omega, show ((c.rise.hi.toNat : Nat) : Int) = c.rise.hi by omega]
 rw [e]; exact h k c hc
theorem lk_nat {days : Int} {l : List ILk} (h : RdG lkI 3 w B A l) (hv : l.all (lkB days) = true) : RdG lkF 3 w B A (l.map (·.nat)) := fun k x hx => by
 rw [List.getElem?_map] at hx; obtain ⟨c, hc, rfl⟩ := Option.map_eq_some_iff.1 hx; have := List.all_eq_true.1 hv c (List.mem_of_getElem? hc); unfold lkB at this; rw [Bool.and_eq_true] at this; obtain ⟨h1, h2⟩ := this; have a1 := inB_iff.1 h1; obtain ⟨b1, b2, _⟩ := spB_iff.1 h2
 have e : lkF c.nat = lkI c := by
  unfold lkF lkI ILk.nat ISp.nat; simp only; rw [show ((c.day.toNat : Nat) : Int) = c.day by omega, show ((c.dep.lo.toNat : Nat) : Int) = c.dep.lo by omega, show ((c.dep.hi.toNat : Nat) : Int) = c.dep.hi by omega]
 rw [e]; exact h k c hc
end
theorem okR_parts {r : IRiv} (h : okR r = true) : (spB r.depth 0 60 4 = true ∧ spB r.fall 0 5 2 = true ∧ inB r.days 1 10 = true ∧ r.fr.length ≤ 3 ∧ r.lk.length ≤ 5) ∧ r.fr.all (frB r.days) = true ∧ r.lk.all (lkB r.days) = true := by
 unfold okR headB at h; simp only [Bool.and_eq_true, decide_eq_true_eq] at h; obtain ⟨⟨⟨⟨⟨⟨h1, h2⟩, h3⟩, h4⟩, h5⟩, h6⟩, h7⟩ := h; exact ⟨⟨h1, h2, h3, h4, h5⟩, h6, h7⟩
theorem good_of {r : IRiv} (h : okR r = true) : r.nat.Good := by
 obtain ⟨⟨h1, h2, h3, h4, h5⟩, h6, h7⟩ := okR_parts h; obtain ⟨a1, a2, a3, a4⟩ := spB_iff.1 h1; obtain ⟨b1, b2, b3, b4⟩ := spB_iff.1 h2; have c1 := inB_iff.1 h3
 refine ⟨?_, ?_, ?_, ?_, ?_, ?_, ?_, ?_, ?_, ?_, fun f hf => ?_, fun l hl => ?_⟩
 ·simp only [IRiv.nat, ISp.nat]; omega
 ·simp only [IRiv.nat, ISp.nat]; omega
 ·simp only [IRiv.nat, ISp.nat]; omega
 ·simp only [IRiv.nat, ISp.nat]; omega
 ·simp only [IRiv.nat, ISp.nat]; omega
 ·simp only [IRiv.nat, ISp.nat]; omega
 ·simp only [IRiv.nat]; omega
 ·simp only [IRiv.nat]; omega
 ·simp only [IRiv.nat, List.length_map]; exact h4
 ·simp only [IRiv.nat, List.length_map]; exact h5
 ·simp only [IRiv.nat, List.mem_map] at hf; obtain ⟨c, hc, rfl⟩ := hf; have := List.all_eq_true.1 h6 c hc; unfold frB at this; rw [Bool.and_eq_true] at this; obtain ⟨d1, d2, d3, d4⟩ := spB_iff.1 this.1; obtain ⟨e1, e2, e3, e4⟩ := spB_iff.1 this.2; simp only [IRiv.nat, IFr.nat, ISp.nat]
  omega
 ·simp only [IRiv.nat, List.mem_map] at hl; obtain ⟨c, hc, rfl⟩ := hl; have := List.all_eq_true.1 h7 c hc; unfold lkB at this; rw [Bool.and_eq_true] at this; have d1 := inB_iff.1 this.1; obtain ⟨e1, e2, e3, e4⟩ := spB_iff.1 this.2; simp only [IRiv.nat, ILk.nat, ISp.nat]
  omega
noncomputable def openTail (n : Nat) : Code := dropSeq n (Tryz.f108.body.getD .skip)
section
variable {fa la : Option Addr} {fl fc ll lc : Nat} {r : IRiv} {b : Bool} {w : World}
def FirstM (N k : Nat) (w : World) : Prop := ∀ (g : Nat) (o : Obj), N ≤ g → g < k → w.heap[g]? = some o → o.isWalk = false
theorem FirstM.turn {N k : Nat} {X Y : World} {S : Nat → Prop} (h : FirstM N k X) (t : Turn S X Y) (hk : k < X.heap.size) (hs : ∀ g, N ≤ g → g < k → ¬ S g) : FirstM N k Y := fun g o h1 h2 h3 => h g o h1 h2 ((t.block g (by omega) (hs g h1 h2)).symm.trans h3)
def OpenPost (fa : Option Addr) (fl fc : Nat) (la : Option Addr) (ll lc : Nat) (r : IRiv) (b : Bool) (w : World) (e : Ending) (w' : World) : Prop :=
 Below w.heap.size w w' ∧ ((okR r = false ∧ e = .panicked [refE 1]) ∨ (okR r = true ∧ b = false ∧ e = .panicked [refE 2]) ∨
  (okR r = true ∧ b = true ∧ ∃ d k, e = .returned (.pointer (some ⟨d, 0, none⟩)) ∧ d < w'.heap.size ∧ GauIn w' w.heap.size d k fa fl fc la ll lc r.nat ∧ KeptOK w' k r.nat ∧ FirstM w.heap.size k w'))
def IsG (w : World) (fa : Option Addr) (fl fc : Nat) (la : Option Addr) (ll lc : Nat) (r : IRiv) (g : Nat) (cap : Array Value) (b : Bool) : Prop :=
 ∀ (wq : World) (d k : Nat), Below w.heap.size w wq → GauIn wq w.heap.size d k fa fl fc la ll lc r.nat → Calls Tryz.prog g (#[.pointer (some ⟨d, 0, none⟩)] ++ cap) wq fun e w' => e = .returned (.bool b) ∧ w' = wq
theorem openT6 (g : Nat) (cap : Array Value) (eg : ∀ args w, (callFunc g args).run Tryz.prog w = .ok (.enter g args) w) (hg : IsG w fa fl fc la ll lc r g cap b) (hv : okR r = true) {w1 : World} {d k : Nat} (hb : Below w.heap.size w w1) (hd : d < w1.heap.size) (hD : GauIn w1 w.heap.size d k fa fl fc la ll lc r.nat) (hK : KeptOK w1 k r.nat) (hfm : FirstM w.heap.size k w1)
  {c0 c2 c3 c4 c5 c6 c7 c9 c10 c11 c12 c13 c14 c15 c16 c17 c18 c19 c20 c21 c22 c23 c24 c25 c26 c27 c28 c29 c30 c31 c32 c33 c34 c35 c36 c37 c38 c39 c40 c41 c42 c43 c44 c45 c46 c47 c48 c49 c50 c51 c52 c53 c54 c55 c56 c57 c58 c59 c60 c61 c62 c63 c64 c65 c66 c67 c68 c69 c70 c71 c72 c73 c74 c75 c76 c77 c78 c79 c80 c81 c82 c83 c84 c85 c86 c87 : Value} : Code.wp Tryz.prog (openTail 6) (bodyPost Tryz.prog Tryz.f108 (OpenPost fa fl fc la ll lc r b w)) ⟨(c0::(.func (.func g) #[] cap)::c2::c3::c4::c5::c6::c7::(.pointer (some ⟨d, 0, none⟩))::c9::c10::c11::c12::c13::c14::c15::c16::c17::c18::c19::c20::c21::c22::c23::c24::c25::c26::c27::c28::c29::c30::c31::c32::c33::c34::c35::c36::c37::c38::c39::c40::c41::c42::c43::c44::c45::c46::c47::c48::c49::c50::c51::c52::c53::c54::c55::c56::c57::c58::c59::c60::c61::c62::c63::c64::c65::c66::c67::c68::c69::c70::c71::c72::c73::c74::c75::c76::c77::c78::c79::c80::c81::c82::c83::c84::c85::c86::c87::[]).toArray, []⟩ w1 := by
 conv => arg 2; whnf
 have HG := Lib.hid hg; have HV := Lib.hid hv; have HB := Lib.hid hb; have HD := Lib.hid hD; have HK := Lib.hid hK; have HFM := Lib.hid hfm; clear hg hv hb hD hK hfm; go_wp2_with fail; refine (HG.out w1 d k HB.out HD.out).mono ?_; cases b
 ·rintro e w' ⟨rfl, rfl⟩; go_wp2_with fail; refine (must_any false 2 _).mono ?_; rintro e w2 ⟨h1, rfl⟩; obtain rfl : e = .panicked [refE 2] := h1; have HP : Hid (OpenPost fa fl fc la ll lc r false w (.panicked [refE 2]) w2) := ⟨HB.out, .inr (.inl ⟨HV.out, rfl, rfl⟩)⟩; go_wp2; exact ⟨rfl, HP.out⟩
 ·rintro e w' ⟨rfl, rfl⟩; go_wp2_with fail; refine (must_any true 2 _).mono ?_; rintro e w2 ⟨h1, rfl⟩; obtain rfl : e = .returned (.tuple #[]) := h1; have HP : Hid (OpenPost fa fl fc la ll lc r true w (.returned (.pointer (some ⟨d, 0, none⟩))) w2) := ⟨HB.out, .inr (.inr ⟨HV.out, rfl, d, k, rfl, hd, HD.out, HK.out, HFM.out⟩)⟩; go_wp2; go_ret
  exact HP.out
end
end Go.Proofs.YtgmfhngcehkibaaGreat
namespace Go.Proofs.YtgmfhngcehkibaaGreat
open Go.RowKit Go.Hav Go.Shelf Go.Sq
attribute [local go_sem] Oper.semAt_some
theorem take_all_succ {α : Type} (f : α → Bool) (l : List α) (k : Nat) (x : α) (h : l[k]? = some x) : (l.take (k + 1)).all f = ((l.take k).all f && f x) := by
 rw [List.take_add_one, h]
 simp
theorem all_false {α : Type} {f : α → Bool} {l : List α} {k : Nat} {x : α} (h : l[k]? = some x) (hx : f x = false) : l.all f = false := by
 cases ha : l.all f with
 | false => rfl
 | true =>
  have := List.all_eq_true.1 ha x (List.mem_of_getElem? h); rw [hx] at this; cases this
section
variable {fa la : Option Addr} {fl fc ll lc : Nat} {r : IRiv} {b : Bool} {w : World}
def gCsI (r : IRiv) (fa : Option Addr) (fl fc : Nat) (la : Option Addr) (ll lc k : Nat) : Array Value :=
 #[.int .i64 r.depth.lo, .int .i64 r.depth.hi, .int .i64 r.fall.lo, .int .i64 r.fall.hi, .int .i64 r.days, .slice fa fl fc, .slice la ll lc, .map (some k)]
theorem gCsI_eq (h1 : spB r.depth 0 60 4 = true) (h2 : spB r.fall 0 5 2 = true) (h3 : inB r.days 1 10 = true) (k : Nat) : gCsI r fa fl fc la ll lc k = gCs r.nat fa fl fc la ll lc k := by
 obtain ⟨a1, a2, a3, a4⟩ := spB_iff.1 h1; obtain ⟨b1, b2, b3, b4⟩ := spB_iff.1 h2; have c1 := inB_iff.1 h3; unfold gCsI gCs; simp only [IRiv.nat, ISp.nat]; rw [show ((r.depth.lo.toNat : Nat) : Int) = r.depth.lo by omega, show ((r.depth.hi.toNat : Nat) : Int) = r.depth.hi by omega, show ((r.fall.lo.toNat : Nat) : Int) = r.fall.lo by omega, show ((r.fall.hi.toNat : Nat) : Int) = r.fall.hi by omega, show ((r.days.toNat : Nat) : Int) = r.days by omega]
structure OpenG (w : World) (fa : Option Addr) (fl fc : Nat) (la : Option Addr) (ll lc : Nat) (r : IRiv) (B2 d k : Nat) (w1 : World) : Prop where
 b : Below w.heap.size w w1
 box : Blk w1 B2 27 #[.int .i64 r.depth.lo, .int .i64 r.depth.hi, .int .i64 r.fall.lo, .int .i64 r.fall.hi, .int .i64 r.days, .slice fa fl fc, .slice la ll lc]
 g : Blk w1 d 179 (gCsI r fa fl fc la ll lc k)
 m : KeptOK w1 k r.nat
 hk : w.heap.size ≤ k
 hd : w.heap.size ≤ d
 kd : k ≠ d
 fm : FirstM w.heap.size k w1
theorem OpenG.grow {w1 w2 : World} {B2 d k : Nat} (h : OpenG w fa fl fc la ll lc r B2 d k w1) (hb : Below w1.heap.size w1 w2) : OpenG w fa fl fc la ll lc r B2 d k w2 :=
 { h with b := h.b.trans (hb.mono h.b.size), box := h.box.below hb h.box.lt, g := h.g.below hb h.g.lt, m := h.m.below hb, fm := h.fm.turn (S := fun _ => False) (Turn.of_below hb) (by obtain ⟨o, ho, _⟩ := h.m.lt; exact (Array.getElem?_eq_some_iff.1 ho).1) (fun _ _ _ h => h) }
theorem OpenG.gau {w1 : World} {B2 d k : Nat} (h : OpenG w fa fl fc la ll lc r B2 d k w1) (hP : RvIn w w.heap.size fa fl la ll r) (hv : okR r = true) : GauIn w1 w.heap.size d k fa fl fc la ll lc r.nat := by
 obtain ⟨⟨h1, h2, h3, h4, h5⟩, h6, h7⟩ := okR_parts hv; exact { blk := by rw [← gCsI_eq h1 h2 h3]; exact h.g, efl := by simp only [IRiv.nat, List.length_map]; exact hP.efl, ell := by simp only [IRiv.nat, List.length_map]; exact hP.ell, hfr := (fr_nat hP.hfr h6).below h.b, hlk := (lk_nat hP.hlk h7).below h.b, hB := h.b.size, hk := h.hk, hd := h.hd, kd := h.kd }
theorem openT5 (g : Nat) (cap : Array Value) (eg : ∀ args w, (callFunc g args).run Tryz.prog w = .ok (.enter g args) w) (hg : okR r = true → IsG w fa fl fc la ll lc r g cap b) (hP : RvIn w w.heap.size fa fl la ll r) (h1 : spB r.depth 0 60 4 = true) (h2 : spB r.fall 0 5 2 = true) (h3 : inB r.days 1 10 = true) (h4 : r.fr.length ≤ 3) (h5 : r.lk.length ≤ 5) (h6 : r.fr.all (frB r.days) = true)
  {w1 : World} {B2 d k : Nat} (hO : OpenG w fa fl fc la ll lc r B2 d k w1)
  {c0 c3 c4 c6 c7 c9 c10 c11 c12 c13 c14 c15 c16 c17 c18 c19 c20 c21 c22 c23 c24 c25 c26 c27 c28 c29 c30 c31 c32 c33 c34 c35 c36 c37 c38 c39 c40 c41 c42 c43 c44 c45 c46 c47 c48 c49 c50 c51 c52 c53 c54 c55 c56 c57 c58 c59 c60 c61 c62 c63 c64 c65 c66 c67 c68 c69 c70 c71 c72 c73 c74 c75 c76 c77 c78 c79 c80 c81 c82 c83 c84 c85 c86 c87 : Value} : Code.wp Tryz.prog (openTail 5) (bodyPost Tryz.prog Tryz.f108 (OpenPost fa fl fc la ll lc r b w)) ⟨(c0::(.func (.func g) #[] cap)::(.pointer (some ⟨B2, 0, none⟩))::c3::c4::(.func (.func 130) #[] #[])::c6::c7::(.pointer (some ⟨d, 0, none⟩))::c9::c10::c11::c12::c13::c14::c15::c16::c17::c18::c19::c20::c21::c22::c23::c24::c25::c26::c27::c28::c29::c30::c31::c32::c33::c34::c35::c36::c37::c38::c39::c40::c41::c42::c43::c44::c45::c46::c47::c48::c49::c50::c51::c52::c53::c54::c55::c56::c57::c58::c59::c60::c61::c62::c63::c64::c65::c66::c67::c68::c69::c70::c71::c72::c73::c74::c75::c76::c77::c78::c79::c80::c81::c82::c83::c84::c85::c86::c87::[]).toArray, []⟩ w1 := by
 conv => arg 2; whnf
 have HG := Lib.hid hg; have HP := Lib.hid hP; have HO := Lib.hid hO; have HE := Lib.hid hP.ell; have hll : ll ≤ 5 := by have := hP.ell; omega
 have HH : Hid (headB r = true) := by show headB r = true; unfold headB; rw [h1, h2, h3]; simp; omega
 have HF := Lib.hid h6; have hdd := inB_iff.1 h3; have u6 : w1.cell? ⟨B2, 6, none⟩ = some (.slice la ll lc) := hO.box.cell 6; have l2 := hO.box.lt; clear hg hP hO h1 h2 h3 h4 h5 h6; go_wp2_with fail
 rename ∀ a w, Code.wp Tryz.prog (openTail 6) _ a w → _ => hKT
 have HKT := Lib.hid hKT; clear hKT u6
 go_loopw [67] (fun i wr => ∃ j : Nat, j ≤ ll ∧ i = .int .i64 j ∧ Hid ((r.lk.take j).all (lkB r.days) = true) ∧ Hid (OpenG w fa fl fc la ll lc r B2 d k wr)) (fun i _ => ll - (intOf i).toNat)
 case atStart => exact ⟨0, Nat.zero_le _, rfl, by show _ = _; simp, HO⟩
 case round =>
  obtain ⟨j, hj, rfl, HA, HOr⟩ := hrel
  by_cases hlt : j < ll
  ·obtain ⟨c, hc⟩ : ∃ c, r.lk[j]? = some c := ⟨r.lk[j]'(by have := HE.out; omega), by simp⟩
   have HS := Lib.hid (take_all_succ (lkB r.days) r.lk j c hc)
   have HBAD : Hid (lkB r.days c = false → okR r = false) := fun h => by unfold okR; rw [all_false hc h, Bool.and_false]
   obtain ⟨bk, off, rfl, hbl, H0, H1, H2⟩ := rd_lkI (HP.out.hlk.below HOr.out.b) j c hc; have hbw : bk < wr.heap.size := Nat.lt_of_lt_of_le hbl HOr.out.b.size; have lg := HOr.out.g.lt; obtain ⟨cd, ⟨c0, c1⟩⟩ := c; simp only at H0 H1 H2; clear hc hbl; have HOd : Hid (OpenG w fa fl fc (some ⟨bk, off, none⟩) ll lc r B2 d k (wr.alloc (.cells #[.int .i64 cd, .int .i64 c0, .int .i64 c1] 61))) := HOr.out.grow ((Below.refl _ _).alloc (Nat.le_refl _) _); have hg4 : (wr.alloc (.cells #[.int .i64 cd, .int .i64 c0, .int .i64 c1] 61)).cell? ⟨d, 4, none⟩ = some (.int .i64 r.days) := HOd.out.g.cell 4; go_wp2_with fail; refine (isDay_any (d := d) cd r.days _ hg4 (by simp; omega)).mono ?_
   cases hday : inB cd 0 r.days
   ·have HBD : Hid (okR r = false) := HBAD.out (by unfold lkB; simp only [hday, Bool.false_and])
    have HPP : Hid (OpenPost fa fl fc (some ⟨bk, off, none⟩) ll lc r b w (.panicked [refE 1]) (wr.alloc (.cells #[.int .i64 cd, .int .i64 c0, .int .i64 c1] 61))) := ⟨HOd.out.b, .inl ⟨HBD.out, rfl⟩⟩; rintro e w' ⟨rfl, rfl⟩; go_wp2_with fail; refine (must_any false 1 _).mono ?_; rintro e w2 ⟨q1, rfl⟩; obtain rfl : e = .panicked [refE 1] := q1; go_wp2; exact ⟨rfl, HPP.out⟩
   ·rintro e w' ⟨rfl, rfl⟩; clear hg4; go_wp2_with fail; refine (isSp_any ⟨c0, c1⟩ 0 200 200 (by omega) (by omega) _).mono ?_
    cases hsp : spB ⟨c0, c1⟩ 0 200 200
    ·have HBD : Hid (okR r = false) := HBAD.out (by unfold lkB; simp only [hsp, Bool.and_false])
     rintro e w3 ⟨rfl, hg3⟩; have hb3 := hg3.b; have HPP : Hid (OpenPost fa fl fc (some ⟨bk, off, none⟩) ll lc r b w (.panicked [refE 1]) w3) := ⟨(HOd.out.grow hb3).b, .inl ⟨HBD.out, rfl⟩⟩; clear hb3 hg3; go_wp2_with fail; refine (must_any false 1 _).mono ?_; rintro e w2 ⟨q1, rfl⟩; obtain rfl : e = .panicked [refE 1] := q1; go_wp2; exact ⟨rfl, HPP.out⟩
    ·have HOK : Hid (lkB r.days ⟨cd, ⟨c0, c1⟩⟩ = true) := by show _ = _; unfold lkB; simp only [hday, hsp, Bool.and_self]
     rintro e w3 ⟨rfl, hg3⟩; have hb3 := hg3.b; have HO3 := Lib.hid (HOd.out.grow hb3); clear hb3 hg3; go_wp2_with fail; refine (must_any true 1 _).mono ?_; rintro e w2 ⟨q1, rfl⟩; obtain rfl : e = .returned (.tuple #[]) := q1; go_wp2; go_roundw
     case rel => exact ⟨j + 1, by omega, by go_num, by show _ = _; rw [HS.out, HA.out, HOK.out]; rfl, HO3⟩
     case measure => simp [intOf]; omega
  ·obtain rfl : ll = j := by omega
   have HV : Hid (okR r = true) := by
    have h := HA.out; rw [List.take_of_length_le (by rw [HE.out]; exact Nat.le_refl _)] at h
    show _ = _; unfold okR; rw [HH.out, HF.out, h]
    rfl
   go_wp2; refine HKT.out _ _ (openT6 g cap eg (HG.out HV.out) HV.out HOr.out.b HOr.out.g.lt (HOr.out.gau HP.out HV.out) HOr.out.m HOr.out.fm)
theorem openT3 (g : Nat) (cap : Array Value) (eg : ∀ args w, (callFunc g args).run Tryz.prog w = .ok (.enter g args) w) (hg : okR r = true → IsG w fa fl fc la ll lc r g cap b) (hP : RvIn w w.heap.size fa fl la ll r) (h1 : spB r.depth 0 60 4 = true) (h2 : spB r.fall 0 5 2 = true) (h3 : inB r.days 1 10 = true) (h4 : r.fr.length ≤ 3) (h5 : r.lk.length ≤ 5)
  {w1 : World} {B2 : Nat} (hb : Gro w w1) (hx : Blk w1 B2 27 #[.int .i64 r.depth.lo, .int .i64 r.depth.hi, .int .i64 r.fall.lo, .int .i64 r.fall.hi, .int .i64 r.days, .slice fa fl fc, .slice la ll lc])
  {c0 c3 c4 c6 c7 c8 c9 c10 c11 c12 c13 c14 c15 c16 c17 c18 c19 c20 c21 c22 c23 c24 c25 c26 c27 c28 c29 c30 c31 c32 c33 c34 c35 c36 c37 c38 c39 c40 c41 c42 c43 c44 c45 c46 c47 c48 c49 c50 c51 c52 c53 c54 c55 c56 c57 c58 c59 c60 c61 c62 c63 c64 c65 c66 c67 c68 c69 c70 c71 c72 c73 c74 c75 c76 c77 c78 c79 c80 c81 c82 c83 c84 c85 c86 c87 : Value} : Code.wp Tryz.prog (openTail 3) (bodyPost Tryz.prog Tryz.f108 (OpenPost fa fl fc la ll lc r b w)) ⟨(c0::(.func (.func g) #[] cap)::(.pointer (some ⟨B2, 0, none⟩))::c3::c4::(.func (.func 130) #[] #[])::c6::c7::c8::c9::c10::c11::c12::c13::c14::c15::c16::c17::c18::c19::c20::c21::c22::c23::c24::c25::c26::c27::c28::c29::c30::c31::c32::c33::c34::c35::c36::c37::c38::c39::c40::c41::c42::c43::c44::c45::c46::c47::c48::c49::c50::c51::c52::c53::c54::c55::c56::c57::c58::c59::c60::c61::c62::c63::c64::c65::c66::c67::c68::c69::c70::c71::c72::c73::c74::c75::c76::c77::c78::c79::c80::c81::c82::c83::c84::c85::c86::c87::[]).toArray, []⟩ w1 := by
 conv => arg 2; whnf
 have HG := Lib.hid hg; have HP := Lib.hid hP; have HBG := Lib.hid hb; have HB := Lib.hid hb.b; have HX := Lib.hid hx; have HE := Lib.hid hP.efl; have hfl : fl ≤ 3 := by have := hP.efl; omega
 have H1 := Lib.hid h1; have H2 := Lib.hid h2; have H3 := Lib.hid h3; have H4 := Lib.hid h4; have H5 := Lib.hid h5; have hmm := @run_makeMap Tryz.prog; have u5 : w1.cell? ⟨B2, 5, none⟩ = some (.slice fa fl fc) := hx.cell 5; have l2 := hx.lt; have hdd := inB_iff.1 h3; clear hg hP hb hx h1 h2 h3 h4 h5; go_wp2_with fail
 rename ∀ a w, Code.wp Tryz.prog (Code.seq (Code.region 8 _ _) _) _ a w → _ => hKT
 have HKT := Lib.hid hKT; clear hKT u5
 go_loopw [42] (fun i wr => ∃ j : Nat, j ≤ fl ∧ i = .int .i64 j ∧ Hid ((r.fr.take j).all (frB r.days) = true) ∧ Hid (Gro w1 wr)) (fun i _ => fl - (intOf i).toNat)
 case atStart => exact ⟨0, Nat.zero_le _, rfl, by show _ = _; simp, Gro.refl _⟩
 case round =>
  obtain ⟨j, hj, rfl, HA, HGr⟩ := hrel; have HBr : Hid (Below w1.heap.size w1 wr) := HGr.out.b; have HBw : Hid (Below w.heap.size w wr) := HB.out.trans (HBr.out.mono HB.out.size); have HXr : Hid (Blk wr B2 27 #[.int .i64 r.depth.lo, .int .i64 r.depth.hi, .int .i64 r.fall.lo, .int .i64 r.fall.hi, .int .i64 r.days, .slice fa fl fc, .slice la ll lc]) := HX.out.below HBr.out l2
  by_cases hlt : j < fl
  ·obtain ⟨c, hc⟩ : ∃ c, r.fr[j]? = some c := ⟨r.fr[j]'(by have := HE.out; omega), by simp⟩
   have HS := Lib.hid (take_all_succ (frB r.days) r.fr j c hc)
   have HBAD : Hid (frB r.days c = false → okR r = false) := fun h => by unfold okR; rw [all_false hc h, Bool.and_false, Bool.false_and]
   obtain ⟨bk, off, rfl, hbl, G0, G1, G2, G3⟩ := rd_frI (HP.out.hfr.below HBw.out) j c hc; have hbw : bk < wr.heap.size := Nat.lt_of_lt_of_le hbl HBw.out.size; obtain ⟨⟨c0, c1⟩, ⟨c2, c3⟩⟩ := c; simp only at G0 G1 G2 G3; clear hc hbl; obtain ⟨Wd, hWd⟩ : ∃ Wd, Wd = wr.alloc (.cells #[.int .i64 c0, .int .i64 c1, .int .i64 c2, .int .i64 c3] 59) := ⟨_, rfl⟩; have HGd : Hid (Gro wr Wd) := by rw [hWd]; exact (Gro.refl _).alloc _ _
   have HBd : Hid (Below wr.heap.size wr Wd) := HGd.out.b; have HXd : Hid (Blk Wd B2 27 #[.int .i64 r.depth.lo, .int .i64 r.depth.hi, .int .i64 r.fall.lo, .int .i64 r.fall.hi, .int .i64 r.days, .slice (some ⟨bk, off, none⟩) fl fc, .slice la ll lc]) := HXr.out.below HBd.out HXr.out.lt; have HFd : Hid (Blk Wd wr.heap.size 59 #[.int .i64 c0, .int .i64 c1, .int .i64 c2, .int .i64 c3]) := by rw [hWd]; exact Blk.new _ _ _
   have v4 : wr.cell? ⟨B2, 4, none⟩ = some (.int .i64 r.days) := HXr.out.cell 4; have lr2 := HXr.out.lt; go_wp2_with fail; rw [← hWd]; clear hWd v4; refine (isSp_any ⟨c0, c1⟩ 1 r.days 3 (by omega) (by omega) _).mono ?_
   cases hday : spB ⟨c0, c1⟩ 1 r.days 3
   ·have HBD : Hid (okR r = false) := HBAD.out (by unfold frB; simp only [hday, Bool.false_and])
    rintro e w3 ⟨rfl, hg3⟩; have hb3 := hg3.b; have HPP : Hid (OpenPost (some ⟨bk, off, none⟩) fl fc la ll lc r b w (.panicked [refE 1]) w3) := ⟨(HBw.out.trans (HBd.out.mono HBw.out.size)).trans (hb3.mono (Nat.le_trans HBw.out.size HBd.out.size)), .inl ⟨HBD.out, rfl⟩⟩; clear hb3 hg3; go_wp2_with fail; refine (must_any false 1 _).mono ?_; rintro e w2 ⟨q1, rfl⟩; obtain rfl : e = .panicked [refE 1] := q1; go_wp2; exact ⟨rfl, HPP.out⟩
   ·rintro e w3 ⟨rfl, hg3⟩; have hb3 := hg3.b; have HB3 := Lib.hid hb3; have HG3 := Lib.hid hg3; have HF3 : Hid (Blk w3 wr.heap.size 59 #[.int .i64 c0, .int .i64 c1, .int .i64 c2, .int .i64 c3]) := HFd.out.below hb3 HFd.out.lt; have v2 : w3.cell? ⟨wr.heap.size, 2, none⟩ = some (.int .i64 c2) := HF3.out.cell 2; have v3 : w3.cell? ⟨wr.heap.size, 3, none⟩ = some (.int .i64 c3) := HF3.out.cell 3; have lf3 := HF3.out.lt; clear hb3 hg3; go_wp2_with fail; refine (isSp_any ⟨c2, c3⟩ 1 20 3 (by omega) (by omega) _).mono ?_
    have HBW3 : Hid (Below w.heap.size w w3) := (HBw.out.trans (HBd.out.mono HBw.out.size)).trans (HB3.out.mono (Nat.le_trans HBw.out.size HBd.out.size)); clear v2 v3
    cases hsp : spB ⟨c2, c3⟩ 1 20 3
    ·have HBD : Hid (okR r = false) := HBAD.out (by unfold frB; simp only [hsp, Bool.and_false])
     rintro e w4 ⟨rfl, hg4⟩; have hb4 := hg4.b; have HPP : Hid (OpenPost (some ⟨bk, off, none⟩) fl fc la ll lc r b w (.panicked [refE 1]) w4) := ⟨HBW3.out.trans (hb4.mono HBW3.out.size), .inl ⟨HBD.out, rfl⟩⟩; clear hb4 hg4; go_wp2_with fail; refine (must_any false 1 _).mono ?_; rintro e w2 ⟨q1, rfl⟩; obtain rfl : e = .panicked [refE 1] := q1; go_wp2; exact ⟨rfl, HPP.out⟩
    ·have HOK : Hid (frB r.days ⟨⟨c0, c1⟩, ⟨c2, c3⟩⟩ = true) := by show _ = _; unfold frB; simp only [hday, hsp, Bool.and_self]
     rintro e w4 ⟨rfl, hg4⟩; have hb4 := hg4.b; have HB4 : Hid (Gro w1 w4) := ((HGr.out.trans HGd.out).trans HG3.out).trans hg4; clear hb4 hg4; go_wp2_with fail; refine (must_any true 1 _).mono ?_; rintro e w2 ⟨q1, rfl⟩; obtain rfl : e = .returned (.tuple #[]) := q1; go_wp2; go_roundw
     case rel => exact ⟨j + 1, by omega, by go_num, by show _ = _; rw [HS.out, HA.out, HOK.out]; rfl, HB4⟩
     case measure => simp [intOf]; omega
  ·obtain rfl : fl = j := by omega
   have HF : Hid (r.fr.all (frB r.days) = true) := by
    have h := HA.out
    rwa [List.take_of_length_le (by rw [HE.out]; exact Nat.le_refl _)] at h
   have v0 : wr.cell? ⟨B2, 0, none⟩ = some (.int .i64 r.depth.lo) := HXr.out.cell 0; have v1 : wr.cell? ⟨B2, 1, none⟩ = some (.int .i64 r.depth.hi) := HXr.out.cell 1; have v2 : wr.cell? ⟨B2, 2, none⟩ = some (.int .i64 r.fall.lo) := HXr.out.cell 2; have v3 : wr.cell? ⟨B2, 3, none⟩ = some (.int .i64 r.fall.hi) := HXr.out.cell 3; have v4 : wr.cell? ⟨B2, 4, none⟩ = some (.int .i64 r.days) := HXr.out.cell 4; have v5 : wr.cell? ⟨B2, 5, none⟩ = some (.slice fa fl fc) := HXr.out.cell 5; have v6 : wr.cell? ⟨B2, 6, none⟩ = some (.slice la ll lc) := HXr.out.cell 6; have lr2 := HXr.out.lt; obtain ⟨W3, hW3⟩ : ∃ W3, W3 = (wr.alloc (.map #[] 0)).alloc (.cells (gCsI r fa fl fc la ll lc wr.heap.size) 179) := ⟨_, rfl⟩
   have HO : Hid (OpenG w fa fl fc la ll lc r B2 (wr.heap.size + 1) wr.heap.size W3) := by
    have hb3 : Below wr.heap.size wr W3 := by rw [hW3]; exact ((Below.refl _ _).alloc (Nat.le_refl _) _).alloc (by simp) _
    have hzw := HBw.out.size
    refine ⟨HBw.out.trans (hb3.mono hzw), HXr.out.below hb3 lr2, by rw [hW3]; exact Blk.new_ (by simp) _ _, ?_, hzw, by omega, by omega, fun g o q1 q2 q3 => (HBG.out.trans HGr.out).nw g o q1 ((hb3.block g q2).symm.trans q3)⟩
    rw [hW3]
    exact (KeptOK.made (w := wr) r.nat).turn (S := fun _ => False) ((Turn.refl _ _).alloc _) (fun _ _ h => h.elim)
   dsimp only [gCsI] at hW3; go_wp2_with fail; refine HKT.out _ _ ?_; go_upto_region 8 with (fail)
   rename ∀ a w, Code.wp Tryz.prog (openTail 5) _ a w → _ => hK5
   have HK5 := Lib.hid hK5; clear hK5; go_wp2_with fail; rw [← hW3]; exact HK5.out _ _ (openT5 g cap eg HG.out HP.out H1.out H2.out H3.out H4.out H5.out HF.out HO.out)
theorem open_any (g : Nat) (cap : Array Value) (eg : ∀ args w, (callFunc g args).run Tryz.prog w = .ok (.enter g args) w) (hP : RvIn w w.heap.size fa fl la ll r) (hg : okR r = true → IsG w fa fl fc la ll lc r g cap b) :
  Calls Tryz.prog 108 #[(.agg #[.int .i64 r.depth.lo, .int .i64 r.depth.hi, .int .i64 r.fall.lo, .int .i64 r.fall.hi, .int .i64 r.days, .slice fa fl fc, .slice la ll lc]), .func (.func g) #[] cap] w (OpenPost fa fl fc la ll lc r b w) := by
 have m1 := hP.mfl; have m2 := hP.mll; have HE1 := Lib.hid hP.efl; have HE2 := Lib.hid hP.ell; have HP := Lib.hid hP; have HG := Lib.hid hg
 have must1 : ∀ w, Calls Tryz.prog 122 #[.bool false, .int .i64 1] w fun x w' => x = .panicked [refE 1] ∧ w' = w := fun w => (must_any false 1 w).mono (fun x w' h => by simpa using h)
 have HM := Lib.hid must1
 have HBAD : Hid (∀ w', headB r = false → Below w.heap.size w w' → OpenPost fa fl fc la ll lc r b w (.panicked [refE 1]) w') := fun w' h hb => ⟨hb, .inl ⟨by unfold okR; rw [h]; rfl, rfl⟩⟩
 have HHD : Hid (headB r = (spB r.depth 0 60 4 && spB r.fall 0 5 2 && inB r.days 1 10 && decide (fl ≤ 3) && decide (ll ≤ 5))) := by show _ = _; unfold headB; rw [hP.efl, hP.ell]
 have HX0 : Hid (Blk (w.alloc (.cells #[.int .i64 r.depth.lo, .int .i64 r.depth.hi, .int .i64 r.fall.lo, .int .i64 r.fall.hi, .int .i64 r.days, .slice fa fl fc, .slice la ll lc] 27)) w.heap.size 27 #[.int .i64 r.depth.lo, .int .i64 r.depth.hi, .int .i64 r.fall.lo, .int .i64 r.fall.hi, .int .i64 r.days, .slice fa fl fc, .slice la ll lc]) := Blk.new _ _ _; have HG0 : Hid (Gro w (w.alloc (.cells #[.int .i64 r.depth.lo, .int .i64 r.depth.hi, .int .i64 r.fall.lo, .int .i64 r.fall.hi, .int .i64 r.days, .slice fa fl fc, .slice la ll lc] 27))) := (Gro.refl _).alloc _ _; clear hP hg must1
 go_enter Tryz.func108, Tryz.ntmps108
 go_upto_region 2 with (fail)
 rename ∀ a w, Code.wp Tryz.prog (openTail 3) _ a w → _ => hKT
 have HKT := Lib.hid hKT; clear hKT; go_wp2_with fail; obtain ⟨W0, hW0⟩ : ∃ W0, W0 = w.alloc (.cells #[.int .i64 r.depth.lo, .int .i64 r.depth.hi, .int .i64 r.fall.lo, .int .i64 r.fall.hi, .int .i64 r.days, .slice fa fl fc, .slice la ll lc] 27) := ⟨_, rfl⟩; rw [← hW0] at HX0 HG0 ⊢; clear hW0; have HB0 : Hid (Below w.heap.size w W0) := HG0.out.b; refine (isSp_any r.depth 0 60 4 (by omega) (by omega) _).mono ?_
 cases q1 : spB r.depth 0 60 4
 ·have HQ : Hid (headB r = false) := by show _ = _; rw [HHD.out, q1]; rfl
  clear q1; rintro e w1 ⟨rfl, hg1⟩; have hb1 := hg1.b; have HPP := Lib.hid (HBAD.out w1 HQ.out (HB0.out.trans (hb1.mono HB0.out.size))); clear hb1 hg1; go_wp2_with fail; refine (HM.out _).mono ?_; rintro e w' ⟨rfl, rfl⟩; go_wp2; exact ⟨rfl, HPP.out⟩
 have Q1 := Lib.hid q1; clear q1; rintro e w1 ⟨rfl, hg1⟩; have hb1 := hg1.b; have HX1 : Hid (Blk w1 w.heap.size 27 #[.int .i64 r.depth.lo, .int .i64 r.depth.hi, .int .i64 r.fall.lo, .int .i64 r.fall.hi, .int .i64 r.days, .slice fa fl fc, .slice la ll lc]) := HX0.out.below hb1 HX0.out.lt; have HG1 : Hid (Gro w w1) := HG0.out.trans hg1; have HB1 : Hid (Below w.heap.size w w1) := HB0.out.trans (hb1.mono HB0.out.size); have u2 : w1.cell? ⟨w.heap.size, 2, none⟩ = some (.int .i64 r.fall.lo) := HX1.out.cell 2; have u3 : w1.cell? ⟨w.heap.size, 3, none⟩ = some (.int .i64 r.fall.hi) := HX1.out.cell 3; have l1 := HX1.out.lt; clear hb1 hg1; go_wp2_with fail; refine (isSp_any r.fall 0 5 2 (by omega) (by omega) _).mono ?_
 clear u2 u3
 cases q2 : spB r.fall 0 5 2
 ·have HQ : Hid (headB r = false) := by show _ = _; rw [HHD.out, q2, Bool.and_false]; rfl
  clear q2; rintro e w2 ⟨rfl, hg2⟩; have hb2 := hg2.b; have HPP := Lib.hid (HBAD.out w2 HQ.out (HB1.out.trans (hb2.mono HB1.out.size))); clear hb2 hg2; go_wp2_with fail; refine (HM.out _).mono ?_; rintro e w' ⟨rfl, rfl⟩; go_wp2; exact ⟨rfl, HPP.out⟩
 have Q2 := Lib.hid q2; clear q2; rintro e w2 ⟨rfl, hg2⟩; have hb2 := hg2.b; have HX2 : Hid (Blk w2 w.heap.size 27 #[.int .i64 r.depth.lo, .int .i64 r.depth.hi, .int .i64 r.fall.lo, .int .i64 r.fall.hi, .int .i64 r.days, .slice fa fl fc, .slice la ll lc]) := HX1.out.below hb2 HX1.out.lt; have HG2 : Hid (Gro w w2) := HG1.out.trans hg2; have HB2 : Hid (Below w.heap.size w w2) := HB1.out.trans (hb2.mono HB1.out.size); have u4 : w2.cell? ⟨w.heap.size, 4, none⟩ = some (.int .i64 r.days) := HX2.out.cell 4; have l2 := HX2.out.lt; clear hb2 hg2; go_wp2_with fail; refine (within_any r.days 1 10 _).mono ?_; clear u4
 cases q3 : inB r.days 1 10
 ·have HQ : Hid (headB r = false) := by show _ = _; rw [HHD.out, q3, Bool.and_false]; rfl
  clear q3; rintro e w' ⟨rfl, rfl⟩; have HPP := Lib.hid (HBAD.out w' HQ.out HB2.out); go_wp2_with fail; refine (HM.out _).mono ?_; rintro e w' ⟨rfl, rfl⟩; go_wp2; exact ⟨rfl, HPP.out⟩
 have Q3 := Lib.hid q3; clear q3; have u5 : w2.cell? ⟨w.heap.size, 5, none⟩ = some (.slice fa fl fc) := HX2.out.cell 5
 by_cases q4 : fl ≤ 3
 case neg =>
  have hd : decide ((fl : Int) ≤ 3) = false := by simp; omega
  have HQ : Hid (headB r = false) := by show _ = _; rw [HHD.out]; simp [q4]
  have HPP := Lib.hid (HBAD.out w2 HQ.out HB2.out); rintro e w' ⟨rfl, hw'⟩; obtain rfl : w2 = w' := hw'.symm; go_wp2_with fail; refine (HM.out _).mono ?_; rintro e w' ⟨rfl, rfl⟩; go_wp2; exact ⟨rfl, HPP.out⟩
 have u6 : w2.cell? ⟨w.heap.size, 6, none⟩ = some (.slice la ll lc) := HX2.out.cell 6
 by_cases q5 : ll ≤ 5
 case neg =>
  have hd : decide ((ll : Int) ≤ 5) = false := by simp; omega
  have HQ : Hid (headB r = false) := by show _ = _; rw [HHD.out]; simp [q5]
  have HPP := Lib.hid (HBAD.out w2 HQ.out HB2.out); rintro e w' ⟨rfl, hw'⟩; obtain rfl : w2 = w' := hw'.symm; go_wp2_with fail; refine (HM.out _).mono ?_; rintro e w' ⟨rfl, rfl⟩; go_wp2; exact ⟨rfl, HPP.out⟩
 have hd5 : decide ((ll : Int) ≤ 5) = true := by simp; omega
 rintro e w' ⟨rfl, hw'⟩; obtain rfl : w2 = w' := hw'.symm; go_wp2_with fail; refine (must_any true 1 _).mono ?_; rintro e w3 ⟨h1, rfl⟩; obtain rfl : e = .returned (.tuple #[]) := h1; clear u5 u6; go_wp2_with fail; exact HKT.out _ _ (openT3 g cap eg HG.out HP.out Q1.out Q2.out Q3.out (by rw [HE1.out]; exact q4) (by rw [HE2.out]; exact q5) HG2.out HX2.out)
end
end Go.Proofs.YtgmfhngcehkibaaGreat
namespace Go
theorem callsDIn_of_wpS {n : Nat} {P : Program} {f : FuncId} {fn : Func} {c : Code} {args : Array Value} {u : FrameMode} {w : World} {R : Ending → FrameMode → World → Prop}
  (hf : P.funcs[f]? = some fn) (hb : fn.body = some c)
  (h : ∀ (c₀ : Frame) (cs : List Frame), c₀.mode = u →
   c.wpS P (bodyPostS P fn c₀ cs R) { tmps := args ++ Array.replicate (fn.ntmps - args.size) undef, defers := [] } (c₀ :: cs) w) :
  CallsDIn Fence.wide n P f args u w R := by
 refine ⟨trivial, fun c₀ cs hu _ => ?_⟩
 let b : Frame := { (default : Frame) with fn := f, kind := .deferred }
 have henter : Frame.enter P f args .deferred =
   b.at { tmps := args ++ Array.replicate (fn.ntmps - args.size) undef, defers := [] } [.code c] := by
  simp [Frame.enter, Frame.at, hf, hb, b]
 obtain ⟨e, a', cs', w', hq, harr⟩ := h c₀ cs hu b [] rfl rfl; rw [← henter] at harr
 cases e with
 | normal =>
  obtain ⟨hd, u', rfl, v, hr, hR⟩ := hq; exact ⟨.returned v, u', w', _, hR, comesIn_wide.2 (Steps.trans harr (.one step_end)), rfl, rfl, rfl, hd, fn, hf, hr⟩
 | ret =>
  obtain ⟨hd, u', rfl, v, hr, hR⟩ := hq; obtain ⟨todo, hs⟩ := harr; exact ⟨.returned v, u', w', _, hR, comesIn_wide.2 hs, rfl, rfl, rfl, hd, fn, hf, hr⟩
 | panic chain =>
  obtain ⟨hd, u', rfl, hR⟩ := hq; obtain ⟨todo, hs⟩ := harr; exact ⟨.panicked chain, u', w', _, hR, comesIn_wide.2 hs, rfl, rfl, rfl, hd, fn, hf⟩
 | exit id => exact hq.elim
 | goto l => exact hq.elim
 | outgrown =>
  obtain ⟨u', hR⟩ := hq; exact ⟨.outgrown, u', w', b, hR, harr.resolve_left (by simp [b]), rfl, rfl, trivial⟩
end Go
namespace Go.Proofs.YtgmfhngcehkibaaGreat
open Go.RowKit Go.Hav Go.Shelf Go.Sq
attribute [local go_sem] Oper.semAt_some
theorem stopped_nil (p : Addr) (w : World) : Calls Tryz.prog 89 #[.nilIface, .pointer (some p)] w fun e w' => e = .returned (.tuple #[]) ∧ w' = w := by
 go_enter Tryz.func89, Tryz.ntmps89
 go_wp2; refine bodyPost_ret (results_none rfl _ _ _) rfl ⟨rfl, rfl⟩
def ansW (w : World) (b : Nat) (e : Int) : World := (w.setCell ⟨b, 0, none⟩ (.int .i64 e)).alloc (.cells #[.int .i64 e] 157)
theorem stopped_err (b : Nat) (x e : Int) (w : World) (hk : Blk w b 35 #[.int .i64 x]) :
  Calls Tryz.prog 89 #[.iface 157 (.agg #[.int .i64 e]), .pointer (some ⟨b, 0, none⟩)] w fun en w' => en = .returned (.tuple #[]) ∧ w' = ansW w b e := by
 have hta : ∀ w, (Instr.typeAssert (.iface 157 (.agg #[.int .i64 e])) 20 157 true).run Tryz.prog w = .ok (.tuple #[.agg #[.int .i64 e], .bool true]) w := fun w => by kernel_rfl
 have HK := Lib.hid (hk.alloc (.cells #[.int .i64 e] 157)); have hc : (w.alloc (.cells #[.int .i64 e] 157)).cell? ⟨b, 0, none⟩ = some (.int .i64 x) := HK.out.cell 0; have hz : (w.alloc (.cells #[.int .i64 e] 157)).frozen? ⟨b, 0, none⟩ = false := HK.out.frozen 0; have hl := hk.lt; clear hk; unfold ansW
 go_enter Tryz.func89, Tryz.ntmps89
 go_wp2
 go_end0
 exact ⟨rfl, rfl⟩
def IsAns (f : Nat) : Prop := (∀ (b : Nat) (x e : Int) (w : World) (n : Nat), Blk w b 35 #[.int .i64 x] → CallsDIn Fence.wide n Tryz.prog f #[.pointer (some ⟨b, 0, none⟩)] (.panicking [refE e]) w fun en u' w' => en = .returned (.tuple #[]) ∧ u' = .panicking [{ refE e with recovered := true }] ∧ w' = ansW w b e) ∧
 ∀ (p : Addr) (w : World) (n : Nat), CallsDIn Fence.wide n Tryz.prog f #[.pointer (some p)] .returning w fun en u' w' => en = .returned (.tuple #[]) ∧ u' = .returning ∧ w' = w
theorem isAns88 : IsAns 88 := by
 refine ⟨fun b x e w n hk => ?_, fun p w n => ?_⟩
 ·refine callsDIn_of_wpS Tryz.func88 rfl fun c₀ cs hu => ?_
  apply wpS_region
  simp [wpOpsS, go_sem, recoverD, hu, Tryz.ntmps88, refE]
  refine (stopped_err b x e w hk).mono ?_; rintro en w' ⟨rfl, rfl⟩
  simp [bodyPostS, results, Tryz.results88, go_sem]
 ·refine callsDIn_of_wpS Tryz.func88 rfl fun c₀ cs hu => ?_
  apply wpS_region
  simp [wpOpsS, go_sem, recoverD, hu, Tryz.ntmps88]
  refine (stopped_nil p w).mono ?_; rintro en w' ⟨rfl, rfl⟩; cases c₀
  simp_all [bodyPostS, results, Tryz.results88, go_sem]
theorem isAns113 : IsAns 113 := by
 refine ⟨fun b x e w n hk => ?_, fun p w n => ?_⟩
 ·refine callsDIn_of_wpS Tryz.func113 rfl fun c₀ cs hu => ?_
  apply wpS_region
  simp [wpOpsS, go_sem, recoverD, hu, Tryz.ntmps113, refE]
  refine (stopped_err b x e w hk).mono ?_; rintro en w' ⟨rfl, rfl⟩
  simp [bodyPostS, results, Tryz.results113, go_sem]
 ·refine callsDIn_of_wpS Tryz.func113 rfl fun c₀ cs hu => ?_
  apply wpS_region
  simp [wpOpsS, go_sem, recoverD, hu, Tryz.ntmps113]
  refine (stopped_nil p w).mono ?_; rintro en w' ⟨rfl, rfl⟩; cases c₀
  simp_all [bodyPostS, results, Tryz.results113, go_sem]
def ansD (f b : Nat) : Deferred := { target := .fn (.func f) #[.pointer (some ⟨b, 0, none⟩)], args := #[] }
theorem leaves_marksR {B : Nat} {F : Fence} {n : Nat} {P : Program} {fn : Func} {tmps : Array Value} {R : Ending → World → Prop} {u : FrameMode} (hu : u ≠ .run) (rest : List Deferred) : ∀ (ds : List Deferred) (w : World), Marks B w ds → (∀ w', Shut B w w' → LeavesInM F n P fn tmps R rest u w') → LeavesInM F n P fn tmps R (ds ++ rest) u w := by
 intro ds
 induction ds with
 | nil => exact fun w _ h => h w ⟨rfl, rfl, rfl, rfl, fun _ _ => rfl, fun _ _ h _ => h⟩
 | cons d ds ih =>
  intro w hm h; obtain ⟨l, h1, h2, h3⟩ := hm
  cases l with
  | nil => cases h1
  | cons D l =>
   simp only [List.map_cons, List.cons.injEq] at h1; obtain ⟨rfl, rfl⟩ := h1; obtain ⟨hn, h2⟩ := List.nodup_cons.1 h2; obtain ⟨hB, hD⟩ := h3 D (by simp)
   refine ⟨hu, .inl ⟨D, _, rfl, run_takeDeferred hD, ih _ ⟨l, rfl, h2, fun x hx => ⟨(h3 x (by simp [hx])).1, (World.putObj_heap_other (fun e => by subst e; exact hn hx)).trans (h3 x (by simp [hx])).2⟩⟩ fun w' hs => h w' ?_⟩⟩
   refine ⟨hs.os, hs.tape, hs.output, by rw [hs.size]; simp, fun b hb => (hs.low b hb).trans (World.putObj_heap_other (by omega)), fun b o hb ho => ?_⟩
   have hne : b ≠ D := by
    rintro rfl; rw [hD] at hb; exact ho _ (Option.some.inj hb).symm
   exact hs.other b o ((World.putObj_heap_other hne).trans hb) ho
theorem Shut.below {B N : Nat} {w w' : World} (h : Shut B w w') (hN : N ≤ B) : Below N w w' := ⟨h.os, h.tape, h.output, by rw [h.size]; exact Nat.le_refl _, fun b hb => h.low b (by omega)⟩
theorem Shut.blk {B : Nat} {w w' : World} (h : Shut B w w') {g : Nat} {t : TypeId} {cs : Array Value} (hb : Blk w g t cs) : Blk w' g t cs := h.other g _ hb (fun c e => by cases e)
theorem api_panic {f b B n : Nat} {x e : Int} {fn : Func} {tmps : Array Value} {R : Ending → World → Prop} {ds : List Deferred} {w : World} (hf : IsAns f) (ef : ∀ args w, (callFunc f args).run Tryz.prog w = .ok (.enter f args) w) (hm : Marks B w ds) (hk : Blk w b 35 #[.int .i64 x])
  (hfin : ∀ w', Blk w' b 35 #[.int .i64 e] → (∀ (g : Nat) (t : TypeId) (cs : Array Value), g ≠ b → Blk w g t cs → Blk w' g t cs) → (∀ N, N ≤ B → N ≤ b → Below N w w') → ∃ v, (results fn tmps).run Tryz.prog w' = .ok v w' ∧ R (.returned v) w') :
  LeavesInM Fence.wide n Tryz.prog fn tmps R (ds ++ [ansD f b]) (.panicking [refE e]) w := by
 refine leaves_marksR (by simp) _ ds w hm fun w1 hs => ?_
 refine ⟨by simp, .inr ⟨by simp [Fence.wide], .func f, #[.pointer (some ⟨b, 0, none⟩)], f, #[.pointer (some ⟨b, 0, none⟩)], rfl, by simp [ansD, invoke, go_sem, ef], fun _ _ => trivial, ?_⟩⟩
 refine (hf.1 b x e w1 (n - 1) (hs.blk hk)).mono ?_; rintro en u' w' ⟨rfl, rfl, rfl⟩; have hsz := (hs.blk hk).lt; have hb1 : Blk (ansW w1 b e) b 35 #[.int .i64 e] := ((hs.blk hk).set_ 0 _).alloc _
 refine hfin _ hb1 (fun g t cs hg h => ((hs.blk h).far (p := ⟨b, 0, none⟩) hg _).alloc _) (fun N h1 h2 => ?_)
 have h3 := (hs.below h1).size; have h4 : N ≤ w1.heap.size := by omega
 exact ((hs.below h1).setCell (p := ⟨b, 0, none⟩) h2 _).alloc (by rw [hs.size] at h4; simpa [World.setCell, hs.size] using h4) _
theorem api_ret {f b B n : Nat} {fn : Func} {tmps : Array Value} {R : Ending → World → Prop} {ds : List Deferred} {w : World} (hf : IsAns f) (ef : ∀ args w, (callFunc f args).run Tryz.prog w = .ok (.enter f args) w) (hm : Marks B w ds)
  (hfin : ∀ w', (∀ (g : Nat) (t : TypeId) (cs : Array Value), Blk w g t cs → Blk w' g t cs) → (∀ N, N ≤ B → Below N w w') → ∃ v, (results fn tmps).run Tryz.prog w' = .ok v w' ∧ R (.returned v) w') :
  LeavesInM Fence.wide n Tryz.prog fn tmps R (ds ++ [ansD f b]) .returning w := by
 refine leaves_marksR (by simp) _ ds w hm fun w1 hs => ?_
 refine ⟨by simp, .inr ⟨by simp [Fence.wide], .func f, #[.pointer (some ⟨b, 0, none⟩)], f, #[.pointer (some ⟨b, 0, none⟩)], rfl, by simp [ansD, invoke, go_sem, ef], fun _ _ => trivial, ?_⟩⟩
 refine (hf.2 ⟨b, 0, none⟩ w1 (n - 1)).mono ?_; rintro en u' w' ⟨rfl, rfl, rfl⟩
 exact hfin _ (fun g t cs h => hs.blk h) (fun N h1 => hs.below h1)
end Go.Proofs.YtgmfhngcehkibaaGreat
namespace Go.Proofs.YtgmfhngcehkibaaGreat
open Go.RowKit Go.Hav Go.Shelf Go.Sq
attribute [local go_sem] Oper.semAt_some
theorem frOk_of {r : Riv} (hv : r.Good) : FrOk r := fun f hf => ⟨(hv.fr f hf).1, (hv.fr f hf).2.1, (hv.fr f hf).2.2.2.2.2.1⟩
theorem lkOk_of {r : Riv} (hv : r.Good) : LkOk r := fun f hf => (hv.lk f hf).1
theorem can_truths {r : Riv} (hv : r.Good) (looks : Nat) : canB r looks = !(truthsP r looks).isEmpty := by
 have h1 : canB r looks = true ↔ ∃ b, b ∈ fallsL r looks := by
  unfold canB
  cases fallsL r looks with
  | nil => simp
  | cons a l => simp
 have h2 : (!(truthsP r looks).isEmpty) = true ↔ ∃ t, t ∈ truthsP r looks := by
  cases truthsP r looks with
  | nil => simp
  | cons a l => simp
 rw [Bool.eq_iff_iff, h1, h2]; constructor
 ·rintro ⟨b, hb⟩; obtain ⟨b1, b2, s, hs⟩ := (mem_fallsL hv.f1).1 hb; obtain ⟨t, ht, _⟩ := (allS_truths (frOk_of hv) (lkOk_of hv) (Nat.zero_le _) b1 b2).1 hs; exact ⟨t, ht⟩
 ·rintro ⟨t, ht⟩; obtain ⟨_, _, b1, b2, _⟩ := (mem_truthsP (lkOk_of hv)).1 ht
  exact ⟨t.by_, (mem_fallsL hv.f1).2 ⟨b1, b2, (t.at_ 0, comeF t.dsF 0 r.fr.length), (allS_truths (frOk_of hv) (lkOk_of hv) (Nat.zero_le _) b1 b2).2 ⟨t, ht, rfl, rfl, fun j => comeF_bit _ _ _ _⟩⟩⟩
section
variable {fa la : Option Addr} {fl fc ll lc : Nat} {r : IRiv} {b : Bool} {w : World}
theorem open_err (g : Nat) (cap : Array Value) (eg : ∀ args w, (callFunc g args).run Tryz.prog w = .ok (.enter g args) w) (hP : RvIn w w.heap.size fa fl la ll r) (hg : okR r = true → IsG w fa fl fc la ll lc r g cap b) (h : okR r = false ∨ b = false) :
  Calls Tryz.prog 108 #[(.agg #[.int .i64 r.depth.lo, .int .i64 r.depth.hi, .int .i64 r.fall.lo, .int .i64 r.fall.hi, .int .i64 r.days, .slice fa fl fc, .slice la ll lc]), .func (.func g) #[] cap] w fun e w' => e = .panicked [refE (if okR r = false then 1 else 2)] ∧ Below w.heap.size w w' := by
 refine (open_any g cap eg hP hg).mono ?_; rintro e w' ⟨hb, (⟨h1, h2⟩ | ⟨h1, h2, h3⟩ | ⟨h1, h2, _⟩)⟩
 ·exact ⟨by rw [h2, h1]; rfl, hb⟩
 ·exact ⟨by rw [h3, h1]; rfl, hb⟩
 ·rcases h with h | h
  ·rw [h1] at h; cases h
  ·rw [h2] at h; cases h
theorem open_ok (g : Nat) (cap : Array Value) (eg : ∀ args w, (callFunc g args).run Tryz.prog w = .ok (.enter g args) w) (hP : RvIn w w.heap.size fa fl la ll r) (hg : okR r = true → IsG w fa fl fc la ll lc r g cap true) (h : okR r = true) :
  Calls Tryz.prog 108 #[(.agg #[.int .i64 r.depth.lo, .int .i64 r.depth.hi, .int .i64 r.fall.lo, .int .i64 r.fall.hi, .int .i64 r.days, .slice fa fl fc, .slice la ll lc]), .func (.func g) #[] cap] w fun e w' => ∃ d k, e = .returned (.pointer (some ⟨d, 0, none⟩)) ∧ GauIn w' w.heap.size d k fa fl fc la ll lc r.nat ∧ KeptOK w' k r.nat ∧ Below w.heap.size w w' := by
 refine (open_any g cap eg hP hg).mono ?_; rintro e w' ⟨hb, (⟨h1, h2⟩ | ⟨h1, h2, h3⟩ | ⟨h1, h2, d, k, h3, _, h4, h5, _⟩)⟩
 ·rw [h] at h1; cases h1
 ·cases h2
 ·exact ⟨d, k, h3, h4, h5, hb⟩
theorem toldE_bad {is : Bool} (h : okR r = false ∨ is = false) : toldE r is = if okR r = false then 1 else 2 := by
 unfold toldE
 cases ho : okR r
 ·rfl
 ·rcases h with h | h
  ·rw [ho] at h; cases h
  ·subst h; rfl
theorem toldE_clash {is : Bool} (h : okR r = true) (hi : is = true) (ht : truthsA r.nat = []) : toldE r is = 10 := by
 unfold toldE; rw [h, hi, if_pos ht]; rfl
theorem toldE_fine {is : Bool} (h : okR r = true) (hi : is = true) (ht : truthsA r.nat ≠ []) : toldE r is = 0 := by
 unfold toldE; rw [h, hi, if_neg ht]; rfl
theorem can_of (h : okR r = true) : canB r.nat (full r.nat.lk.length) = decide (truthsA r.nat ≠ []) := by
 rw [can_truths (good_of h)]; unfold truthsA
 cases truthsP r.nat (full r.nat.lk.length) with
 | nil => rfl
 | cons a l => rfl
theorem isG_always : IsG w fa fl fc la ll lc r 114 #[] true := by
 intro wq d k _ hD; clear hD; show Calls _ _ #[.pointer (some ⟨d, 0, none⟩)] _ _
 go_enter Tryz.func114, Tryz.ntmps114
 go_wp2; go_ret
 exact ⟨rfl, rfl⟩
theorem isG_boat (b : Nat) (n : Int) (hb : Blk w b 3 #[.int .i64 n]) : IsG w fa fl fc la ll lc r 109 #[.pointer (some ⟨b, 0, none⟩)] (isDrB n) := by
 intro wq d k hB hD; have hb2 := hb.below hB hb.lt; have q := hb2.cell 0; have ql := hb2.lt; clear hD hb hb2; show Calls _ _ #[.pointer (some ⟨d, 0, none⟩), .pointer (some ⟨b, 0, none⟩)] _ _
 go_enter Tryz.func109, Tryz.ntmps109
 go_wp2_with fail; refine (isDraught_any n _).mono ?_
 rintro e w' ⟨rfl, rfl⟩; go_wp2; go_ret
 exact ⟨rfl, rfl⟩
end
section
variable {B d k : Nat} {fa la : Option Addr} {fl fc ll lc : Nat} {r : Riv}
theorem bears_any (hv : r.Good) (draws day : Nat) (hday : day ≤ r.days) (w : World) (hD : GauIn w B d k fa fl fc la ll lc r) (hK : KeptOK w k r) :
  Calls Tryz.prog 91 #[(.pointer (some ⟨d, 0, none⟩)), .int .i64 draws, .int .i64 day] w fun e w' => e = .returned (.int .i64 (bearsP r draws day)) ∧ KeptOK w' k r ∧ w.grownBy w' (some k) := by
 obtain ⟨s, hs⟩ : ∃ s, s = depthP r day := ⟨_, rfl⟩; have HS := Lib.hid hs; have HD := Lib.hid hD; have HV := Lib.hid hv; have HK := Lib.hid hK; have HDY := Lib.hid hday; clear hD hv hK hday hs
 have key : ∀ n : Nat, Hid (bearsP r draws day = n) → Calls Tryz.prog 91 #[(.pointer (some ⟨d, 0, none⟩)), .int .i64 draws, .int .i64 day] w fun e w' => e = .returned (.int .i64 n) ∧ KeptOK w' k r ∧ w.grownBy w' (some k) := by
  intro n HN; have hb1 : (2 ≤ 1000 : Prop) := by omega
  by_cases h1 : draws ≤ s.1
  ·have hn : n = 2 := by have := HN.out; unfold bearsP at this; rw [← HS.out, if_pos h1] at this; exact this.symm
   subst hn; have g1 : (draws : Int) ≤ s.1 := by omega
   go_enter Tryz.func91, Tryz.ntmps91
   go_wp2_with fail; refine (depth_any HV.out day HDY.out w HD.out HK.out).mono ?_
   rw [← HS.out]; unfold hullV; rintro e w1 ⟨rfl, hk1, hg1⟩; have HK1 := Lib.hid hk1; have HG1 := Lib.hid hg1; clear hk1 hg1; go_wp2; go_ret
   refine ⟨rfl, HK1.out.turn (S := fun _ => False) ((Turn.refl _ _).alloc _) (fun _ _ h => h.elim), ?_⟩
   exact Turn.grownK ((Turn.of_grownK HG1.out).alloc _)
  ·have g1 : ¬ (draws : Int) ≤ s.1 := by omega
   by_cases h2 : draws ≤ s.2
   ·have hn : n = 1 := by have := HN.out; unfold bearsP at this; rw [← HS.out, if_neg h1, if_pos h2] at this; exact this.symm
    subst hn; have g2 : (draws : Int) ≤ s.2 := by omega
    go_enter Tryz.func91, Tryz.ntmps91
    go_wp2_with fail; refine (depth_any HV.out day HDY.out w HD.out HK.out).mono ?_
    rw [← HS.out]; unfold hullV; rintro e w1 ⟨rfl, hk1, hg1⟩; have HK1 := Lib.hid hk1; have HG1 := Lib.hid hg1; clear hk1 hg1; go_wp2; go_ret
    refine ⟨rfl, HK1.out.turn (S := fun _ => False) ((Turn.refl _ _).alloc _) (fun _ _ h => h.elim), ?_⟩
    exact Turn.grownK ((Turn.of_grownK HG1.out).alloc _)
   ·have hn : n = 0 := by have := HN.out; unfold bearsP at this; rw [← HS.out, if_neg h1, if_neg h2] at this; exact this.symm
    subst hn; have g2 : ¬ (draws : Int) ≤ s.2 := by omega
    go_enter Tryz.func91, Tryz.ntmps91
    go_wp2_with fail; refine (depth_any HV.out day HDY.out w HD.out HK.out).mono ?_
    rw [← HS.out]; unfold hullV; rintro e w1 ⟨rfl, hk1, hg1⟩; have HK1 := Lib.hid hk1; have HG1 := Lib.hid hg1; clear hk1 hg1; go_wp2; go_ret
    refine ⟨rfl, HK1.out.turn (S := fun _ => False) ((Turn.refl _ _).alloc _) (fun _ _ h => h.elim), ?_⟩
    exact Turn.grownK ((Turn.of_grownK HG1.out).alloc _)
 exact key _ (Lib.hid rfl)
end
end Go.Proofs.YtgmfhngcehkibaaGreat
