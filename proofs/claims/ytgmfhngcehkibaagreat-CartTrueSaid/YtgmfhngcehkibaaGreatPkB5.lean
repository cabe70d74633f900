/- The data of a river and how it lies in memory; the walk of changes; condition: the river is valid. Condition: what the statements say. -/
import Derived.Test.YtgmfhngcehkibaaGreatPkB4
import Derived.Laws.EntriesVeiled
set_option maxRecDepth 100000
set_option maxHeartbeats 6400000
namespace Go.Proofs.YtgmfhngcehkibaaGreat
open Go.RowKit Go.Hav Go.Shelf Go.Sq
def frF (f : NFr) : List Value := [.int .i64 f.days.lo, .int .i64 f.days.hi, .int .i64 f.rise.lo, .int .i64 f.rise.hi]
def lkF (l : NLk) : List Value := [.int .i64 l.day, .int .i64 l.dep.lo, .int .i64 l.dep.hi]
def anF (v : Value) : List Value := [v]
theorem anF_len (s : Value) : (anF s).length = 1 := rfl
section
variable {w : World} {B : Nat} {A : Option Addr}
theorem rd_fr {l : List NFr} (h : RdG frF 4 w B A l) (k : Nat) (c : NFr) (hc : l[k]? = some c) : ∃ b off, A = some ⟨b, off, none⟩ ∧ b < B ∧ w.cell? ⟨b, off + k * 4, none⟩ = some (.int .i64 c.days.lo) ∧ w.cell? ⟨b, off + k * 4 + 1, none⟩ = some (.int .i64 c.days.hi) ∧
  w.cell? ⟨b, off + k * 4 + 2, none⟩ = some (.int .i64 c.rise.lo) ∧ w.cell? ⟨b, off + k * 4 + 3, none⟩ = some (.int .i64 c.rise.hi) := by
 obtain ⟨b, off, e, hb, hx⟩ := h k c hc; exact ⟨b, off, e, hb, hx 0 _ rfl, by rw [Nat.add_assoc]; exact hx 1 _ rfl, by rw [Nat.add_assoc]; exact hx 2 _ rfl, by rw [Nat.add_assoc]; exact hx 3 _ rfl⟩
theorem rd_lk {l : List NLk} (h : RdG lkF 3 w B A l) (k : Nat) (c : NLk) (hc : l[k]? = some c) : ∃ b off, A = some ⟨b, off, none⟩ ∧ b < B ∧ w.cell? ⟨b, off + k * 3, none⟩ = some (.int .i64 c.day) ∧ w.cell? ⟨b, off + k * 3 + 1, none⟩ = some (.int .i64 c.dep.lo) ∧
  w.cell? ⟨b, off + k * 3 + 2, none⟩ = some (.int .i64 c.dep.hi) := by
 obtain ⟨b, off, e, hb, hx⟩ := h k c hc; exact ⟨b, off, e, hb, hx 0 _ rfl, by rw [Nat.add_assoc]; exact hx 1 _ rfl, by rw [Nat.add_assoc]; exact hx 2 _ rfl⟩
theorem rd_an {l : List Value} (h : RdG anF 1 w B A l) (k : Nat) (c : Value) (hc : l[k]? = some c) : ∃ b off, A = some ⟨b, off, none⟩ ∧ b < B ∧ w.cell? ⟨b, off + k, none⟩ = some c := by
 obtain ⟨b, off, e, hb, hx⟩ := h k c hc; exact ⟨b, off, e, hb, by have := hx 0 _ rfl; rwa [Nat.mul_one] at this⟩
end
structure Riv.Good (r : Riv) : Prop where
 d1 : r.depth.lo ≤ r.depth.hi
 d2 : r.depth.hi ≤ 60
 d3 : r.depth.hi ≤ r.depth.lo + 4
 f1 : r.fall.lo ≤ r.fall.hi
 f2 : r.fall.hi ≤ 5
 f3 : r.fall.hi ≤ r.fall.lo + 2
 n1 : 1 ≤ r.days
 n2 : r.days ≤ 10
 fl : r.fr.length ≤ 3
 ll : r.lk.length ≤ 5
 fr : ∀ f ∈ r.fr, 1 ≤ f.days.lo ∧ f.days.lo ≤ f.days.hi ∧ f.days.hi ≤ r.days ∧ f.days.hi ≤ f.days.lo + 3 ∧ 1 ≤ f.rise.lo ∧ f.rise.lo ≤ f.rise.hi ∧ f.rise.hi ≤ 20 ∧ f.rise.hi ≤ f.rise.lo + 3
 lk : ∀ l ∈ r.lk, l.day ≤ r.days ∧ l.dep.lo ≤ l.dep.hi ∧ l.dep.hi ≤ 200
theorem Riv.Good.fit {r : Riv} (h : r.Good) {f : NFr} (hf : f ∈ r.fr) : f.Fit := by
 obtain ⟨h1, h2, h3, h4, h5, h6, h7, h8⟩ := h.fr f hf; have := h.n2; exact ⟨h2, by omega, h6, h7⟩
def gCs (r : Riv) (fa : Option Addr) (fl fc : Nat) (la : Option Addr) (ll lc k : Nat) : Array Value :=
 #[.int .i64 r.depth.lo, .int .i64 r.depth.hi, .int .i64 r.fall.lo, .int .i64 r.fall.hi, .int .i64 r.days, .slice fa fl fc, .slice la ll lc, .map (some k)]
structure GauIn (w : World) (B d k : Nat) (fa : Option Addr) (fl fc : Nat) (la : Option Addr) (ll lc : Nat) (r : Riv) : Prop where
 blk : Blk w d 179 (gCs r fa fl fc la ll lc k)
 efl : r.fr.length = fl
 ell : r.lk.length = ll
 hfr : RdG frF 4 w B fa r.fr
 hlk : RdG lkF 3 w B la r.lk
 hB : B ≤ w.heap.size
 hk : B ≤ k
 hd : B ≤ d
 kd : k ≠ d
section
variable {w w' : World} {B d k : Nat} {fa la : Option Addr} {fl fc ll lc : Nat} {r : Riv} {S : Nat → Prop}
theorem GauIn.turn (h : GauIn w B d k fa fl fc la ll lc r) (t : Turn S w w') (hs : ∀ b, S b → B ≤ b) (hd : ¬ S d) : GauIn w' B d k fa fl fc la ll lc r := by
 have hb : Below B w w' := t.below h.hB hs; exact { h with blk := h.blk.turn t hd, hfr := h.hfr.below hb, hlk := h.hlk.below hb, hB := Nat.le_trans h.hB t.size }
theorem GauIn.grow (h : GauIn w B d k fa fl fc la ll lc r) (hb : Below w.heap.size w w') : GauIn w' B d k fa fl fc la ll lc r := h.turn (S := fun _ => False) (Turn.of_below hb) (fun _ h => h.elim) id
def chK (by_ : Nat) (fr : List NFr) : Nat → List Value
 | 0 => [.iface 216 (.agg #[.int .i64 by_])]
 | n + 1 => match fr[n]? with
  | some f => chK by_ fr n ++ [.iface 218 (.agg (flC n f))]
  | none => chK by_ fr n
theorem chK_step {by_ : Nat} {fr : List NFr} {n : Nat} {f : NFr} (h : fr[n]? = some f) : chK by_ fr (n + 1) = chK by_ fr n ++ [.iface 218 (.agg (flC n f))] := by
 show (match fr[n]? with | some f => _ | none => _) = _
 rw [h]
theorem chK_len {by_ : Nat} {fr : List NFr} : ∀ n, n ≤ fr.length → (chK by_ fr n).length = n + 1
 | 0, _ => rfl
 | n + 1, h => by rw [chK_step (f := fr[n]) (by simp), List.length_append, chK_len n (by omega)]; rfl
theorem chK_zero {by_ : Nat} {fr : List NFr} : ∀ n, n ≤ fr.length → (chK by_ fr n)[0]? = some (.iface 216 (.agg #[.int .i64 by_]))
 | 0, _ => rfl
 | n + 1, h => by rw [chK_step (f := fr[n]) (by simp), List.getElem?_append_left (by rw [chK_len n (by omega)]; omega)]; exact chK_zero n (by omega)
theorem chK_at {by_ : Nat} {fr : List NFr} {j : Nat} {f : NFr} (hf : fr[j]? = some f) : ∀ n, n ≤ fr.length → j < n → (chK by_ fr n)[j + 1]? = some (.iface 218 (.agg (flC j f)))
 | 0, _, h => by omega
 | n + 1, h, hj => by
  rw [chK_step (f := fr[n]) (by simp)]
  by_cases e : j = n
  ·subst e; rw [List.getElem?_append_right (by rw [chK_len j (by omega)]; omega), chK_len j (by omega), Nat.sub_self]
   have : fr[j] = f := by have := hf; rw [List.getElem?_eq_getElem (by omega)] at this; exact Option.some.inj this
   rw [this]
   rfl
  ·rw [List.getElem?_append_left (by rw [chK_len n (by omega)]; omega)]
   exact chK_at hf n (by omega) (by omega)
def RdV (W : World) (g : Nat) (l : List Value) : Prop := ∀ j v, l[j]? = some v → W.cell? ⟨g, j, none⟩ = some v
theorem RdV.turn {S : Nat → Prop} {X Y : World} {g : Nat} {l : List Value} (h : RdV X g l) (t : Turn S X Y) (hg : g < X.heap.size) (hs : ¬ S g) : RdV Y g l := fun j v hj => (World.cell?_of_block (a := ⟨g, j, none⟩) (t.block g hg hs)).trans (h j v hj)
theorem Tryz.infoE136 : (Tryz.prog.info? 213).map (fun i => (i.zero, i.size, i.bytes)) = some (some .nilIface, 1, 16) := by kernel_rfl
theorem changes_any (hv : r.Good) (by_ : Nat) (w : World) (hD : GauIn w B d k fa fl fc la ll lc r) :
  Calls Tryz.prog 149 #[(.pointer (some ⟨d, 0, none⟩)), .int .i64 by_] w fun e w' => ∃ g cp, e = .returned (.slice (some ⟨g, 0, none⟩) (fl + 1) cp) ∧ Below w.heap.size w w' ∧ w.heap.size ≤ g ∧ g < w'.heap.size ∧ RdV w' g (chK by_ r.fr fl) := by
 have HD := Lib.hid hD; have HV := Lib.hid hv; have p3 : w.cell? ⟨d, 5, none⟩ = some (.slice fa fl fc) := hD.blk.cell 5; have hdw : d < w.heap.size := hD.blk.lt; have hfl : fl ≤ 3 := by have := hv.fl; rw [hD.efl] at this; exact this
 have HE := Lib.hid hD.efl; obtain ⟨i0, hi, hz0, hz1, hz2⟩ := info_parts Tryz.infoE136; have HI := Lib.hid hi; have HI0 := Lib.hid hz0; have HI1 := Lib.hid hz1; have HI2 := Lib.hid hz2; clear hv hD hi hz0 hz1 hz2; have HOWN0 := Lib.hid ((World.ownsRow_nil w w.heap.size 213 1).alloc (.cells #[.iface 216 (.agg #[.int .i64 by_])] 213))
 go_enter Tryz.func149, Tryz.ntmps149
 go_wp2_with (go_loud (at_builtin; refine wpList_append_own _ rfl _ _ 208 rfl w.heap.size 213 i0 _ 1 16 Tryz.underlying208 HI.out HI0.out HI1.out HI2.out rfl (by decide) _ _ _ rfl HOWN0.out ⟨w.heap.size, 0, none⟩ 1 1 [.iface 216 (.agg #[.int .i64 by_])] rfl rfl (news_block (Blk.new w 213 _)) (by simp [Value.oneCell']) (by unfold maxLen; omega) (by omega) (by simp) ?_))
 intro v0 w0 hown0 hgrow0 _
 have HB0 : Hid (Below w.heap.size w w0) := Below.grown ((Below.refl w.heap.size w).alloc (Nat.le_refl _) _) hgrow0 (by simp) (fun k' hk' => by have := (HOWN0.out.lt k' hk').1; omega)
 have HO0 := Lib.hid hown0; clear hown0 hgrow0; have hs0 := HB0.out.size; have p3' : w0.cell? ⟨d, 5, none⟩ = some (.slice fa fl fc) := (HB0.out.cell (p := ⟨d, 5, none⟩) hdw).trans p3; have HRW : Hid (w0.ownsRow w.heap.size 213 1 v0 (0 + 1) ((chK by_ r.fr 0).flatMap anF)) := HO0.out; clear HO0 HOWN0; go_wp2
 go_loopw [4, 19] (fun l i wr => ∃ n : Nat, n ≤ fl ∧ i = .int .i64 n ∧ Hid (wr.ownsRow w.heap.size 213 1 l (n + 1) ((chK by_ r.fr n).flatMap anF)) ∧ Hid (Below w.heap.size w wr)) (fun _ i _ => fl - (intOf i).toNat)
 case atStart => exact ⟨0, Nat.zero_le _, rfl, HRW, HB0⟩
 case round =>
  obtain ⟨n, hn, rfl, HO, HB⟩ := hrel
  by_cases hlt : n < fl
  ·obtain ⟨c, hc⟩ : ∃ c, r.fr[n]? = some c := ⟨r.fr[n]'(by have := HE.out; omega), by simp⟩
   have HST := Lib.hid (chK_step (by_ := by_) hc); obtain ⟨b, off, rfl, hbl, H0, H1, H2, H3⟩ := rd_fr ((HD.out.grow HB.out).hfr) n c hc; have hbw : b < wr.heap.size := Nat.lt_of_lt_of_le hbl (HD.out.grow HB.out).hB; obtain ⟨⟨c0, c1⟩, ⟨c2, c3⟩⟩ := c; simp only at H0 H1 H2 H3; clear hc; have HOWN := Lib.hid (own_below (w' := (wr.alloc (.cells #[.int .i64 c0, .int .i64 c1, .int .i64 c2, .int .i64 c3] 59)).alloc (.cells #[.iface 218 (.agg (flC n ⟨⟨c0, c1⟩, ⟨c2, c3⟩⟩))] 213)) HO.out (((Below.refl wr.heap.size wr).alloc (Nat.le_refl _) _).alloc (by simp) _))
   go_wp2_with (go_loud (at_builtin; refine wpList_append_own _ rfl _ _ 208 rfl w.heap.size 213 i0 _ 1 16 Tryz.underlying208 HI.out HI0.out HI1.out HI2.out rfl (by decide) _ _ _ rfl HOWN.out ⟨wr.heap.size + 1, 0, none⟩ 1 1 [.iface 218 (.agg (flC n ⟨⟨c0, c1⟩, ⟨c2, c3⟩⟩))] rfl rfl (news_block (Blk.new_ (by simp) 213 _)) (by simp [Value.oneCell']) (by unfold maxLen; omega) (by omega) (by have := HB.out.size; simp; omega) ?_))
   intro v' w2 hown2 hgrow2 _; have HO2 := Lib.hid hown2
   have HG2 : Hid (Below w.heap.size w w2) := Below.grown ((HB.out.alloc HB.out.size _).alloc (by have := HB.out.size; simp; omega) _) hgrow2 (by have := HB.out.size; simp; omega) (fun k' hk' => by have := (HOWN.out.lt k' hk').1; omega)
   clear hown2 hgrow2; go_wp2; go_roundw
   case rel => exact ⟨n + 1, by omega, by go_num, by rw [HST.out, List.flatMap_append, List.flatMap_singleton]; exact HO2, HG2⟩
   case measure => simp [intOf]; omega
  ·obtain rfl : fl = n := by omega
   have HO' : Hid (wr.ownsRow w.heap.size 213 1 u4 (chK by_ r.fr fl).length ((chK by_ r.fr fl).flatMap anF)) := by rw [chK_len fl (by rw [HE.out]; exact Nat.le_refl _)]; exact HO.out
   go_wp2; go_ret
   have hl : (chK by_ r.fr fl).length = fl + 1 := chK_len fl (by rw [HE.out]; exact Nat.le_refl _)
   obtain ⟨A, cp, he, hrs, _⟩ := own_rd anF_len (by decide) HO'.out
   obtain ⟨g, off, hA, hg, hx⟩ := rd_an hrs 0 _ (chK_zero fl (by rw [HE.out]; exact Nat.le_refl _))
   rw [hl] at he; rcases HO'.out.2 with ⟨h0, _⟩ | ⟨g', cap, cur, h1, h2, _⟩
   ·rw [h0, hA] at he; cases he
   ·rw [h1, hA] at he; simp only [Value.slice.injEq, Option.some.injEq, Addr.mk.injEq, and_true] at he; obtain ⟨⟨rfl, rfl⟩, _, rfl⟩ := he
    refine ⟨g', cap, by rw [h1, hl]; rfl, HB.out, h2, hg, fun j v hj => ?_⟩
    obtain ⟨g2, off2, hA2, _, hx2⟩ := rd_an hrs j v hj; rw [hA] at hA2; simp only [Option.some.injEq, Addr.mk.injEq, and_true] at hA2; obtain ⟨rfl, rfl⟩ := hA2
    rwa [Nat.zero_add] at hx2
end
end Go.Proofs.YtgmfhngcehkibaaGreat
namespace Go.Proofs.YtgmfhngcehkibaaGreat
open Go.RowKit Go.Hav Go.Shelf Go.Sq
attribute [local go_sem] Oper.semAt_some
section
variable {B d k : Nat} {fa la : Option Addr} {fl fc ll lc : Nat} {r : Riv}
theorem next_any (hv : r.Good) (s : St) (by_ day : Nat) (w : World) (hD : GauIn w B d k fa fl fc la ll lc r) :
  Calls Tryz.prog 145 #[(.pointer (some ⟨d, 0, none⟩)), stV s, .int .i64 by_, .int .i64 day] w fun e w' => ∃ bc g cp, e = .returned (.func (.func 150) #[] #[.pointer (some ⟨bc, 0, none⟩), .pointer (some ⟨w.heap.size + 1, 0, none⟩), .pointer (some ⟨w.heap.size, 0, none⟩)]) ∧
   Below w.heap.size w w' ∧ w.heap.size ≤ bc ∧ Blk w' bc 208 #[.slice (some ⟨g, 0, none⟩) (fl + 1) cp] ∧ Blk w' (w.heap.size + 1) 3 #[.int .i64 day] ∧ Blk w' w.heap.size 189 (stC s) ∧ RdV w' g (chK by_ r.fr fl) ∧ w.heap.size ≤ g ∧ g < w'.heap.size := by
 have hmf := hmf0; obtain ⟨x, c⟩ := s; have HD := Lib.hid hD; have HV := Lib.hid hv; clear hD hv; unfold stV stC
 go_enter Tryz.func145, Tryz.ntmps145
 go_wp2_with fail; obtain ⟨W0, hW0⟩ : ∃ W0, W0 = (w.alloc (.cells #[.int .i64 x, .int .u64 c] 189)).alloc (.cells #[.int .i64 day] 3) := ⟨_, rfl⟩
 have HB0 : Hid (Below w.heap.size w W0) := by rw [hW0]; exact ((Below.refl _ _).alloc (Nat.le_refl _) _).alloc (by simp) _
 have hs0 : W0.heap.size = w.heap.size + 2 := by rw [hW0]; simp
 have HX1 : Hid (Blk W0 w.heap.size 189 #[.int .i64 x, .int .u64 c]) := by rw [hW0]; exact (Blk.new w 189 _).alloc _
 have HX2 : Hid (Blk W0 (w.heap.size + 1) 3 #[.int .i64 day]) := by rw [hW0]; exact Blk.new_ (by simp) 3 _
 rw [← hW0]; clear hW0; refine (changes_any HV.out by_ W0 (HD.out.grow HB0.out)).mono ?_; rintro e w1 ⟨g, cp, rfl, hb1, hg0, hg1, hrd⟩; have HB1 := Lib.hid hb1; have HRD := Lib.hid hrd; have hs1 := hb1.size; clear hb1 hrd; go_wp2; go_ret
 refine ⟨w1.heap.size, g, cp, rfl, (HB0.out.trans (HB1.out.mono (by omega))).alloc (by omega) _, by omega, Blk.new _ _ _, (HX2.out.below HB1.out HX2.out.lt).alloc _, (HX1.out.below HB1.out HX1.out.lt).alloc _, HRD.out.turn (S := fun _ => False) ((Turn.refl _ _).alloc _) hg1 id, by omega, by simp; omega⟩
end
end Go.Proofs.YtgmfhngcehkibaaGreat
namespace Go.Proofs.YtgmfhngcehkibaaGreat
open Go.RowKit Go.Hav Go.Shelf Go.Sq
attribute [local go_sem] Oper.semAt_some
def optN (r : Riv) (by_ day : Nat) : Nat → St → List St
 | 0, s => [(s.1 - by_, s.2)]
 | j + 1, s => match r.fr[j]? with
  | some f => opts f j day s
  | none => []
def nf (r : Riv) (by_ day : Nat) : Nat → St → List St
 | 0, s => next r by_ day s
 | j + 1, s => nexts (r.fr.drop j) j day s
theorem nf_step (r : Riv) (by_ day n : Nat) (s : St) (h : n ≤ r.fr.length) : nf r by_ day n s = (optN r by_ day n s).flatMap (nf r by_ day (n + 1)) := by
 cases n with
 | zero => simp [nf, optN, next, List.flatMap_cons]
 | succ j =>
  have hj : j < r.fr.length := by omega
  have e : r.fr.drop j = r.fr[j] :: r.fr.drop (j + 1) := (List.drop_eq_getElem_cons hj); simp only [nf, optN, List.getElem?_eq_getElem hj]; rw [e, nexts]
  rfl
theorem nf_end (r : Riv) (by_ day : Nat) (s : St) : nf r by_ day (r.fr.length + 1) s = [s] := by
 simp [nf, nexts]
def Sm (n : Nat) (s : St) : Prop := s.1 < 900000 + 20 * n ∧ s.2 < 8
theorem sm_opt {r : Riv} (hv : r.Good) {by_ day n : Nat} {s x : St} (h : Sm n s) (hn : n ≤ r.fr.length) (hx : x ∈ optN r by_ day n s) : Sm (n + 1) x := by
 obtain ⟨h1, h2⟩ := h
 cases n with
 | zero =>
  simp only [optN, List.mem_singleton] at hx; subst hx; exact ⟨by simp only; omega, h2⟩
 | succ j =>
  have hj : j < r.fr.length := by omega
  simp only [optN, List.getElem?_eq_getElem hj] at hx; have hf := hv.fit (List.getElem_mem hj); rcases mem_opts.1 hx with ⟨_, rfl⟩ | ⟨_, _, _, k, _, hk, rfl⟩
  ·exact ⟨by omega, h2⟩
  ·refine ⟨?_, ?_⟩
   ·have := hf.r2; simp only
    omega
   ·have h3 := hv.fl; have h4 : (2 : Nat) ^ j < 2 ^ 3 := Nat.pow_lt_pow_right (by omega) (by omega)
    exact Nat.or_lt_two_pow (n := 3) h2 h4
theorem flat_at {α β : Type} {f : α → List β} {l : List α} {k : Nat} {x : α} (h : l[k]? = some x) {j : Nat} {y : β} (hj : (f x)[j]? = some y) : (l.flatMap f)[((l.take k).flatMap f).length + j]? = some y := by
 have hk : k < l.length := (List.getElem?_eq_some_iff.1 h).1; have hx : l[k] = x := (List.getElem?_eq_some_iff.1 h).2; have e : l = l.take k ++ x :: l.drop (k + 1) := by rw [← hx, List.getElem_cons_drop hk, List.take_append_drop]
 have hjl : j < (f x).length := (List.getElem?_eq_some_iff.1 hj).1
 conv => lhs; lhs; rw [e]
 rw [List.flatMap_append, List.flatMap_cons, List.getElem?_append_right (by omega), Nat.add_sub_cancel_left, List.getElem?_append_left hjl]
 exact hj
theorem flat_next {α β : Type} {f : α → List β} {l : List α} {k : Nat} {x : α} (h : l[k]? = some x) : ((l.take (k + 1)).flatMap f).length = ((l.take k).flatMap f).length + (f x).length := by
 rw [List.take_add_one, h]
 simp
theorem own_lt {B : Nat} {Ty : TypeId → Prop} {l : Nat} {t : TypeId} {cs : Array Value} (hl : l < B) : OwnT B Ty KxN (fun X => Blk X l t cs) :=
 ⟨fun X Y row hJ hg hr => (hg.block l hJ.lt (fun e => by have := (hr l e.symm).1; omega)).trans hJ, fun _ _ _ h => h.elim⟩
theorem run_fall (nm : String) (v : Value) (w : World) (h : nm = "shearworks/river.states") : (method 336 216 v nm).run Tryz.prog w = .ok (177, v) w := by subst h; kernel_rfl
theorem run_flood (nm : String) (v : Value) (w : World) (h : nm = "shearworks/river.states") : (method 336 218 v nm).run Tryz.prog w = .ok (179, v) w := by subst h; kernel_rfl
structure OnPre (S : Nat → Prop) (X : World) (bc bv bd bo g cp fl L by_ day : Nat) (fr : List NFr) : Prop where
 hc : Blk X bc 208 #[.slice (some ⟨g, 0, none⟩) (fl + 1) cp]
 hv : Blk X bv 210 #[.func (.yield L) #[] #[]]
 hd : Blk X bd 3 #[.int .i64 day]
 ho : Blk X bo 211 #[.func (.func 151) #[] #[.pointer (some ⟨bc, 0, none⟩), .pointer (some ⟨bv, 0, none⟩), .pointer (some ⟨bd, 0, none⟩), .pointer (some ⟨bo, 0, none⟩)]]
 hg : RdV X g (chK by_ fr fl)
 gl : g < X.heap.size
 sc : ¬ S bc
 sv : ¬ S bv
 sd : ¬ S bd
 so : ¬ S bo
 sg : ¬ S g
theorem OnPre.turn {S S' : Nat → Prop} {X Y : World} {bc bv bd bo g cp fl L by_ day : Nat} {fr : List NFr} (h : OnPre S X bc bv bd bo g cp fl L by_ day fr) (t : Turn S' X Y) (hs : ∀ b, b < X.heap.size → S' b → S b ∨ (b ≠ bc ∧ b ≠ bv ∧ b ≠ bd ∧ b ≠ bo ∧ b ≠ g)) : OnPre S Y bc bv bd bo g cp fl L by_ day fr := by
 have n1 : ¬ S' bc := fun e => (hs _ h.hc.lt e).elim h.sc (fun h1 => h1.1 rfl)
 have n2 : ¬ S' bv := fun e => (hs _ h.hv.lt e).elim h.sv (fun h1 => h1.2.1 rfl)
 have n3 : ¬ S' bd := fun e => (hs _ h.hd.lt e).elim h.sd (fun h1 => h1.2.2.1 rfl)
 have n4 : ¬ S' bo := fun e => (hs _ h.ho.lt e).elim h.so (fun h1 => h1.2.2.2.1 rfl)
 have n5 : ¬ S' g := fun e => (hs _ h.gl e).elim h.sg (fun h1 => h1.2.2.2.2 rfl)
 exact { h with hc := h.hc.turn t n1, hv := h.hv.turn t n2, hd := h.hd.turn t n3, ho := h.ho.turn t n4, hg := h.hg.turn t h.gl n5, gl := Nat.lt_of_lt_of_le h.gl t.size }
section
variable {fl : Nat} {r : Riv}
theorem on_any (hv : r.Good) (hfl : r.fr.length = fl) {by_ day : Nat} (hby : by_ < 1000) {S : Nat → Prop} {L B0 : Nat} {J : Nat → World → Prop} {Jx : World → Prop} (hSB : ∀ b, S b → b < B0) (hJ : ∀ k, OwnT B0 TyB KxN (J k)) (hJx : OwnT B0 TyB KxN Jx) (full : List St)
  (hY : ∀ k x X, J k X → (full.map encS)[k]? = some x → YieldAt Fence.wide 0 Tryz.prog L x X fun e X' => Turn S X X' ∧ ((e = .returned (.bool true) ∧ J (k + 1) X') ∨ (e = .returned (.bool false) ∧ Jx X'))) (bc bv bd bo g cp : Nat) :
  ∀ (m n : Nat), n + m = fl + 1 → ∀ (s : St) (k0 : Nat) (X : World), B0 ≤ X.heap.size → Sm n s → OnPre S X bc bv bd bo g cp fl L by_ day r.fr → J k0 X → (∀ j y, (nf r by_ day n s)[j]? = some y → full[k0 + j]? = some y) →
   Calls Tryz.prog 151 #[stV s, .int .i64 n, .pointer (some ⟨bc, 0, none⟩), .pointer (some ⟨bv, 0, none⟩), .pointer (some ⟨bd, 0, none⟩), .pointer (some ⟨bo, 0, none⟩)] X fun e X' =>
    Turn S X X' ∧ ((e = .returned (.bool true) ∧ J (k0 + (nf r by_ day n s).length) X') ∨ (e = .returned (.bool false) ∧ Jx X')) := by
 have HV := Lib.hid hv; have HFL := Lib.hid hfl; have HJ := Lib.hid hJ; have HJX := Lib.hid hJx; have HY := Lib.hid hY; have HSB := Lib.hid hSB; have hfl3 : fl ≤ 3 := by have := hv.fl; omega
 clear hv hfl hJ hJx hY hSB; intro m
 induction m with
 | zero =>
  intro n hn s k0 X hBX hs hP hj hfull; obtain rfl : n = fl + 1 := by omega
  have HP := Lib.hid hP; have HJ0 := Lib.hid hj; obtain ⟨W0, hW0⟩ : ∃ W0, W0 = (((X.alloc (.cells (stC s) 189)).alloc (.cells #[.int .i64 ((fl : Int) + 1)] 3)).alloc (.cells #[.bool false] 4)) := ⟨_, rfl⟩; have HW := Lib.hid hW0; have HB0 : Hid (Below X.heap.size X W0) := by rw [hW0]; exact (((Below.refl _ _).alloc (Nat.le_refl _) _).alloc (by simp) _).alloc (by simp; omega) _
  have hnf : nf r by_ day (fl + 1) s = [s] := by rw [← HFL.out]; exact nf_end _ _ _ _
  have HNF := Lib.hid hnf; obtain ⟨fn, tmps, assign, body, hy, hR⟩ := HY.out k0 (encS s) W0 ((HJ.out k0).below hj HB0.out) (by rw [List.getElem?_map, show full[k0]? = some s from hfull 0 s (by rw [hnf]; rfl)]; rfl)
  have HR := Lib.hid hR; obtain ⟨x, c⟩ := s; have c1 : W0.cell? ⟨bc, 0, none⟩ = some (.slice (some ⟨g, 0, none⟩) (fl + 1) cp) := (hP.hc.below HB0.out hP.hc.lt).cell 0; have c2 : W0.cell? ⟨bv, 0, none⟩ = some (.func (.yield L) #[] #[]) := (hP.hv.below HB0.out hP.hv.lt).cell 0; have HX1 : Hid (Blk W0 X.heap.size 189 #[.int .i64 x, .int .u64 c]) := by rw [hW0]; exact ((Blk.new X 189 _).alloc _).alloc _
  have HX2 : Hid (Blk W0 (X.heap.size + 1) 3 #[.int .i64 ((fl : Int) + 1)]) := by rw [hW0]; exact (Blk.new_ (by simp) 3 _).alloc _
  have HX3 : Hid (Blk W0 (X.heap.size + 1 + 1) 4 #[.bool false]) := by rw [hW0]; exact Blk.new_ (by simp) 4 _
  have c3 : W0.cell? ⟨X.heap.size, 0, none⟩ = some (.int .i64 x) := HX1.out.cell 0; have c4 : W0.cell? ⟨X.heap.size, 1, none⟩ = some (.int .u64 c) := HX1.out.cell 1; have c5 : W0.cell? ⟨X.heap.size + 1, 0, none⟩ = some (.int .i64 ((fl : Int) + 1)) := HX2.out.cell 0; clear hP hj hfull hnf hR HW; dsimp only [encS, stV, stC] at hy; subst hW0
  dsimp only [stC] at *
  unfold stV stC; refine (callsIn_wide (n := 0)).1 (callsIn_of_wp_marks Tryz.func151 rfl trivial ?_ rfl); simp only [Tryz.ntmps151, List.size_toArray, List.length_cons, List.length_nil, Nat.reduceAdd, Nat.reduceSub, Array.replicate_succ, Array.replicate_zero, List.push_toArray, List.append_toArray, List.nil_append, List.cons_append]
  gi_wp2
  refine ⟨rfl, HR.out.mono ?_⟩; have HTX : Hid (Turn S X ((((X.alloc (.cells #[.int .i64 x, .int .u64 c] 189)).alloc (.cells #[.int .i64 ((fl : Int) + 1)] 3)).alloc (.cells #[.bool false] 4)))) := Turn.of_below HB0.out; rintro e Y ⟨hT, hcase⟩
  have n8 : ¬ S (X.heap.size + 1 + 1) := fun h => by have := HSB.out _ h; omega
  have HK8 : Hid (Blk Y (X.heap.size + 1 + 1) 4 #[.bool false]) := HX3.out.turn hT n8; have k0' : Y.cell? ⟨X.heap.size + 1 + 1, 0, none⟩ = some (.bool false) := HK8.out.cell 0; have k1 : Y.frozen? ⟨X.heap.size + 1 + 1, 0, none⟩ = false := HK8.out.frozen 0; have HTY : Hid (Turn S X Y) := HTX.out.trans hT; clear HX1 HX2 HX3 HB0 c1 c2 c3 c4 c5 hy HR hT HTX; rcases hcase with ⟨rfl, hj⟩ | ⟨rfl, hj⟩
  ·have HJ1 := Lib.hid hj; clear hj
   gi_wp2
   have e0 : (Y.setCell ⟨X.heap.size + 1 + 1, 0, none⟩ (.bool true)).cell? ⟨X.heap.size + 1 + 1, 0, none⟩ = some (.bool true) := (HK8.out.set_ 0 (.bool true)).cell 0
   refine ⟨.bool true, by simp [results, Tryz.results151, go_sem, e0], HTY.out.join (Turn.set (S := fun b => b = X.heap.size + 1 + 1) _ _ (fun _ => rfl)) (fun b hb h => by omega), .inl ⟨rfl, ?_⟩⟩
   rw [HNF.out]; exact (HJ.out _).set HJ1.out HK8.out (by omega) rfl 0 _
  ·have HJ1 := Lib.hid hj; clear hj
   gi_wp2
   have e0 : (Y.setCell ⟨X.heap.size + 1 + 1, 0, none⟩ (.bool false)).cell? ⟨X.heap.size + 1 + 1, 0, none⟩ = some (.bool false) := (HK8.out.set_ 0 (.bool false)).cell 0
   exact ⟨.bool false, by simp [results, Tryz.results151, go_sem, e0], HTY.out.join (Turn.set (S := fun b => b = X.heap.size + 1 + 1) _ _ (fun _ => rfl)) (fun b hb h => by omega), .inr ⟨rfl, HJX.out.set HJ1.out HK8.out (by omega) rfl 0 _⟩⟩
 | succ m ih =>
  intro n hn s k0 X hBX hs hP hj hfull; have HP := Lib.hid hP; have HJ0 := Lib.hid hj; have HSM := Lib.hid hs; have HFU := Lib.hid hfull; have HIH := Lib.hid ih; have hnl : n ≤ fl := by omega
  have hnl' : n ≤ r.fr.length := by rw [HFL.out]; exact hnl
  have HOK := Lib.hid (fun x (hx : x ∈ optN r by_ day n s) => sm_opt HV.out hs hnl' hx)
  have HNF := Lib.hid (nf_step r by_ day n s hnl'); obtain ⟨vn, hvn⟩ : ∃ vn, (chK by_ r.fr fl)[n]? = some vn := ⟨(chK by_ r.fr fl)[n]'(by rw [chK_len fl (by rw [HFL.out]; exact Nat.le_refl _)]; omega), by simp⟩
  have HVN := Lib.hid hvn; obtain ⟨x, c⟩ := s; obtain ⟨W0, hW0⟩ : ∃ W0, W0 = (((X.alloc (.cells #[.int .i64 x, .int .u64 c] 189)).alloc (.cells #[.int .i64 n] 3)).alloc (.cells #[.bool false] 4)) := ⟨_, rfl⟩; have HB0 : Hid (Below X.heap.size X W0) := by rw [hW0]; exact (((Below.refl _ _).alloc (Nat.le_refl _) _).alloc (by simp) _).alloc (by simp; omega) _
  have hs0 : W0.heap.size = X.heap.size + 3 := by rw [hW0]; simp
  have HX1 : Hid (Blk W0 X.heap.size 189 #[.int .i64 x, .int .u64 c]) := by rw [hW0]; exact ((Blk.new X 189 _).alloc _).alloc _
  have HX2 : Hid (Blk W0 (X.heap.size + 1) 3 #[.int .i64 n]) := by rw [hW0]; exact (Blk.new_ (by simp) 3 _).alloc _
  have HX3 : Hid (Blk W0 (X.heap.size + 1 + 1) 4 #[.bool false]) := by rw [hW0]; exact Blk.new_ (by simp) 4 _
  have c1 : (((X.alloc (.cells #[.int .i64 x, .int .u64 c] 189)).alloc (.cells #[.int .i64 n] 3)).alloc (.cells #[.bool false] 4)).cell? ⟨bc, 0, none⟩ = some (.slice (some ⟨g, 0, none⟩) (fl + 1) cp) := by rw [← hW0]; exact (hP.hc.below HB0.out hP.hc.lt).cell 0
  have c5 : (((X.alloc (.cells #[.int .i64 x, .int .u64 c] 189)).alloc (.cells #[.int .i64 n] 3)).alloc (.cells #[.bool false] 4)).cell? ⟨X.heap.size + 1, 0, none⟩ = some (.int .i64 n) := by rw [← hW0]; exact HX2.out.cell 0
  have hne : ¬ (n : Int) = fl + 1 := by omega
  clear hP hj hs hfull ih hvn hnl'; unfold stV stC; refine (callsIn_wide (n := 6)).1 (callsIn_of_wp_marks Tryz.func151 rfl trivial ?_ rfl); simp only [Tryz.ntmps151, List.size_toArray, List.length_cons, List.length_nil, Nat.reduceAdd, Nat.reduceSub, Array.replicate_succ, Array.replicate_zero, List.push_toArray, List.append_toArray, List.nil_append, List.cons_append]; refine wpIn_wide.2 ?_; go_wp2; rw [← hW0] at c1 c5 ⊢; clear hW0; have m1 : bc < W0.heap.size := by have := HP.out.hc.lt; omega
  have m2 : bd < W0.heap.size := by have := HP.out.hd.lt; omega
  have m3 : g < W0.heap.size := by have := HP.out.gl; omega
  have m4 : X.heap.size < W0.heap.size := by omega
  have m5 : X.heap.size + 1 < W0.heap.size := by omega
  have u1 : W0.cell? ⟨X.heap.size, 0, none⟩ = some (.int .i64 x) := HX1.out.cell 0; have u2 : W0.cell? ⟨X.heap.size, 1, none⟩ = some (.int .u64 c) := HX1.out.cell 1; have u3 : W0.cell? ⟨bd, 0, none⟩ = some (.int .i64 day) := (HP.out.hd.below HB0.out HP.out.hd.lt).cell 0
  have u4 : W0.cell? ⟨g, n, none⟩ = some vn := (HP.out.hg.turn (S := fun _ => False) (Turn.of_below HB0.out) HP.out.gl id) n vn HVN.out
  have hlt1 : (n : Int) < fl + 1 := by omega
  have HS0 := Lib.hid hs0; clear hs0
  by_cases hn0 : n = 0
  ·obtain rfl : vn = .iface 216 (.agg #[.int .i64 by_]) := by
    have h1 := HVN.out; rw [hn0, chK_zero fl (by rw [HFL.out]; exact Nat.le_refl _)] at h1
    exact (Option.some.inj h1).symm
   have HN0 := Lib.hid hn0; clear hn0
   refine HavG.wp_region_havoc (R := RelB) [(0,false),(1,false),(2,false),(3,false),(4,false),(5,false)] [6] (fun _ _ => False) (by kernel_rfl) (by kernel_rfl) (fun _ _ _ _ h => h.elim) ?_
   (apply HavG.hav_same (by exact ho rfl) (by kernel_rfl); (focus (intro wv hgv _; have hcv := cvB hgv; (try go_simp); try rfl; done)); simp only [Act.put, List.setIfInBounds_toArray, List.set_cons_succ, List.set_cons_zero])
   iterate 5 (apply HavG.hav_same (by exact ho rfl) (by kernel_rfl); (focus (intro wv hgv _; have hcv := cvB hgv; (try go_simp); try rfl; done)); simp only [Act.put, List.setIfInBounds_toArray, List.set_cons_succ, List.set_cons_zero])
   refine HavG.hav_end (fun wz hgz _ => ?_)
   simp only [List.filterMap]; go_wp2_with fail; rw [run_fall]
   case h => rfl
   go_wp2_with fail; refine (fallStates_any by_ (x, c) day wz).mono ?_
   obtain ⟨Wx, hW2⟩ : ∃ Wx, Wx = (wz.alloc (.cells #[.int .i64 by_] 216)).alloc (.cells (stC (x, c)) 189) := ⟨_, rfl⟩; have HBW2 : Hid (Below W0.heap.size W0 Wx) := by rw [hW2]; exact ((Below.trans hgz (Below.refl _ _)).alloc (by have := Below.size hgz; exact this) _).alloc (by have := Below.size hgz; simp; omega) _
   have HY1 : Hid (Blk Wx wz.heap.size 216 #[.int .i64 by_]) := by rw [hW2]; exact (Blk.new wz 216 _).alloc _
   have HY2 : Hid (Blk Wx (wz.heap.size + 1) 189 (stC (x, c))) := by rw [hW2]; exact Blk.new_ (by simp) 189 _
   have hsz := Below.size hgz; rw [← hW2]; rintro e W2 ⟨rfl, rfl⟩
   have hseq : SeqL Tryz.prog 178 #[.pointer (some ⟨wz.heap.size + 1, 0, none⟩), .pointer (some ⟨wz.heap.size, 0, none⟩)] ((optN r by_ day n (x, c)).map encS) TyB KxN (fun _ W => Blk W (wz.heap.size + 1) 189 (stC (x, c)) ∧ Blk W wz.heap.size 216 #[.int .i64 by_]) := by
    rw [HN0.out]; exact fall_seq TyB KxN by_ _ _ (x, c) hby (by have := HSM.out.1; simp only at this ⊢; omega)
   have hpre : ∀ B8, B8 = X.heap.size + 1 + 1 → ∀ r : Loop, (fun (_ : Nat → Prop) W => Blk W (wz.heap.size + 1) 189 (stC (x, c)) ∧ Blk W wz.heap.size 216 #[.int .i64 by_]) (fun b => (S b ∨ b = B8) ∨ b = W2.heap.size + 1) ((W2.alloc (.deferred (some []))).alloc (.loop r)) := fun _ _ r => ⟨(HY2.out.alloc _).alloc _, (HY1.out.alloc _).alloc _⟩
   have heg : ∀ args w, (callFunc 178 args).run Tryz.prog w = .ok (.enter 178 args) w := enters_of Tryz.func178 (by kernel_rfl) rfl
   clear hW2 hgz u1 u2 u3 u4 c1 c5; go_wp2_with fail; obtain ⟨O, hO⟩ : ∃ O, O = optN r by_ day n (x, c) := ⟨_, rfl⟩; rw [← hO] at hseq; have HOK2 : Hid (∀ y, y ∈ O → Sm (n + 1) y) := by rw [hO]; exact HOK.out
   have HNF2 : Hid (nf r by_ day n (x, c) = O.flatMap (nf r by_ day (n + 1))) := by rw [hO]; exact HNF.out
   have HSEQ := Lib.hid hseq; clear hO hseq
   have n8 : ¬ S (X.heap.size + 1 + 1) := fun h => by have := HSB.out _ h; omega
   obtain ⟨B8, hB8⟩ : ∃ B8, B8 = X.heap.size + 1 + 1 := ⟨_, rfl⟩; have HB8 := Lib.hid hB8; have HV8 : Hid (Blk W2 B8 4 #[.bool false]) := by rw [hB8]; exact HX3.out.below HBW2.out HX3.out.lt
   have HV7 : Hid (Blk W2 (X.heap.size + 1) 3 #[.int .i64 n]) := HX2.out.below HBW2.out HX2.out.lt; have HTX2 : Hid (Turn S X W2) := (Turn.of_below HB0.out).trans (Turn.of_below HBW2.out)
   have HP2 : Hid (OnPre S W2 bc bv bd bo g cp fl L by_ day r.fr) := HP.out.turn HTX2.out (fun b _ h => .inl h)
   have hs2 : W0.heap.size ≤ W2.heap.size := HBW2.out.size; have HJ2 : Hid (J k0 W2) := (HJ.out k0).below ((HJ.out k0).below HJ0.out HB0.out) HBW2.out; rw [← hB8]; have HPRE := Lib.hid (hpre B8 hB8); have hb8 : B8 < W2.heap.size := HV8.out.lt; have hb8' : X.heap.size ≤ B8 := by omega
   have hb7 : X.heap.size + 1 < W2.heap.size := HV7.out.lt; have hb78 : X.heap.size + 1 ≠ B8 := by omega
   have HEG := Lib.hid heg; clear hB8 hpre heg
   have HOFF : Hid (∀ k y, O[k]? = some y → ((O.take (k + 1)).flatMap (nf r by_ day (n + 1))).length = ((O.take k).flatMap (nf r by_ day (n + 1))).length + (nf r by_ day (n + 1) y).length) := fun k y h => flat_next h
   refine wpIn_wide.1 (wpIn_rangeL_slots (n := 6) rfl HEG.out HSEQ.out keepsRec_none (fun x hx => by obtain ⟨y, _, rfl⟩ := List.mem_map.1 hx; rfl) (fun b => S b ∨ b = B8) (fun b h => h.elim (fun h => by have := HSB.out b h; omega) (fun h => by omega)) HPRE.out
    (fun k Xw => (Turn (fun b => S b ∨ b = B8) W2 Xw ∧ Blk Xw B8 4 #[.bool false]) ∧ J (k0 + ((O.take k).flatMap (nf r by_ day (n + 1))).length) Xw) (fun cd Xw => (Turn (fun b => S b ∨ b = B8) W2 Xw ∧ cd = .ret) ∧ Blk Xw B8 4 #[.bool false] ∧ Jx Xw)
    (fun k => ((OwnT.turn TyB (Nat.le_refl _) (fun _ _ _ h => h.elim)).and (own_lt hb8)).and ((HJ.out _).le (by omega))) (fun cd => ((OwnT.turn TyB (Nat.le_refl _) (fun _ _ _ h => h.elim)).and (OwnT.pure _ _ _ _)).and ((own_lt hb8).and (HJX.out.le (by omega))))
    ⟨⟨Turn.refl _ _, HV8.out⟩, HJ2.out⟩
    (fun k (Bx : Nat) T => (T.setIfInBounds 24 (stV (O[k]?.getD (0, 0)))).setIfInBounds 9 (.pointer (some ⟨Bx, 0, none⟩))) (fun k Bx Xw => W2.heap.size ≤ Bx ∧ Blk Xw Bx 189 (stC (O[k]?.getD (0, 0)))) (fun _ Bx => (OwnT.pure _ _ _ _).and (OwnT.blk _ (by decide) (fun _ _ h => h.elim)))
    ?assign ?body ?done ?stop)
   case assign =>
    rintro l k xx Xw K ⟨⟨hT, hv8⟩, hj⟩ hx hK; rw [List.getElem?_map] at hx
    obtain ⟨⟨x2, c2⟩, hy⟩ : ∃ y, O[k]? = some y := by
     cases h : O[k]? with
     | none => rw [h] at hx; cases hx
     | some y => exact ⟨y, rfl⟩
    rw [hy] at hx hK; obtain rfl : encS (x2, c2) = xx := Option.some.inj hx; simp only [Option.getD_some] at hK; simp only [List.setIfInBounds_toArray, List.set_cons_succ, List.set_cons_zero] at hK; dsimp only [encS]; simp only [stV, stC] at hK ⊢; have HK := Lib.hid hK; clear hK hx
    gi_wp2
    exact HK.out Xw.heap.size _ ((Turn.refl _ Xw).alloc _) ⟨⟨hT.alloc _, hv8.alloc _⟩, (HJ.out _).alloc _ hj⟩ ⟨hT.size, Blk.new _ _ _⟩
   case body =>
    rintro l k xx Bx Xw hl ⟨r0, hr⟩ ⟨⟨hT, hv8⟩, hj⟩ ⟨hBx, hX⟩ hx; have HW8 := Lib.hid hv8; clear hv8; rw [List.getElem?_map] at hx
    obtain ⟨⟨x2, c2⟩, hy⟩ : ∃ y, O[k]? = some y := by
     cases h : O[k]? with
     | none => rw [h] at hx; cases hx
     | some y => exact ⟨y, rfl⟩
    have HOF := Lib.hid (HOFF.out k _ hy); have HSY := Lib.hid (HOK2.out _ (List.mem_of_getElem? hy)); have HT := Lib.hid hT; have hszX := hT.size; rw [hy] at hX ⊢; simp only [Option.getD_some] at hX ⊢; simp only [List.setIfInBounds_toArray, List.set_cons_succ, List.set_cons_zero]; simp only [stV, stC]
    have HPX : Hid (OnPre S Xw bc bv bd bo g cp fl L by_ day r.fr) := HP2.out.turn hT (fun b _ h => h.elim .inl (fun e => .inr (by
     have q1 := HP.out.hc.lt; have q2 := HP.out.hv.lt; have q3 := HP.out.hd.lt; have q4 := HP.out.ho.lt; have q5 := HP.out.gl
     omega)))
    have c7 : Xw.cell? ⟨X.heap.size + 1, 0, none⟩ = some (.int .i64 n) := (HV7.out.turn hT (fun h => h.elim (fun h => by have := HSB.out _ h; omega) (fun h => hb78 h))).cell 0
    have c8 : Xw.cell? ⟨bo, 0, none⟩ = some (.func (.func 151) #[] #[.pointer (some ⟨bc, 0, none⟩), .pointer (some ⟨bv, 0, none⟩), .pointer (some ⟨bd, 0, none⟩), .pointer (some ⟨bo, 0, none⟩)]) := HPX.out.ho.cell 0; have c9 : Xw.cell? ⟨Bx, 0, none⟩ = some (.int .i64 x2) := hX.cell 0; have c10 : Xw.cell? ⟨Bx, 1, none⟩ = some (.int .u64 c2) := hX.cell 1
    have hcall := HIH.out (n + 1) (by omega) (x2, c2) (k0 + ((O.take k).flatMap (nf r by_ day (n + 1))).length) Xw (by omega) HSY.out HPX.out hj (fun j y hj' => by
     rw [Nat.add_assoc]
     exact HFU.out _ _ (by rw [HNF2.out]; exact flat_at hy hj'))
    rw [show ((n + 1 : Nat) : Int) = (n : Int) + 1 by omega] at hcall
    dsimp only [stV, stC] at hcall; have HC := Lib.hid hcall; clear hcall hx hr hT hj hX hy
    gi_wp2_with fail
    refine ⟨trivial, rfl, (CallsIn.inRound l (callsIn_wide.2 HC.out)).mono ?_⟩; rintro e Y ⟨hT2, hcase⟩
    have HTY : Hid (Turn (fun b => S b ∨ b = B8) Xw Y) := hT2.mono (fun _ => .inl)
    have HY8 : Hid (Blk Y B8 4 #[.bool false]) := HW8.out.turn hT2 (by rw [HB8.out]; exact n8)
    clear hT2 c7 c8 c9 c10 HC; rcases hcase with ⟨rfl, hj⟩ | ⟨rfl, hj⟩
    ·have HJY := Lib.hid hj; clear hj
     gi_wp2
     exact ⟨HTY.out, ⟨HT.out.trans HTY.out, HY8.out⟩, by rw [HOF.out, ← Nat.add_assoc]; exact HJY.out⟩
    ·have HJY := Lib.hid hj; have k8 : Y.cell? ⟨B8, 0, none⟩ = some (.bool false) := HY8.out.cell 0; have f8 : Y.frozen? ⟨B8, 0, none⟩ = false := HY8.out.frozen 0; clear hj
     gi_wp2
     have HTS : Hid (Turn (fun b => S b ∨ b = B8) Xw (Y.setCell ⟨B8, 0, none⟩ (.bool false))) := HTY.out.trans (Turn.set _ _ (fun _ => .inr rfl))
     exact ⟨HTS.out, ⟨HT.out.trans HTS.out, rfl⟩, HY8.out.set_ 0 _, HJX.out.set HJY.out HY8.out (by omega) rfl 0 _⟩
   case done =>
    rintro D Xw hDe ⟨⟨hT, hv8⟩, hj⟩ hD; have HT := Lib.hid hT; have HY8 := Lib.hid hv8; have HJY := Lib.hid hj; have HD := Lib.hid hD; have HDE := Lib.hid hDe; have k8 : Xw.cell? ⟨B8, 0, none⟩ = some (.bool false) := hv8.cell 0; have f8 : Xw.frozen? ⟨B8, 0, none⟩ = false := hv8.frozen 0; clear hT hv8 hj hD hDe; go_wp2; have hDB : B8 ≠ D := by have := HDE.out; omega
    have hD2 : (Xw.setCell ⟨B8, 0, none⟩ (.bool true)).heap[D]? = some (.deferred (some [])) := (Below.heap_setCell Xw ⟨B8, 0, none⟩ _ D (fun e => hDB e.symm)).trans HD.out
    refine ⟨by simp, .inl ⟨_, _, rfl, run_takeDeferred hD2, ?_⟩⟩
    have e0 : ((Xw.setCell ⟨B8, 0, none⟩ (.bool true)).putObj D (.deferred none)).cell? ⟨B8, 0, none⟩ = some (.bool true) := (World.cell?_of_block (a := ⟨B8, 0, none⟩) (World.putObj_heap_other hDB)).trans ((HY8.out.set_ 0 (.bool true)).cell 0); refine ⟨.bool true, by simp [results, Tryz.results151, go_sem, e0], ?_, .inl ⟨rfl, ?_⟩⟩
    ·exact ((HTX2.out.join HT.out (fun b hb h => hb.elim id (fun e => by omega))).join (Turn.set (S := fun b => b = B8) _ _ (fun _ => rfl)) (fun b hb h => by omega)).join (Turn.put (S := fun b => b = D) _ rfl) (fun b hb h => by have := HDE.out; have := HTX2.out.size; omega)
    ·rw [HNF2.out]; have hj2 : J (k0 + (O.flatMap (nf r by_ day (n + 1))).length) Xw := by have h := HJY.out; rw [List.length_map, List.take_length] at h; exact h
     exact (HJ.out _).put _ ((HJ.out _).set hj2 HY8.out (by omega) rfl 0 _) (by have := HDE.out; omega) hD2 rfl
   case stop =>
    rintro D cd Xw hDe ⟨⟨hT, rfl⟩, hv8, hj⟩ hD; have HT := Lib.hid hT; have HY8 := Lib.hid hv8; have HJY := Lib.hid hj; have HD := Lib.hid hD; have HDE := Lib.hid hDe; clear hT hv8 hj hD hDe
    gi_wp2
    have hDB : B8 ≠ D := by have := HDE.out; omega
    refine ⟨by simp, .inl ⟨_, _, rfl, run_takeDeferred HD.out, ?_⟩⟩
    have e0 : (Xw.putObj D (.deferred none)).cell? ⟨B8, 0, none⟩ = some (.bool false) := (World.cell?_of_block (a := ⟨B8, 0, none⟩) (World.putObj_heap_other hDB)).trans (HY8.out.cell 0); refine ⟨.bool false, by simp [results, Tryz.results151, go_sem, e0], ?_, .inr ⟨rfl, ?_⟩⟩
    ·exact (HTX2.out.join HT.out (fun b hb h => hb.elim id (fun e => by omega))).join (Turn.put (S := fun b => b = D) _ rfl) (fun b hb h => by have := HDE.out; have := HTX2.out.size; omega)
    ·exact HJX.out.put _ HJY.out (by have := HDE.out; omega) HD.out rfl
  ·obtain ⟨j, hj⟩ : ∃ j, n = j + 1 := ⟨n - 1, by omega⟩
   obtain ⟨f, hf⟩ : ∃ f, r.fr[j]? = some f := ⟨r.fr[j]'(by have := HFL.out; omega), by simp⟩
   obtain rfl : vn = .iface 218 (.agg (flC j f)) := by
    have h1 := HVN.out; rw [hj, chK_at hf fl (by rw [HFL.out]; exact Nat.le_refl _) (by omega)] at h1
    exact (Option.some.inj h1).symm
   have HJN := Lib.hid hj; have HF := Lib.hid hf; have HFF := Lib.hid (HV.out.fit (List.mem_of_getElem? hf)); have hj3 : j < 3 := by omega
   clear hn0 hj hf
   refine HavG.wp_region_havoc (R := RelB) [(0,false),(1,false),(2,false),(3,false),(4,false),(5,false)] [6] (fun _ _ => False) (by kernel_rfl) (by kernel_rfl) (fun _ _ _ _ h => h.elim) ?_
   (apply HavG.hav_same (by exact ho rfl) (by kernel_rfl); (focus (intro wv hgv _; have hcv := cvB hgv; (try go_simp); try rfl; done)); simp only [Act.put, List.setIfInBounds_toArray, List.set_cons_succ, List.set_cons_zero])
   iterate 5 (apply HavG.hav_same (by exact ho rfl) (by kernel_rfl); (focus (intro wv hgv _; have hcv := cvB hgv; (try go_simp); try rfl; done)); simp only [Act.put, List.setIfInBounds_toArray, List.set_cons_succ, List.set_cons_zero])
   refine HavG.hav_end (fun wz hgz _ => ?_)
   simp only [List.filterMap]; go_wp2_with fail; rw [run_flood]
   case h => rfl
   go_wp2_with fail; refine (floodStates_any _ _ _ _ _ _ (x, c) day wz).mono ?_
   obtain ⟨Wx, hW2⟩ : ∃ Wx, Wx = ((wz.alloc (.cells (flC j f) 218)).alloc (.cells (stC (x, c)) 189)).alloc (.cells #[.int .i64 day] 3) := ⟨_, rfl⟩; have hsz := Below.size hgz; have HBW2 : Hid (Below W0.heap.size W0 Wx) := by rw [hW2]; exact (((Below.trans hgz (Below.refl _ _)).alloc hsz _).alloc (by simp; omega) _).alloc (by simp; omega) _
   have HY1 : Hid (Blk Wx wz.heap.size 218 (flC j f)) := by rw [hW2]; exact ((Blk.new wz 218 _).alloc _).alloc _
   have HY2 : Hid (Blk Wx (wz.heap.size + 1) 189 (stC (x, c))) := by rw [hW2]; exact (Blk.new_ (by simp) 189 _).alloc _
   have HY3 : Hid (Blk Wx (wz.heap.size + 2) 3 #[.int .i64 day]) := by rw [hW2]; exact Blk.new_ (by simp) 3 _
   have hsX : Wx.heap.size = wz.heap.size + 3 := by rw [hW2]; simp
   rintro e W2 ⟨rfl, hW⟩; obtain rfl : Wx = W2 := hW2.trans hW.symm; clear hW; have hseq : SeqL Tryz.prog 180 #[.pointer (some ⟨wz.heap.size, 0, none⟩), .pointer (some ⟨wz.heap.size + 1, 0, none⟩), .pointer (some ⟨wz.heap.size + 2, 0, none⟩)] ((optN r by_ day n (x, c)).map encS) TyB KxN
     (fun S W => (Blk W wz.heap.size 218 (flC j f) ∧ ¬ S wz.heap.size) ∧ (Blk W (wz.heap.size + 1) 189 (stC (x, c)) ∧ ¬ S (wz.heap.size + 1)) ∧ (Blk W (wz.heap.size + 2) 3 #[.int .i64 day] ∧ ¬ S (wz.heap.size + 2))) := by
    rw [HJN.out]; simp only [optN, HF.out]; exact flood_seq j day _ _ _ f (x, c) HFF.out hj3 (by have := HSM.out.1; simp only at this ⊢; omega) (by have := HSM.out.2; simp only at this ⊢; omega)
   have hpre : ∀ B8, B8 = X.heap.size + 1 + 1 → ∀ r : Loop, (fun (S : Nat → Prop) W => (Blk W wz.heap.size 218 (flC j f) ∧ ¬ S wz.heap.size) ∧ (Blk W (wz.heap.size + 1) 189 (stC (x, c)) ∧ ¬ S (wz.heap.size + 1)) ∧ (Blk W (wz.heap.size + 2) 3 #[.int .i64 day] ∧ ¬ S (wz.heap.size + 2))) (fun b => (S b ∨ b = B8) ∨ b = Wx.heap.size + 1) ((Wx.alloc (.deferred (some []))).alloc (.loop r)) := fun B8 hB8 r => by
    have hS0 := HS0.out
    have key : ∀ b, wz.heap.size ≤ b → b < Wx.heap.size → ¬ ((S b ∨ b = B8) ∨ b = Wx.heap.size + 1) := fun b h1 h2 h => by
     rcases h with (h | h) | h
     ·have := HSB.out b h; omega
     ·omega
     ·omega
    exact ⟨⟨(HY1.out.alloc _).alloc _, key _ (by omega) (by omega)⟩, ⟨(HY2.out.alloc _).alloc _, key _ (by omega) (by omega)⟩, ⟨(HY3.out.alloc _).alloc _, key _ (by omega) (by omega)⟩⟩
   obtain ⟨W2, hWW⟩ : ∃ W2, W2 = Wx := ⟨_, rfl⟩; subst hWW; have heg : ∀ args w, (callFunc 180 args).run Tryz.prog w = .ok (.enter 180 args) w := enters_of Tryz.func180 (by kernel_rfl) rfl
   clear hW2 hgz u1 u2 u3 u4 c1 c5 hsX; go_wp2_with fail; obtain ⟨O, hO⟩ : ∃ O, O = optN r by_ day n (x, c) := ⟨_, rfl⟩; rw [← hO] at hseq; have HOK2 : Hid (∀ y, y ∈ O → Sm (n + 1) y) := by rw [hO]; exact HOK.out
   have HNF2 : Hid (nf r by_ day n (x, c) = O.flatMap (nf r by_ day (n + 1))) := by rw [hO]; exact HNF.out
   have HSEQ := Lib.hid hseq; clear hO hseq
   have n8 : ¬ S (X.heap.size + 1 + 1) := fun h => by have := HSB.out _ h; omega
   obtain ⟨B8, hB8⟩ : ∃ B8, B8 = X.heap.size + 1 + 1 := ⟨_, rfl⟩; have HB8 := Lib.hid hB8; have HV8 : Hid (Blk W2 B8 4 #[.bool false]) := by rw [hB8]; exact HX3.out.below HBW2.out HX3.out.lt
   have HV7 : Hid (Blk W2 (X.heap.size + 1) 3 #[.int .i64 n]) := HX2.out.below HBW2.out HX2.out.lt; have HTX2 : Hid (Turn S X W2) := (Turn.of_below HB0.out).trans (Turn.of_below HBW2.out)
   have HP2 : Hid (OnPre S W2 bc bv bd bo g cp fl L by_ day r.fr) := HP.out.turn HTX2.out (fun b _ h => .inl h)
   have hs2 : W0.heap.size ≤ W2.heap.size := HBW2.out.size; have HJ2 : Hid (J k0 W2) := (HJ.out k0).below ((HJ.out k0).below HJ0.out HB0.out) HBW2.out; rw [← hB8]; have HPRE := Lib.hid (hpre B8 hB8); have hb8 : B8 < W2.heap.size := HV8.out.lt; have hb8' : X.heap.size ≤ B8 := by omega
   have hb7 : X.heap.size + 1 < W2.heap.size := HV7.out.lt; have hb78 : X.heap.size + 1 ≠ B8 := by omega
   have HEG := Lib.hid heg; clear hB8 hpre heg
   have HOFF : Hid (∀ k y, O[k]? = some y → ((O.take (k + 1)).flatMap (nf r by_ day (n + 1))).length = ((O.take k).flatMap (nf r by_ day (n + 1))).length + (nf r by_ day (n + 1) y).length) := fun k y h => flat_next h
   refine wpIn_wide.1 (wpIn_rangeL_slots (n := 6) rfl HEG.out HSEQ.out keepsRec_none (fun x hx => by obtain ⟨y, _, rfl⟩ := List.mem_map.1 hx; rfl) (fun b => S b ∨ b = B8) (fun b h => h.elim (fun h => by have := HSB.out b h; omega) (fun h => by omega)) HPRE.out
    (fun k Xw => (Turn (fun b => S b ∨ b = B8) W2 Xw ∧ Blk Xw B8 4 #[.bool false]) ∧ J (k0 + ((O.take k).flatMap (nf r by_ day (n + 1))).length) Xw) (fun cd Xw => (Turn (fun b => S b ∨ b = B8) W2 Xw ∧ cd = .ret) ∧ Blk Xw B8 4 #[.bool false] ∧ Jx Xw)
    (fun k => ((OwnT.turn TyB (Nat.le_refl _) (fun _ _ _ h => h.elim)).and (own_lt hb8)).and ((HJ.out _).le (by omega))) (fun cd => ((OwnT.turn TyB (Nat.le_refl _) (fun _ _ _ h => h.elim)).and (OwnT.pure _ _ _ _)).and ((own_lt hb8).and (HJX.out.le (by omega))))
    ⟨⟨Turn.refl _ _, HV8.out⟩, HJ2.out⟩
    (fun k (Bx : Nat) T => (T.setIfInBounds 24 (stV (O[k]?.getD (0, 0)))).setIfInBounds 9 (.pointer (some ⟨Bx, 0, none⟩))) (fun k Bx Xw => W2.heap.size ≤ Bx ∧ Blk Xw Bx 189 (stC (O[k]?.getD (0, 0)))) (fun _ Bx => (OwnT.pure _ _ _ _).and (OwnT.blk _ (by decide) (fun _ _ h => h.elim)))
    ?assign ?body ?done ?stop)
   case assign =>
    rintro l k xx Xw K ⟨⟨hT, hv8⟩, hj⟩ hx hK; rw [List.getElem?_map] at hx
    obtain ⟨⟨x2, c2⟩, hy⟩ : ∃ y, O[k]? = some y := by
     cases h : O[k]? with
     | none => rw [h] at hx; cases hx
     | some y => exact ⟨y, rfl⟩
    rw [hy] at hx hK; obtain rfl : encS (x2, c2) = xx := Option.some.inj hx; simp only [Option.getD_some] at hK; simp only [List.setIfInBounds_toArray, List.set_cons_succ, List.set_cons_zero] at hK; dsimp only [encS]; simp only [stV, stC] at hK ⊢; have HK := Lib.hid hK; clear hK hx
    gi_wp2
    exact HK.out Xw.heap.size _ ((Turn.refl _ Xw).alloc _) ⟨⟨hT.alloc _, hv8.alloc _⟩, (HJ.out _).alloc _ hj⟩ ⟨hT.size, Blk.new _ _ _⟩
   case body =>
    rintro l k xx Bx Xw hl ⟨r0, hr⟩ ⟨⟨hT, hv8⟩, hj⟩ ⟨hBx, hX⟩ hx; have HW8 := Lib.hid hv8; clear hv8; rw [List.getElem?_map] at hx
    obtain ⟨⟨x2, c2⟩, hy⟩ : ∃ y, O[k]? = some y := by
     cases h : O[k]? with
     | none => rw [h] at hx; cases hx
     | some y => exact ⟨y, rfl⟩
    have HOF := Lib.hid (HOFF.out k _ hy); have HSY := Lib.hid (HOK2.out _ (List.mem_of_getElem? hy)); have HT := Lib.hid hT; have hszX := hT.size; rw [hy] at hX ⊢; simp only [Option.getD_some] at hX ⊢; simp only [List.setIfInBounds_toArray, List.set_cons_succ, List.set_cons_zero]; simp only [stV, stC]
    have HPX : Hid (OnPre S Xw bc bv bd bo g cp fl L by_ day r.fr) := HP2.out.turn hT (fun b _ h => h.elim .inl (fun e => .inr (by
     have q1 := HP.out.hc.lt; have q2 := HP.out.hv.lt; have q3 := HP.out.hd.lt; have q4 := HP.out.ho.lt; have q5 := HP.out.gl
     omega)))
    have c7 : Xw.cell? ⟨X.heap.size + 1, 0, none⟩ = some (.int .i64 n) := (HV7.out.turn hT (fun h => h.elim (fun h => by have := HSB.out _ h; omega) (fun h => hb78 h))).cell 0
    have c8 : Xw.cell? ⟨bo, 0, none⟩ = some (.func (.func 151) #[] #[.pointer (some ⟨bc, 0, none⟩), .pointer (some ⟨bv, 0, none⟩), .pointer (some ⟨bd, 0, none⟩), .pointer (some ⟨bo, 0, none⟩)]) := HPX.out.ho.cell 0; have c9 : Xw.cell? ⟨Bx, 0, none⟩ = some (.int .i64 x2) := hX.cell 0; have c10 : Xw.cell? ⟨Bx, 1, none⟩ = some (.int .u64 c2) := hX.cell 1
    have hcall := HIH.out (n + 1) (by omega) (x2, c2) (k0 + ((O.take k).flatMap (nf r by_ day (n + 1))).length) Xw (by omega) HSY.out HPX.out hj (fun j y hj' => by
     rw [Nat.add_assoc]
     exact HFU.out _ _ (by rw [HNF2.out]; exact flat_at hy hj'))
    rw [show ((n + 1 : Nat) : Int) = (n : Int) + 1 by omega] at hcall
    dsimp only [stV, stC] at hcall; have HC := Lib.hid hcall; clear hcall hx hr hT hj hX hy
    gi_wp2_with fail
    refine ⟨trivial, rfl, (CallsIn.inRound l (callsIn_wide.2 HC.out)).mono ?_⟩; rintro e Y ⟨hT2, hcase⟩
    have HTY : Hid (Turn (fun b => S b ∨ b = B8) Xw Y) := hT2.mono (fun _ => .inl)
    have HY8 : Hid (Blk Y B8 4 #[.bool false]) := HW8.out.turn hT2 (by rw [HB8.out]; exact n8)
    clear hT2 c7 c8 c9 c10 HC; rcases hcase with ⟨rfl, hj⟩ | ⟨rfl, hj⟩
    ·have HJY := Lib.hid hj; clear hj
     gi_wp2
     exact ⟨HTY.out, ⟨HT.out.trans HTY.out, HY8.out⟩, by rw [HOF.out, ← Nat.add_assoc]; exact HJY.out⟩
    ·have HJY := Lib.hid hj; have k8 : Y.cell? ⟨B8, 0, none⟩ = some (.bool false) := HY8.out.cell 0; have f8 : Y.frozen? ⟨B8, 0, none⟩ = false := HY8.out.frozen 0; clear hj
     gi_wp2
     have HTS : Hid (Turn (fun b => S b ∨ b = B8) Xw (Y.setCell ⟨B8, 0, none⟩ (.bool false))) := HTY.out.trans (Turn.set _ _ (fun _ => .inr rfl))
     exact ⟨HTS.out, ⟨HT.out.trans HTS.out, rfl⟩, HY8.out.set_ 0 _, HJX.out.set HJY.out HY8.out (by omega) rfl 0 _⟩
   case done =>
    rintro D Xw hDe ⟨⟨hT, hv8⟩, hj⟩ hD; have HT := Lib.hid hT; have HY8 := Lib.hid hv8; have HJY := Lib.hid hj; have HD := Lib.hid hD; have HDE := Lib.hid hDe; have k8 : Xw.cell? ⟨B8, 0, none⟩ = some (.bool false) := hv8.cell 0; have f8 : Xw.frozen? ⟨B8, 0, none⟩ = false := hv8.frozen 0; clear hT hv8 hj hD hDe; go_wp2; have hDB : B8 ≠ D := by have := HDE.out; omega
    have hD2 : (Xw.setCell ⟨B8, 0, none⟩ (.bool true)).heap[D]? = some (.deferred (some [])) := (Below.heap_setCell Xw ⟨B8, 0, none⟩ _ D (fun e => hDB e.symm)).trans HD.out
    refine ⟨by simp, .inl ⟨_, _, rfl, run_takeDeferred hD2, ?_⟩⟩
    have e0 : ((Xw.setCell ⟨B8, 0, none⟩ (.bool true)).putObj D (.deferred none)).cell? ⟨B8, 0, none⟩ = some (.bool true) := (World.cell?_of_block (a := ⟨B8, 0, none⟩) (World.putObj_heap_other hDB)).trans ((HY8.out.set_ 0 (.bool true)).cell 0); refine ⟨.bool true, by simp [results, Tryz.results151, go_sem, e0], ?_, .inl ⟨rfl, ?_⟩⟩
    ·exact ((HTX2.out.join HT.out (fun b hb h => hb.elim id (fun e => by omega))).join (Turn.set (S := fun b => b = B8) _ _ (fun _ => rfl)) (fun b hb h => by omega)).join (Turn.put (S := fun b => b = D) _ rfl) (fun b hb h => by have := HDE.out; have := HTX2.out.size; omega)
    ·rw [HNF2.out]; have hj2 : J (k0 + (O.flatMap (nf r by_ day (n + 1))).length) Xw := by have h := HJY.out; rw [List.length_map, List.take_length] at h; exact h
     exact (HJ.out _).put _ ((HJ.out _).set hj2 HY8.out (by omega) rfl 0 _) (by have := HDE.out; omega) hD2 rfl
   case stop =>
    rintro D cd Xw hDe ⟨⟨hT, rfl⟩, hv8, hj⟩ hD; have HT := Lib.hid hT; have HY8 := Lib.hid hv8; have HJY := Lib.hid hj; have HD := Lib.hid hD; have HDE := Lib.hid hDe; clear hT hv8 hj hD hDe
    gi_wp2
    have hDB : B8 ≠ D := by have := HDE.out; omega
    refine ⟨by simp, .inl ⟨_, _, rfl, run_takeDeferred HD.out, ?_⟩⟩
    have e0 : (Xw.putObj D (.deferred none)).cell? ⟨B8, 0, none⟩ = some (.bool false) := (World.cell?_of_block (a := ⟨B8, 0, none⟩) (World.putObj_heap_other hDB)).trans (HY8.out.cell 0); refine ⟨.bool false, by simp [results, Tryz.results151, go_sem, e0], ?_, .inr ⟨rfl, ?_⟩⟩
    ·exact (HTX2.out.join HT.out (fun b hb h => hb.elim id (fun e => by omega))).join (Turn.put (S := fun b => b = D) _ rfl) (fun b hb h => by have := HDE.out; have := HTX2.out.size; omega)
    ·exact HJX.out.put _ HJY.out (by have := HDE.out; omega) HD.out rfl
end
end Go.Proofs.YtgmfhngcehkibaaGreat
namespace Go.Proofs.YtgmfhngcehkibaaGreat
open Go.RowKit Go.Hav Go.Shelf Go.Sq
attribute [local go_sem] Oper.semAt_some
section
variable {fl : Nat} {r : Riv}
theorem next_seq (hv : r.Good) (hfl : r.fr.length = fl) {by_ day : Nat} (hby : by_ < 1000) (s : St) (hs : Sm 0 s) (bc bd bs g cp : Nat) :
  SeqL Tryz.prog 150 #[.pointer (some ⟨bc, 0, none⟩), .pointer (some ⟨bd, 0, none⟩), .pointer (some ⟨bs, 0, none⟩)] ((next r by_ day s).map encS) TyB KxN
   (fun S W => (Blk W bc 208 #[.slice (some ⟨g, 0, none⟩) (fl + 1) cp] ∧ ¬ S bc) ∧ (Blk W bd 3 #[.int .i64 day] ∧ ¬ S bd) ∧ Blk W bs 189 (stC s) ∧ RdV W g (chK by_ r.fr fl) ∧ g < W.heap.size ∧ ¬ S g) := by
 rintro S L J Jx W ⟨⟨hbc, nc⟩, ⟨hbd, nd⟩, hbs, hg, hgl, ng⟩ hSL hSW hJ hJx hY h0; have hmf := hmf0
 have key : ∀ W1, Below W.heap.size W W1 → Blk W1 W.heap.size 210 #[.func (.yield L) #[] #[]] →
   Blk W1 (W.heap.size + 1) 211 #[.func (.func 151) #[] #[.pointer (some ⟨bc, 0, none⟩), .pointer (some ⟨W.heap.size, 0, none⟩), .pointer (some ⟨bd, 0, none⟩), .pointer (some ⟨W.heap.size + 1, 0, none⟩)]] →
   Calls Tryz.prog 151 #[stV s, .int .i64 0, .pointer (some ⟨bc, 0, none⟩), .pointer (some ⟨W.heap.size, 0, none⟩), .pointer (some ⟨bd, 0, none⟩), .pointer (some ⟨W.heap.size + 1, 0, none⟩)] W1 fun e X' =>
    (e = .returned (.bool true) ∧ J ((next r by_ day s).map encS).length X') ∨ (e = .returned (.bool false) ∧ Jx X') := fun W1 hb1 h1 h2 => by
  have hn1 : ¬ S W.heap.size := fun h => by have := hSW _ h; omega
  have hn2 : ¬ S (W.heap.size + 1) := fun h => by have := hSW _ h; omega
  refine (on_any hv hfl hby hSW hJ hJx (next r by_ day s) hY bc W.heap.size bd (W.heap.size + 1) g cp (fl + 1) 0 (by omega) s 0 W1 hb1.size hs
   { hc := hbc.below hb1 hbc.lt, hv := h1, hd := hbd.below hb1 hbd.lt, ho := h2, hg := hg.turn (S := fun _ => False) (Turn.of_below hb1) hgl id, gl := Nat.lt_of_lt_of_le hgl hb1.size, sc := nc, sv := hn1, sd := nd, so := hn2, sg := ng }
   ((hJ 0).below h0 hb1) (fun j y h => by rw [Nat.zero_add]; exact h)).mono ?_
  rintro e X' ⟨_, h | h⟩
  ·exact .inl ⟨h.1, by have := h.2; rw [Nat.zero_add] at this; rw [List.length_map]; exact this⟩
  ·exact .inr h
 have HK := Lib.hid key; obtain ⟨x, c⟩ := s; have q1 : W.cell? ⟨bs, 0, none⟩ = some (.int .i64 x) := hbs.cell 0; have q2 : W.cell? ⟨bs, 1, none⟩ = some (.int .u64 c) := hbs.cell 1; have l1 := hbs.lt; clear key hY hJ hJx h0 hbc hbd hbs hg hgl; dsimp only [stV, stC] at HK; have hb1 : Blk ((W.alloc (.cells #[.func (.yield L) #[] #[]] 210)).alloc (.cells #[(.func (.func 151) #[] #[.pointer (some ⟨bc, 0, none⟩), .pointer (some ⟨W.heap.size, 0, none⟩), .pointer (some ⟨bd, 0, none⟩), .pointer (some ⟨W.heap.size + 1, 0, none⟩)])] 211)) (W.heap.size + 1) 211 #[(.func (.func 151) #[] #[.pointer (some ⟨bc, 0, none⟩), .pointer (some ⟨W.heap.size, 0, none⟩), .pointer (some ⟨bd, 0, none⟩), .pointer (some ⟨W.heap.size + 1, 0, none⟩)])] := Blk.new_ (by simp) 211 _
 have hb0 : Blk ((W.alloc (.cells #[.func (.yield L) #[] #[]] 210)).alloc (.cells #[(.func (.func 151) #[] #[.pointer (some ⟨bc, 0, none⟩), .pointer (some ⟨W.heap.size, 0, none⟩), .pointer (some ⟨bd, 0, none⟩), .pointer (some ⟨W.heap.size + 1, 0, none⟩)])] 211)) W.heap.size 210 #[.func (.yield L) #[] #[]] := (Blk.new W 210 _).alloc _; have hbb : Below W.heap.size W ((W.alloc (.cells #[.func (.yield L) #[] #[]] 210)).alloc (.cells #[(.func (.func 151) #[] #[.pointer (some ⟨bc, 0, none⟩), .pointer (some ⟨W.heap.size, 0, none⟩), .pointer (some ⟨bd, 0, none⟩), .pointer (some ⟨W.heap.size + 1, 0, none⟩)])] 211)) := ((Below.refl _ _).alloc (Nat.le_refl _) _).alloc (by simp) _
 have v2 : ((W.alloc (.cells #[.func (.yield L) #[] #[]] 210)).alloc (.cells #[(.func (.func 151) #[] #[.pointer (some ⟨bc, 0, none⟩), .pointer (some ⟨W.heap.size, 0, none⟩), .pointer (some ⟨bd, 0, none⟩), .pointer (some ⟨W.heap.size + 1, 0, none⟩)])] 211)).cell? ⟨bs, 0, none⟩ = some (.int .i64 x) := (hbb.cell (p := ⟨bs, 0, none⟩) l1).trans q1; have v3 : ((W.alloc (.cells #[.func (.yield L) #[] #[]] 210)).alloc (.cells #[(.func (.func 151) #[] #[.pointer (some ⟨bc, 0, none⟩), .pointer (some ⟨W.heap.size, 0, none⟩), .pointer (some ⟨bd, 0, none⟩), .pointer (some ⟨W.heap.size + 1, 0, none⟩)])] 211)).cell? ⟨bs, 1, none⟩ = some (.int .u64 c) := (hbb.cell (p := ⟨bs, 1, none⟩) l1).trans q2; have HB1 := Lib.hid hb1; have HB0 := Lib.hid hb0; have HBB := Lib.hid hbb; clear hb1 hb0 hbb q1 q2; refine (callsIn_wide (n := 6)).1 (callsIn_of_wp_marks Tryz.func150 rfl trivial ?_ rfl); simp only [Tryz.ntmps150, List.size_toArray, List.length_cons, List.length_nil, Nat.reduceAdd, Nat.reduceSub, Array.replicate_succ, Array.replicate_zero, List.push_toArray, List.append_toArray, List.nil_append, List.cons_append]; refine wpIn_wide.2 ?_; go_wp2_with fail; refine (HK.out _ ?_ ?_ ?_).mono ?_
 ·exact HBB.out
 ·exact HB0.out
 ·exact HB1.out
 ·rintro e X' (⟨rfl, h⟩ | ⟨rfl, h⟩)
  ·have HH := Lib.hid h; clear h; go_wp2; exact ⟨_, results_none rfl _ _ _, ⟨_, rfl⟩, .inl HH.out⟩
  ·have HH := Lib.hid h; clear h; go_wp2; exact ⟨_, results_none rfl _ _ _, ⟨_, rfl⟩, .inr HH.out⟩
end
end Go.Proofs.YtgmfhngcehkibaaGreat
namespace Go.Proofs.YtgmfhngcehkibaaGreat
open Go.RowKit Go.Hav Go.Shelf Go.Sq
section
variable {B d k : Nat} {fa la : Option Addr} {fl fc ll lc : Nat} {r : Riv}
theorem fits_any (hv : r.Good) (s : St) (day looks : Nat) (hl : looks < 1024) (w : World) (hD : GauIn w B d k fa fl fc la ll lc r) :
  Calls Tryz.prog 144 #[(.pointer (some ⟨d, 0, none⟩)), stV s, .int .i64 day, .int .u64 looks] w fun e w' => e = .returned (.bool (fits r looks day s.1)) ∧ Below w.heap.size w w' := by
 obtain ⟨x, c⟩ := s; have HD := Lib.hid hD; have HE := Lib.hid hD.ell; have hll : ll ≤ 5 := by have := hv.ll; rw [hD.ell] at this; exact this
 have p6 : w.cell? ⟨d, 6, none⟩ = some (.slice la ll lc) := hD.blk.cell 6; have hdw : d < w.heap.size := hD.blk.lt; clear hv hD; unfold stV stC
 go_enter Tryz.func144, Tryz.ntmps144
 go_wp2
 go_loopw [17] (fun i wr => ∃ n : Nat, n ≤ ll ∧ i = .int .i64 n ∧ Hid (fitsN r.lk looks day x n = true) ∧ Blk wr w.heap.size 189 #[.int .i64 x, .int .u64 c] ∧ Hid (Below w.heap.size w wr)) (fun i _ => ll - (intOf i).toNat)
 case atStart => exact ⟨0, Nat.zero_le _, rfl, rfl, Blk.new_ (by simp) _ _, (Below.refl w.heap.size w).alloc (by simp) _⟩
 case round =>
  obtain ⟨n, hn, rfl, HN, hbk, HB⟩ := hrel; have HK := Lib.hid hbk; have hlt0 := hbk.lt; have r0 : wr.cell? ⟨w.heap.size, 0, none⟩ = some (.int .i64 x) := hbk.cell 0; clear hbk
  by_cases hlt : n < ll
  ·obtain ⟨l, hlk⟩ : ∃ l, r.lk[n]? = some l := ⟨r.lk[n]'(by have := HE.out; omega), by simp⟩
   have HL : Hid (lookOk r.lk looks day x n = !(looks.testBit n && (l.day == day && !inB x l.dep.lo l.dep.hi))) := by show _ = _; unfold lookOk; rw [hlk]
   have HST : Hid (fitsN r.lk looks day x (n + 1) = lookOk r.lk looks day x n) := by show _ = _; rw [fitsN, HN.out, Bool.true_and]
   have HFA : Hid (lookOk r.lk looks day x n = false → fits r looks day x = false) := fun h => fitsN_false (by rw [HE.out]; exact hlt) h
   obtain ⟨b, off, rfl, hbl, H0, H1, H2⟩ := rd_lk ((HD.out.grow HB.out).hlk) n l hlk; have hbw : b < wr.heap.size := Nat.lt_of_lt_of_le hbl (HD.out.grow HB.out).hB; have htb := tb_u64 looks n (by omega)
   obtain ⟨ld, ⟨l0, l1⟩⟩ := l; simp only at H0 H1 H2 HL; clear hlk
   cases hbit : looks.testBit n
   ·rw [hbit] at htb HL; clear hbit; go_wp2; go_roundw
    case rel => exact ⟨n + 1, by omega, by go_num, by show _ = _; rw [HST.out, HL.out]; rfl, HK.out.alloc _, HB.out.alloc HB.out.size _⟩
    case measure => simp [intOf]; omega
   ·rw [hbit] at htb HL; clear hbit
    by_cases hd : ld = day
    ·subst hd; go_wp2_with fail; refine (within_any _ _ _ _).mono ?_; rintro e w' ⟨rfl, rfl⟩
     cases hw : inB x l0 l1
     ·rw [hw] at HL; have HR : Hid (fits r looks ld x = false) := HFA.out (by rw [HL.out]; simp)
      go_wp2; refine bodyPost_ret (results_tmp rfl _ _ _) rfl ⟨by rw [HR.out]; rfl, ?_⟩
      exact HB.out.alloc HB.out.size _
     ·rw [hw] at HL; go_wp2; go_roundw
      case rel => exact ⟨n + 1, by omega, by go_num, by show _ = _; rw [HST.out, HL.out]; simp, HK.out.alloc _, HB.out.alloc HB.out.size _⟩
      case measure => simp [intOf]; omega
    ·have hne : ¬ (ld : Int) = day := by omega
     have HL2 : Hid (lookOk r.lk looks day x n = true) := by show _ = _; rw [HL.out, show (ld == day) = false from by simpa using hd]; rfl
     clear hd; go_wp2; go_roundw
     case rel => exact ⟨n + 1, by omega, by go_num, by show _ = _; rw [HST.out, HL2.out], HK.out.alloc _, HB.out.alloc HB.out.size _⟩
     case measure => simp [intOf]; omega
  ·obtain rfl : n = ll := by omega
   go_wp2; refine bodyPost_ret (results_tmp rfl _ _ _) rfl ⟨?_, HB.out⟩
   have : fits r looks day x = true := by unfold fits; rw [HE.out]; exact HN.out
   rw [this]
   rfl
end
end Go.Proofs.YtgmfhngcehkibaaGreat
