/- A river with a look more. Condition: what the statements say. -/
import Derived.Test.YtgmfhngcehkibaaGreatPkQ22
set_option maxRecDepth 100000
set_option maxHeartbeats 6400000
namespace Go.Proofs.YtgmfhngcehkibaaGreat
section
theorem lk_ok {r : IRiv} (hv : okR r = true) : LkOk r.nat := fun l hl => by
 obtain ⟨g, hg, rfl⟩ := List.mem_map.1 hl; obtain ⟨⟨h1, h2, h3, h4, h5⟩, h6, h7⟩ := okR_pts hv; have := List.all_eq_true.1 h7 g hg; unfold lkB at this; rw [Bool.and_eq_true] at this; have := inB_iff.1 this.1; show g.day.toNat <= r.days.toNat
 omega
theorem mem_truthsA {r : IRiv} (hv : okR r = true) {t : Tr} : t ∈ truthsA r.nat ↔ t.ds.length = r.nat.fr.length ∧ t.rs.length = r.nat.fr.length ∧ r.nat.fall.lo <= t.by_ ∧ t.by_ <= r.nat.fall.hi ∧ TruthF r.nat t.by_ (full r.nat.lk.length) t.d t.dsF t.rsF := mem_truthsP (lk_ok hv)
def withR (r : IRiv) (l : ILk) : IRiv := { r with lk := r.lk ++ [l] }
section
variable {r : IRiv} (hv : okR r = true)
include hv
theorem with_ok {l : ILk} (h5 : r.lk.length < 5) (hl : lkB r.days l = true) : okR (withR r l) = true := by
 obtain ⟨⟨a1, a2, a3, a4, a5⟩, a6, a7⟩ := okR_pts hv
 refine okR_mk a1 a2 a3 a4 (by show (r.lk ++ [l]).length <= 5; rw [List.length_append]; show r.lk.length + 1 <= 5; omega) (fun f hf => List.all_eq_true.1 a6 f hf) (fun g hg => ?_)
 rcases List.mem_append.1 hg with h | h
 ·exact List.all_eq_true.1 a7 g h
 ·obtain rfl : g = l := by simpa using h
  exact hl
theorem with_mem {l : ILk} (h5 : r.lk.length < 5) (hl : lkB r.days l = true) {t : Tr} : t ∈ truthsA (withR r l).nat ↔ t ∈ truthsA r.nat ∧ l.dep.lo.toNat <= t.at_ l.day.toNat ∧ t.at_ l.day.toNat <= l.dep.hi.toNat := by
 rw [mem_truthsA (with_ok hv h5 hl), mem_truthsA hv]
 have hday : l.day.toNat <= r.nat.days := by
  unfold lkB at hl; rw [Bool.and_eq_true] at hl; have := inB_iff.1 hl.1; show l.day.toNat <= r.days.toNat
  omega
 have hlk : (withR r l).nat.lk = r.nat.lk ++ [l.nat] := by show (r.lk ++ [l]).map _ = _; rw [List.map_append]; rfl
 have hfull : ∀ (m i : Nat), i < m -> (full m).testBit i = true := fun m i h => by
  unfold full; rw [Nat.testBit_two_pow_sub_one]; exact decide_eq_true h
 constructor
 ·rintro ⟨c1, c2, c3, c4, c5⟩
  refine ⟨⟨c1, c2, c3, c4, ⟨c5.lo, c5.hi, c5.sp, fun day hd => fits_iff.2 fun k g hg hb he => ?_⟩⟩, ?_⟩
  ·have hk := (List.getElem?_eq_some_iff.1 hg).1; exact fits_iff.1 (c5.ok day hd) k g (by rw [hlk, List.getElem?_append_left hk]; exact hg) (hfull _ _ (by rw [hlk, List.length_append]; show k < _ + 1; omega)) he
  ·have h := fits_iff.1 (c5.ok l.day.toNat hday) r.nat.lk.length l.nat (by rw [hlk, List.getElem?_append_right (Nat.le_refl _), Nat.sub_self]; rfl) (hfull _ _ (by rw [hlk, List.length_append]; show _ < _ + 1; omega)) rfl
   unfold Tr.at_; rw [c1]; exact h
 ·rintro ⟨⟨c1, c2, c3, c4, c5⟩, h⟩
  refine ⟨c1, c2, c3, c4, ⟨c5.lo, c5.hi, c5.sp, fun day hd => fits_iff.2 fun k g hg hb he => ?_⟩⟩
  rw [hlk] at hg
  by_cases e : k < r.nat.lk.length
  ·rw [List.getElem?_append_left e] at hg; exact fits_iff.1 (c5.ok day hd) k g hg (hfull _ _ e) he
  ·have hk := (List.getElem?_eq_some_iff.1 hg).1; rw [List.length_append] at hk; have e2 : k = r.nat.lk.length := by have h1 : [l.nat].length = 1 := rfl; omega
   subst e2; rw [List.getElem?_append_right (Nat.le_refl _), Nat.sub_self] at hg; obtain rfl : l.nat = g := by simpa using hg
   have he' : l.day.toNat = day := he; subst he'; unfold Tr.at_ at h; rw [c1] at h; exact h
end
structure SubT (Q R : Riv) : Prop where
 mem : ∀ t ∈ truthsA Q, t ∈ truthsA R
 days : Q.days = R.days
section
variable {Q R : Riv} (h : SubT Q R) (hq : truthsA Q ≠ [])
include h hq
theorem SubT.ne : truthsA R ≠ [] := by
 obtain ⟨t, ht⟩ := List.exists_mem_of_ne_nil _ hq; exact List.ne_nil_of_mem (h.mem t ht)
theorem SubT.hull (f : Tr -> Nat) : (hullP ((truthsA R).map f)).1 <= (hullP ((truthsA Q).map f)).1 ∧ (hullP ((truthsA Q).map f)).2 <= (hullP ((truthsA R).map f)).2 := by
 have a := hullP_is (l := (truthsA Q).map f) (fun e => hq (List.map_eq_nil_iff.1 e))
 have b := hullP_is (l := (truthsA R).map f) (fun e => h.ne hq (List.map_eq_nil_iff.1 e))
 have s : ∀ x ∈ (truthsA Q).map f, x ∈ (truthsA R).map f := fun x hx => by
  obtain ⟨t, ht, rfl⟩ := List.mem_map.1 hx; exact List.mem_map_of_mem (h.mem t ht)
 exact ⟨b.le _ (s _ a.lo), b.ge _ (s _ a.hi)⟩
theorem SubT.depth (d : Nat) : (depthP R d).1 <= (depthP Q d).1 ∧ (depthP Q d).2 <= (depthP R d).2 := h.hull hq (·.at_ d)
theorem SubT.sure (m j : Nat) (ha : (surelyP R m).testBit j = true) : (surelyP Q m).testBit j = true := by
 rw [surely_lo, tb_setN, Bool.and_eq_true, decide_eq_true_iff] at ha; rw [surely_lo, tb_setN, Bool.and_eq_true, decide_eq_true_iff, h.days]; refine ⟨ha.1, ?_⟩; have h1 := ha.2; unfold loB at h1 ⊢; exact decide_eq_true (Nat.le_trans (of_decide_eq_true h1) (h.depth hq j).1)
theorem SubT.timely (n : Nat) {w : IWag} (hw : wagB w = true) (h2 : timelyW R n w = 2) : timelyW Q n w = 2 :=
 (timely_bits hw).1.2 (allS_mono (fun d hd => h.sure hq n d hd) _ ((timely_bits hw).1.1 h2))
end
section
variable {r : IRiv} (hv : okR r = true)
include hv
theorem with_sub {l : ILk} (hx : okR (withR r l) = true) : SubT (withR r l).nat r.nat := by
 obtain ⟨⟨-, -, -, -, h5⟩, -, h7⟩ := okR_pts hx; have hl : lkB r.days l = true := List.all_eq_true.1 h7 l (by show l ∈ r.lk ++ [l]; simp)
 have h5' : r.lk.length < 5 := by
  have h : (r.lk ++ [l]).length <= 5 := h5; rw [List.length_append] at h; have : [l].length = 1 := rfl
  omega
 exact ⟨fun t ht => ((with_mem hv h5' hl).1 ht).1, rfl⟩
end
section
variable {tm tm' : IWag -> Nat} {ws ws' : List IWag} {of_ : ILot -> IWag -> Int}
theorem onP_le {ls ls' : List ILot} {R R' : Rm} (h : ∀ q, rightL tm ws ls q R -> ∃ q', rightL tm' ws' ls' q' R' ∧ valL ws of_ ls q <= valL ws' of_ ls' q') : (onP tm ws of_ ls R).1 <= (onP tm' ws' of_ ls' R').1 := by
 obtain ⟨q', h1, h2⟩ := h _ (plan_right tm ws of_ ls R); rw [plan_val] at h2; exact Int.le_trans h2 (plan_best tm' ws' of_ ls' R' q' h1).1
structure NoLess (tm tm' : IWag -> Nat) (of_ : ILot -> IWag -> Int) (g g' : IWag) : Prop where
 lv : g'.leaves = g.leaves
 tm : tm g = 2 -> tm' g' = 2
 of_ : ∀ l, of_ l g <= of_ l g'
theorem right_more (hw : ∀ (i : Nat) (g : IWag), ws[i]? = some g -> ∃ g', ws'[i]? = some g' ∧ NoLess tm tm' of_ g g') : ∀ {ls : List ILot} {q : List Int} {R R' : Rm}, (∀ i, i < ws.length -> R i <= R' i) -> rightL tm ws ls q R -> rightL tm' ws' ls q R' ∧ valL ws of_ ls q <= valL ws' of_ ls q
 | [], q, R, R', _, h => by
  unfold rightL at h ⊢; subst h; exact ⟨rfl, Int.le_refl _⟩
 | l :: ls, q, R, R', hr, h => by
  obtain ⟨p, r, rfl, ⟨rfl, h⟩ | ⟨i, rfl, hf, h⟩⟩ := h
  ·obtain ⟨h1, h2⟩ := right_more hw hr h; refine ⟨⟨-1, r, rfl, .inl ⟨rfl, h1⟩⟩, ?_⟩; rw [valL_no, valL_no]
   omega
  ·obtain ⟨g, hg, f1, f2, f3⟩ := fitsW_iff.1 hf; obtain ⟨g', hg', e1, e2, e3⟩ := hw i g hg; have hi : i < ws.length := (List.getElem?_eq_some_iff.1 hg).1
   obtain ⟨h1, h2⟩ := right_more hw (R := takeR R i l.bales) (R' := takeR R' i l.bales) (fun j hj => by have := hr j hj; unfold takeR; split <;> omega) h
   refine ⟨⟨i, r, rfl, .inr ⟨i, rfl, fitsW_iff.2 ⟨g', hg', by omega, by have := hr i hi; omega, e2 f3⟩, h1⟩⟩, ?_⟩
   rw [valL_on _ _ l ls hg, valL_on _ _ l ls hg']; have := e3 l
   omega
theorem right_snoc (l : ILot) : ∀ {ls : List ILot} {q : List Int} {R : Rm}, rightL tm ws ls q R -> rightL tm ws (ls ++ [l]) (q ++ [-1]) R ∧ valL ws of_ (ls ++ [l]) (q ++ [-1]) = valL ws of_ ls q
 | [], q, R, h => by
  unfold rightL at h; subst h; exact ⟨⟨-1, [], rfl, .inl ⟨rfl, rfl⟩⟩, by simp [valL]⟩
 | m :: ls, q, R, h => by
  obtain ⟨p, r, rfl, ⟨rfl, h⟩ | ⟨i, rfl, hf, h⟩⟩ := h
  ·obtain ⟨h1, h2⟩ := right_snoc l h; refine ⟨⟨-1, r ++ [-1], rfl, .inl ⟨rfl, h1⟩⟩, ?_⟩; rw [List.cons_append, List.cons_append, valL_no, valL_no, h2]
  ·obtain ⟨h1, h2⟩ := right_snoc l h; obtain ⟨g, hg, -⟩ := fitsW_iff.1 hf; refine ⟨⟨i, r ++ [-1], rfl, .inr ⟨i, rfl, hf, h1⟩⟩, ?_⟩; rw [List.cons_append, List.cons_append, valL_on _ _ _ _ hg, valL_on _ _ _ _ hg, h2]
def flipN (n : Nat) (p : Int) : Int := if p < 0 then -1 else (n : Int) - 1 - p
theorem rev_at {i : Nat} (hi : i < ws.length) : ws.reverse[ws.length - 1 - i]? = ws[i]? := by
 rw [List.getElem?_reverse (by omega)]
 congr 1
 omega
theorem right_flip : ∀ {ls : List ILot} {q : List Int} {R R' : Rm}, (∀ i, i < ws.length -> R' (ws.length - 1 - i) = R i) -> rightL tm ws ls q R -> rightL tm ws.reverse ls (q.map (flipN ws.length)) R' ∧ valL ws.reverse of_ ls (q.map (flipN ws.length)) = valL ws of_ ls q
 | [], q, R, R', _, h => by
  unfold rightL at h ⊢; subst h; exact ⟨rfl, by simp [valL]⟩
 | l :: ls, q, R, R', hr, h => by
  obtain ⟨p, r, rfl, ⟨rfl, h⟩ | ⟨i, rfl, hf, h⟩⟩ := h
  ·obtain ⟨h1, h2⟩ := right_flip hr h; have e : flipN ws.length (-1) = -1 := by unfold flipN; rw [if_pos (by omega)]
   rw [List.map_cons, e, valL_no, valL_no, h2]; exact ⟨⟨-1, _, rfl, .inl ⟨rfl, h1⟩⟩, rfl⟩
  ·obtain ⟨g, hg, f1, f2, f3⟩ := fitsW_iff.1 hf; have hi : i < ws.length := (List.getElem?_eq_some_iff.1 hg).1; have e : flipN ws.length (i : Int) = ((ws.length - 1 - i : Nat) : Int) := by unfold flipN; rw [if_neg (by omega)]; omega
   have hg' : ws.reverse[ws.length - 1 - i]? = some g := by rw [rev_at hi, hg]
   obtain ⟨h1, h2⟩ := right_flip (R := takeR R i l.bales) (R' := takeR R' (ws.length - 1 - i) l.bales) (fun j hj => by
    have := hr j hj; unfold takeR
    by_cases e : j = i
    ·subst e; rw [if_pos rfl, if_pos rfl, this]
    ·rw [if_neg (by omega), if_neg e, this]) h
   rw [List.map_cons, e, valL_on _ _ l ls hg, valL_on _ _ l ls hg', h2]; exact ⟨⟨_, _, rfl, .inr ⟨ws.length - 1 - i, rfl, fitsW_iff.2 ⟨g, hg', f1, by have := hr i hi; omega, f3⟩, h1⟩⟩, rfl⟩
theorem onP_rev {ls : List ILot} : (onP tm ws.reverse of_ ls (roomP ws.reverse)).1 = (onP tm ws of_ ls (roomP ws)).1 := by
 have key : ∀ v : List IWag, (onP tm v of_ ls (roomP v)).1 <= (onP tm v.reverse of_ ls (roomP v.reverse)).1 := fun v => onP_le fun q hq => by
  obtain ⟨h1, h2⟩ := right_flip (of_ := of_) (R' := roomP v.reverse) (fun i hi => by unfold roomP; rw [rev_at hi]) hq
  exact ⟨_, h1, by rw [h2]; exact Int.le_refl _⟩
 have h1 := key ws; have h2 := key ws.reverse; rw [List.reverse_reverse] at h2
 omega
end
def mostV (c : ICart) : Int := (onP c.tm c.wg ofMost c.lt (roomP c.wg)).1
def bestV (c : ICart) : Int := (onP c.tm c.wg ofBest c.lt (roomP c.wg)).1
def cartX (c : ICart) (w : IWag) : ICart := { c with wg := c.wg ++ [w] }
def cartY (c : ICart) (k : Nat) (g : IWag) : ICart := { c with wg := c.wg.set k g }
def cartZ (c : ICart) (l : ILot) : ICart := { c with lt := c.lt ++ [l] }
def cartT (c : ICart) (o : ILk) : ICart := { c with riv := withR c.riv o }
def cartU (c : ICart) : ICart := { c with wg := c.wg.reverse }
theorem NoLess.refl {tm : IWag -> Nat} {of_ : ILot -> IWag -> Int} (g : IWag) : NoLess tm tm of_ g g := ⟨rfl, id, fun _ => Int.le_refl _⟩
section
variable {c : ICart}
theorem cartX_le (w : IWag) (of_ : ILot -> IWag -> Int) : (onP c.tm c.wg of_ c.lt (roomP c.wg)).1 <= (onP (cartX c w).tm (cartX c w).wg of_ (cartX c w).lt (roomP (cartX c w).wg)).1 :=
 onP_le fun q hq => by
  obtain ⟨h1, h2⟩ := right_more (tm' := c.tm) (ws' := c.wg ++ [w]) (of_ := of_) (R' := roomP (c.wg ++ [w])) (fun i g hg => ⟨g, by rw [List.getElem?_append_left (List.getElem?_eq_some_iff.1 hg).1, hg], NoLess.refl g⟩) (fun i hi => by unfold roomP; rw [List.getElem?_append_left hi]; exact Int.le_refl _) hq
  exact ⟨q, h1, h2⟩
theorem cartY_le {k : Nat} {g g' : IWag} (hk : c.wg[k]? = some g) (h1 : g'.leaves = g.leaves) (h2 : g'.takes = g.takes) (h3 : g.room <= g'.room) (of_ : ILot -> IWag -> Int) (h4 : ∀ l, of_ l g = of_ l g') :
  (onP c.tm c.wg of_ c.lt (roomP c.wg)).1 <= (onP (cartY c k g').tm (cartY c k g').wg of_ (cartY c k g').lt (roomP (cartY c k g').wg)).1 := by
 have hkl : k < c.wg.length := (List.getElem?_eq_some_iff.1 hk).1
 have ht : c.tm g' = c.tm g := by
  unfold ICart.tm timelyW; rw [h1, h2]
 refine onP_le fun q hq => ?_
 obtain ⟨h5, h6⟩ := right_more (tm' := c.tm) (ws' := c.wg.set k g') (of_ := of_) (R' := roomP (c.wg.set k g')) (fun i f hf => by
  by_cases e : k = i
  ·subst e; rw [hk] at hf; cases hf
   exact ⟨g', by rw [List.getElem?_set_self hkl], h1, fun h => by rw [ht, h], fun l => by rw [h4 l]; exact Int.le_refl _⟩
  ·exact ⟨f, by rw [List.getElem?_set_ne e, hf], NoLess.refl f⟩) (fun i hi => by
  unfold roomP
  by_cases e : k = i
  ·subst e; rw [hk, List.getElem?_set_self hkl]; exact h3
  ·rw [List.getElem?_set_ne e]; exact Int.le_refl _) hq
 exact ⟨q, h5, h6⟩
theorem cartZ_le (l : ILot) (of_ : ILot -> IWag -> Int) : (onP c.tm c.wg of_ c.lt (roomP c.wg)).1 <= (onP (cartZ c l).tm (cartZ c l).wg of_ (cartZ c l).lt (roomP (cartZ c l).wg)).1 :=
 onP_le fun q hq => by
  obtain ⟨h1, h2⟩ := right_snoc (of_ := of_) l hq; exact ⟨_, h1, by rw [show (cartZ c l).wg = c.wg from rfl, show (cartZ c l).lt = c.lt ++ [l] from rfl, h2]; exact Int.le_refl _⟩
theorem cartT_le {o : ILk} (hok : okC c = true) (hx : okR (withR c.riv o) = true) (ht : truthsA (withR c.riv o).nat ≠ []) (of_ : ILot -> IWag -> Int) :
  (onP c.tm c.wg of_ c.lt (roomP c.wg)).1 <= (onP (cartT c o).tm (cartT c o).wg of_ (cartT c o).lt (roomP (cartT c o).wg)).1 :=
 onP_le fun q hq => by
  have hs := with_sub (okC_parts hok).1 hx
  obtain ⟨h1, h2⟩ := right_more (tm' := (cartT c o).tm) (ws' := c.wg) (of_ := of_) (R' := roomP c.wg) (fun i g hg => ⟨g, hg, rfl, fun h => hs.timely ht c.draws.toNat ((okC_parts hok).2.2.2.2.1 g (List.mem_of_getElem? hg)) h, fun _ => Int.le_refl _⟩) (fun i _ => Int.le_refl _) hq
  exact ⟨q, h1, h2⟩
def QOk (c q : ICart) (i : Nat) : Prop := okC q = true -> (stayE q = 0 ∧ mostV c <= mostV q ∧ bestV c <= bestV q) ∨ (i = 3 ∧ stayE q = 10)
theorem stay_same {q : ICart} (hv : openE c true = 0) (hr : q.riv = c.riv) (hq : okC q = true) : stayE q = 0 := by
 obtain ⟨h1, h2, h3⟩ := openE_zero hv; unfold stayE openE; rw [hq, show hasT q = true by unfold hasT at h3 ⊢; rw [hr]; exact h3]
 rfl
theorem qok_x (hv : openE c true = 0) (w : IWag) (i : Nat) : QOk c (cartX c w) i := fun h => .inl ⟨stay_same hv rfl h, cartX_le w ofMost, cartX_le w ofBest⟩
theorem qok_y (hv : openE c true = 0) {k : Nat} {g : IWag} (hk : c.wg[k]? = some g) {m : Int} (hm : g.room <= m) (i : Nat) : QOk c (cartY c k { g with room := m }) i :=
 fun h => .inl ⟨stay_same hv rfl h, cartY_le (g' := { g with room := m }) hk rfl rfl hm ofMost (fun _ => rfl), cartY_le (g' := { g with room := m }) hk rfl rfl hm ofBest (fun _ => rfl)⟩
theorem qok_c (hv : openE c true = 0) (i : Nat) : QOk c c i := fun h => .inl ⟨stay_same hv rfl h, Int.le_refl _, Int.le_refl _⟩
theorem qok_z (hv : openE c true = 0) (l : ILot) (i : Nat) : QOk c (cartZ c l) i := fun h => .inl ⟨stay_same hv rfl h, cartZ_le l ofMost, cartZ_le l ofBest⟩
theorem qok_t (hv : openE c true = 0) (o : ILk) : QOk c (cartT c o) 3 := fun h => by
 obtain ⟨h1, h2, h3⟩ := openE_zero hv; have hx : okR (withR c.riv o) = true := (okC_parts h).1
 by_cases ht : truthsA (withR c.riv o).nat = []
 ·right
  refine ⟨rfl, ?_⟩; unfold stayE openE
  rw [h, show hasT (cartT c o) = false by unfold hasT; exact decide_eq_false (fun h => h ht)]
  rfl
 ·left
  refine ⟨?_, cartT_le h1 hx ht ofMost, cartT_le h1 hx ht ofBest⟩; unfold stayE openE; rw [h, show hasT (cartT c o) = true by unfold hasT; exact decide_eq_true ht]
  rfl
theorem cartU_ok (hok : okC c = true) : okC (cartU c) = true := by
 unfold okC headC at hok ⊢; simp only [cartU, List.length_reverse, List.all_reverse] at hok ⊢; exact hok
theorem cartU_all (hv : openE c true = 0) : stayE (cartU c) = 0 ∧ mostV (cartU c) = mostV c ∧ bestV (cartU c) = bestV c :=
 ⟨stay_same hv rfl (cartU_ok (openE_zero hv).1), onP_rev, onP_rev⟩
end
end
section
open Go.RowKit Go.Hav Go.Shelf Go.Sq
attribute [local go_sem] Oper.semAt_some
theorem wpList_append_runM {P : Program} {ops : Array Oper} {rest : List Oper} {o : Oper} {a : Act} {Q : Exit -> Act -> World -> Prop} {w w' : World} {v u v' : Value} (hgd : o.guard = none) (s x : Operand) (t : TypeId)
  (ho : o.op = .call { callee := .builtin .append, args := #[s, x], argTypes := #[t, t] }) (hs : a.eval s = v) (hx : a.eval x = u) (hr : (Builtin.append_ #[t, t] o.type #[v, u]).run P w = .ok v' w')
  (h : wpList P ops Q rest (a.put o.dst v') w') : wpList P ops Q (o :: rest) a w :=
 wpList_plain hgd fun _ hK => by
  unfold Oper.wp; rw [append_oper ho hs hx hr]; exact hK _ _ h
noncomputable def mrK (k : Nat) : Code := dropSeq k (Tryz.f11.body.getD .skip)
def LawTrueR (w : World) (e : Ending) (w' : World) : Prop := e = .returned (.bool true) ∧ Below w.heap.size w w'
def WG (k : Nat) (w0 : World) (v4 v5 v6 v7 v8 v11 v12 v13 v14 v15 v18 v19 v20 v21 v22 v23 v24 v25 v42 v43 : Value) (K : World) : Prop := ∀ (s0 s1 s2 s3 s9 s10 s16 s17 s26 s27 s28 s29 s30 s31 s32 s33 s34 s35 s36 s37 s38 s39 s40 s41 s44 s45 s46 s47 s48 s49 s50 s51 s52 s53 s54 s55 s56 s57 s58 s59 s60 s61 s62 s63 s64 s65 s66 s67 s68 s69 s70 s71 s72 s73 s74 s75 s76 s77 s78 s79 s80 s81 s82 s83 s84 s85 s86 s87 s88 s89 s90 s91 s92 s93 s94 s95 s96 s97 s98 s99 s100 s101 s102 s103 s104 s105 s106 s107 s108 s109 s110 s111 s112 s113 s114 s115 s116 s117 s118 s119 s120 s121 s122 s123 s124 s125 s126 s127 s128 s129 s130 s131 s132 s133 s134 s135 s136 s137 s138 s139 s140 s141 s142 s143 s144 s145 s146 s147 s148 s149 s150 s151 s152 s153 s154 s155 s156 s157 s158 s159 s160 s161 s162 s163 s164 s165 s166 s167 s168 s169 s170 s171 s172 s173 s174 s175 s176 s177 s178 s179 s180 s181 s182 s183 s184 s185 s186 s187 s188 s189 s190 s191 s192 s193 s194 s195 s196 s197 s198 s199 s200 s201 s202 s203 s204 s205 s206 s207 s208 s209 s210 s211 s212 s213 s214 s215 s216 s217 s218 s219 s220 s221 s222 s223 s224 s225 s226 s227 s228 s229 s230 s231 s232 s233 s234 s235 s236 s237 s238 s239 s240 s241 s242 s243 s244 s245 s246 s247 s248 s249 s250 s251 s252 s253 s254 s255 s256 s257 s258 s259 s260 s261 s262 s263 s264 s265 s266 s267 s268 s269 s270 s271 s272 s273 s274 s275 s276 s277 s278 s279 s280 s281 s282 s283 s284 s285 s286 s287 s288 s289 s290 s291 s292 s293 s294 s295 s296 s297 s298 s299 s300 s301 s302 s303 s304 s305 s306 s307 s308 s309 s310 s311 s312 s313 s314 s315 s316 s317 s318 s319 s320 s321 s322 s323 s324 s325 s326 s327 s328 s329 s330 : Value), Code.wp Tryz.prog (mrK k) (bodyPost Tryz.prog Tryz.f11 (LawTrueR w0)) ⟨(s0::s1::s2::s3::v4::v5::v6::v7::v8::s9::s10::v11::v12::v13::v14::v15::s16::s17::v18::v19::v20::v21::v22::v23::v24::v25::s26::s27::s28::s29::s30::s31::s32::s33::s34::s35::s36::s37::s38::s39::s40::s41::v42::v43::s44::s45::s46::s47::s48::s49::s50::s51::s52::s53::s54::s55::s56::s57::s58::s59::s60::s61::s62::s63::s64::s65::s66::s67::s68::s69::s70::s71::s72::s73::s74::s75::s76::s77::s78::s79::s80::s81::s82::s83::s84::s85::s86::s87::s88::s89::s90::s91::s92::s93::s94::s95::s96::s97::s98::s99::s100::s101::s102::s103::s104::s105::s106::s107::s108::s109::s110::s111::s112::s113::s114::s115::s116::s117::s118::s119::s120::s121::s122::s123::s124::s125::s126::s127::s128::s129::s130::s131::s132::s133::s134::s135::s136::s137::s138::s139::s140::s141::s142::s143::s144::s145::s146::s147::s148::s149::s150::s151::s152::s153::s154::s155::s156::s157::s158::s159::s160::s161::s162::s163::s164::s165::s166::s167::s168::s169::s170::s171::s172::s173::s174::s175::s176::s177::s178::s179::s180::s181::s182::s183::s184::s185::s186::s187::s188::s189::s190::s191::s192::s193::s194::s195::s196::s197::s198::s199::s200::s201::s202::s203::s204::s205::s206::s207::s208::s209::s210::s211::s212::s213::s214::s215::s216::s217::s218::s219::s220::s221::s222::s223::s224::s225::s226::s227::s228::s229::s230::s231::s232::s233::s234::s235::s236::s237::s238::s239::s240::s241::s242::s243::s244::s245::s246::s247::s248::s249::s250::s251::s252::s253::s254::s255::s256::s257::s258::s259::s260::s261::s262::s263::s264::s265::s266::s267::s268::s269::s270::s271::s272::s273::s274::s275::s276::s277::s278::s279::s280::s281::s282::s283::s284::s285::s286::s287::s288::s289::s290::s291::s292::s293::s294::s295::s296::s297::s298::s299::s300::s301::s302::s303::s304::s305::s306::s307::s308::s309::s310::s311::s312::s313::s314::s315::s316::s317::s318::s319::s320::s321::s322::s323::s324::s325::s326::s327::s328::s329::s330::[]).toArray, []⟩ K
theorem WG.go {k : Nat} {w0 K : World} {v4 v5 v6 v7 v8 v11 v12 v13 v14 v15 v18 v19 v20 v21 v22 v23 v24 v25 v42 v43 : Value} (h : WG k w0 v4 v5 v6 v7 v8 v11 v12 v13 v14 v15 v18 v19 v20 v21 v22 v23 v24 v25 v42 v43 K) {s0 s1 s2 s3 s9 s10 s16 s17 s26 s27 s28 s29 s30 s31 s32 s33 s34 s35 s36 s37 s38 s39 s40 s41 s44 s45 s46 s47 s48 s49 s50 s51 s52 s53 s54 s55 s56 s57 s58 s59 s60 s61 s62 s63 s64 s65 s66 s67 s68 s69 s70 s71 s72 s73 s74 s75 s76 s77 s78 s79 s80 s81 s82 s83 s84 s85 s86 s87 s88 s89 s90 s91 s92 s93 s94 s95 s96 s97 s98 s99 s100 s101 s102 s103 s104 s105 s106 s107 s108 s109 s110 s111 s112 s113 s114 s115 s116 s117 s118 s119 s120 s121 s122 s123 s124 s125 s126 s127 s128 s129 s130 s131 s132 s133 s134 s135 s136 s137 s138 s139 s140 s141 s142 s143 s144 s145 s146 s147 s148 s149 s150 s151 s152 s153 s154 s155 s156 s157 s158 s159 s160 s161 s162 s163 s164 s165 s166 s167 s168 s169 s170 s171 s172 s173 s174 s175 s176 s177 s178 s179 s180 s181 s182 s183 s184 s185 s186 s187 s188 s189 s190 s191 s192 s193 s194 s195 s196 s197 s198 s199 s200 s201 s202 s203 s204 s205 s206 s207 s208 s209 s210 s211 s212 s213 s214 s215 s216 s217 s218 s219 s220 s221 s222 s223 s224 s225 s226 s227 s228 s229 s230 s231 s232 s233 s234 s235 s236 s237 s238 s239 s240 s241 s242 s243 s244 s245 s246 s247 s248 s249 s250 s251 s252 s253 s254 s255 s256 s257 s258 s259 s260 s261 s262 s263 s264 s265 s266 s267 s268 s269 s270 s271 s272 s273 s274 s275 s276 s277 s278 s279 s280 s281 s282 s283 s284 s285 s286 s287 s288 s289 s290 s291 s292 s293 s294 s295 s296 s297 s298 s299 s300 s301 s302 s303 s304 s305 s306 s307 s308 s309 s310 s311 s312 s313 s314 s315 s316 s317 s318 s319 s320 s321 s322 s323 s324 s325 s326 s327 s328 s329 s330 : Value} : Code.wp Tryz.prog (mrK k) (bodyPost Tryz.prog Tryz.f11 (LawTrueR w0)) ⟨(s0::s1::s2::s3::v4::v5::v6::v7::v8::s9::s10::v11::v12::v13::v14::v15::s16::s17::v18::v19::v20::v21::v22::v23::v24::v25::s26::s27::s28::s29::s30::s31::s32::s33::s34::s35::s36::s37::s38::s39::s40::s41::v42::v43::s44::s45::s46::s47::s48::s49::s50::s51::s52::s53::s54::s55::s56::s57::s58::s59::s60::s61::s62::s63::s64::s65::s66::s67::s68::s69::s70::s71::s72::s73::s74::s75::s76::s77::s78::s79::s80::s81::s82::s83::s84::s85::s86::s87::s88::s89::s90::s91::s92::s93::s94::s95::s96::s97::s98::s99::s100::s101::s102::s103::s104::s105::s106::s107::s108::s109::s110::s111::s112::s113::s114::s115::s116::s117::s118::s119::s120::s121::s122::s123::s124::s125::s126::s127::s128::s129::s130::s131::s132::s133::s134::s135::s136::s137::s138::s139::s140::s141::s142::s143::s144::s145::s146::s147::s148::s149::s150::s151::s152::s153::s154::s155::s156::s157::s158::s159::s160::s161::s162::s163::s164::s165::s166::s167::s168::s169::s170::s171::s172::s173::s174::s175::s176::s177::s178::s179::s180::s181::s182::s183::s184::s185::s186::s187::s188::s189::s190::s191::s192::s193::s194::s195::s196::s197::s198::s199::s200::s201::s202::s203::s204::s205::s206::s207::s208::s209::s210::s211::s212::s213::s214::s215::s216::s217::s218::s219::s220::s221::s222::s223::s224::s225::s226::s227::s228::s229::s230::s231::s232::s233::s234::s235::s236::s237::s238::s239::s240::s241::s242::s243::s244::s245::s246::s247::s248::s249::s250::s251::s252::s253::s254::s255::s256::s257::s258::s259::s260::s261::s262::s263::s264::s265::s266::s267::s268::s269::s270::s271::s272::s273::s274::s275::s276::s277::s278::s279::s280::s281::s282::s283::s284::s285::s286::s287::s288::s289::s290::s291::s292::s293::s294::s295::s296::s297::s298::s299::s300::s301::s302::s303::s304::s305::s306::s307::s308::s309::s310::s311::s312::s313::s314::s315::s316::s317::s318::s319::s320::s321::s322::s323::s324::s325::s326::s327::s328::s329::s330::[]).toArray, []⟩ K := h _ _ _ _ _ _ _ _ _ _ _ _ _ _ _ _ _ _ _ _ _ _ _ _ _ _ _ _ _ _ _ _ _ _ _ _ _ _ _ _ _ _ _ _ _ _ _ _ _ _ _ _ _ _ _ _ _ _ _ _ _ _ _ _ _ _ _ _ _ _ _ _ _ _ _ _ _ _ _ _ _ _ _ _ _ _ _ _ _ _ _ _ _ _ _ _ _ _ _ _ _ _ _ _ _ _ _ _ _ _ _ _ _ _ _ _ _ _ _ _ _ _ _ _ _ _ _ _ _ _ _ _ _ _ _ _ _ _ _ _ _ _ _ _ _ _ _ _ _ _ _ _ _ _ _ _ _ _ _ _ _ _ _ _ _ _ _ _ _ _ _ _ _ _ _ _ _ _ _ _ _ _ _ _ _ _ _ _ _ _ _ _ _ _ _ _ _ _ _ _ _ _ _ _ _ _ _ _ _ _ _ _ _ _ _ _ _ _ _ _ _ _ _ _ _ _ _ _ _ _ _ _ _ _ _ _ _ _ _ _ _ _ _ _ _ _ _ _ _ _ _ _ _ _ _ _ _ _ _ _ _ _ _ _ _ _ _ _ _ _ _ _ _ _ _ _ _ _ _ _ _ _ _ _ _ _ _ _ _ _ _ _ _ _ _ _ _ _ _ _ _ _ _ _ _ _ _ _ _ _ _
def WR0 (k : Nat) (w0 : World) (v5 v21 v24 v42 v43 : Value) (K : World) : Prop := ∀ (v4 v6 v7 v8 v11 v12 v13 v14 v15 v18 v19 v20 v22 v23 v25 : Value), WG k w0 v4 v5 v6 v7 v8 v11 v12 v13 v14 v15 v18 v19 v20 v21 v22 v23 v24 v25 v42 v43 K
theorem WR0.go {k : Nat} {w0 K : World} {v4 v5 v6 v7 v8 v11 v12 v13 v14 v15 v18 v19 v20 v21 v22 v23 v24 v25 v42 v43 : Value} (h : WR0 k w0 v5 v21 v24 v42 v43 K) : WG k w0 v4 v5 v6 v7 v8 v11 v12 v13 v14 v15 v18 v19 v20 v21 v22 v23 v24 v25 v42 v43 K := h _ _ _ _ _ _ _ _ _ _ _ _ _ _ _
def WR1 (k : Nat) (w0 : World) (v5 v18 v19 v21 v24 : Value) (K : World) : Prop := ∀ (v4 v6 v7 v8 v11 v12 v13 v14 v15 v20 v22 v23 v25 v42 v43 : Value), WG k w0 v4 v5 v6 v7 v8 v11 v12 v13 v14 v15 v18 v19 v20 v21 v22 v23 v24 v25 v42 v43 K
theorem WR1.go {k : Nat} {w0 K : World} {v4 v5 v6 v7 v8 v11 v12 v13 v14 v15 v18 v19 v20 v21 v22 v23 v24 v25 v42 v43 : Value} (h : WR1 k w0 v5 v18 v19 v21 v24 K) : WG k w0 v4 v5 v6 v7 v8 v11 v12 v13 v14 v15 v18 v19 v20 v21 v22 v23 v24 v25 v42 v43 K := h _ _ _ _ _ _ _ _ _ _ _ _ _ _ _
def WR2 (k : Nat) (w0 : World) (v5 v15 v18 v19 v20 v21 v22 v23 v24 v25 : Value) (K : World) : Prop := ∀ (v4 v6 v7 v8 v11 v12 v13 v14 v42 v43 : Value), WG k w0 v4 v5 v6 v7 v8 v11 v12 v13 v14 v15 v18 v19 v20 v21 v22 v23 v24 v25 v42 v43 K
theorem WR2.go {k : Nat} {w0 K : World} {v4 v5 v6 v7 v8 v11 v12 v13 v14 v15 v18 v19 v20 v21 v22 v23 v24 v25 v42 v43 : Value} (h : WR2 k w0 v5 v15 v18 v19 v20 v21 v22 v23 v24 v25 K) : WG k w0 v4 v5 v6 v7 v8 v11 v12 v13 v14 v15 v18 v19 v20 v21 v22 v23 v24 v25 v42 v43 K := h _ _ _ _ _ _ _ _ _ _
def WR3 (k : Nat) (w0 : World) (v5 v11 v12 v13 v14 v15 v18 v19 v20 v21 v22 v23 v24 v25 : Value) (K : World) : Prop := ∀ (v4 v6 v7 v8 v42 v43 : Value), WG k w0 v4 v5 v6 v7 v8 v11 v12 v13 v14 v15 v18 v19 v20 v21 v22 v23 v24 v25 v42 v43 K
theorem WR3.go {k : Nat} {w0 K : World} {v4 v5 v6 v7 v8 v11 v12 v13 v14 v15 v18 v19 v20 v21 v22 v23 v24 v25 v42 v43 : Value} (h : WR3 k w0 v5 v11 v12 v13 v14 v15 v18 v19 v20 v21 v22 v23 v24 v25 K) : WG k w0 v4 v5 v6 v7 v8 v11 v12 v13 v14 v15 v18 v19 v20 v21 v22 v23 v24 v25 v42 v43 K := h _ _ _ _ _ _
def WR4 (k : Nat) (w0 : World) (v5 v11 v12 v13 v14 v15 v18 v19 : Value) (K : World) : Prop := ∀ (v4 v6 v7 v8 v20 v21 v22 v23 v24 v25 v42 v43 : Value), WG k w0 v4 v5 v6 v7 v8 v11 v12 v13 v14 v15 v18 v19 v20 v21 v22 v23 v24 v25 v42 v43 K
theorem WR4.go {k : Nat} {w0 K : World} {v4 v5 v6 v7 v8 v11 v12 v13 v14 v15 v18 v19 v20 v21 v22 v23 v24 v25 v42 v43 : Value} (h : WR4 k w0 v5 v11 v12 v13 v14 v15 v18 v19 K) : WG k w0 v4 v5 v6 v7 v8 v11 v12 v13 v14 v15 v18 v19 v20 v21 v22 v23 v24 v25 v42 v43 K := h _ _ _ _ _ _ _ _ _ _ _ _
def WR5 (k : Nat) (w0 : World) (v5 v11 v12 v13 v14 v15 : Value) (K : World) : Prop := ∀ (v4 v6 v7 v8 v18 v19 v20 v21 v22 v23 v24 v25 v42 v43 : Value), WG k w0 v4 v5 v6 v7 v8 v11 v12 v13 v14 v15 v18 v19 v20 v21 v22 v23 v24 v25 v42 v43 K
theorem WR5.go {k : Nat} {w0 K : World} {v4 v5 v6 v7 v8 v11 v12 v13 v14 v15 v18 v19 v20 v21 v22 v23 v24 v25 v42 v43 : Value} (h : WR5 k w0 v5 v11 v12 v13 v14 v15 K) : WG k w0 v4 v5 v6 v7 v8 v11 v12 v13 v14 v15 v18 v19 v20 v21 v22 v23 v24 v25 v42 v43 K := h _ _ _ _ _ _ _ _ _ _ _ _ _ _
def WR6 (k : Nat) (w0 : World) (v4 v5 v11 v12 v13 v14 v15 : Value) (K : World) : Prop := ∀ (v6 v7 v8 v18 v19 v20 v21 v22 v23 v24 v25 v42 v43 : Value), WG k w0 v4 v5 v6 v7 v8 v11 v12 v13 v14 v15 v18 v19 v20 v21 v22 v23 v24 v25 v42 v43 K
theorem WR6.go {k : Nat} {w0 K : World} {v4 v5 v6 v7 v8 v11 v12 v13 v14 v15 v18 v19 v20 v21 v22 v23 v24 v25 v42 v43 : Value} (h : WR6 k w0 v4 v5 v11 v12 v13 v14 v15 K) : WG k w0 v4 v5 v6 v7 v8 v11 v12 v13 v14 v15 v18 v19 v20 v21 v22 v23 v24 v25 v42 v43 K := h _ _ _ _ _ _ _ _ _ _ _ _ _
def WR7 (k : Nat) (w0 : World) (v4 v5 v7 v8 v11 v12 v13 v14 v15 : Value) (K : World) : Prop := ∀ (v6 v18 v19 v20 v21 v22 v23 v24 v25 v42 v43 : Value), WG k w0 v4 v5 v6 v7 v8 v11 v12 v13 v14 v15 v18 v19 v20 v21 v22 v23 v24 v25 v42 v43 K
theorem WR7.go {k : Nat} {w0 K : World} {v4 v5 v6 v7 v8 v11 v12 v13 v14 v15 v18 v19 v20 v21 v22 v23 v24 v25 v42 v43 : Value} (h : WR7 k w0 v4 v5 v7 v8 v11 v12 v13 v14 v15 K) : WG k w0 v4 v5 v6 v7 v8 v11 v12 v13 v14 v15 v18 v19 v20 v21 v22 v23 v24 v25 v42 v43 K := h _ _ _ _ _ _ _ _ _ _ _
def WR8 (k : Nat) (w0 : World) (v4 v5 v6 v7 v8 : Value) (K : World) : Prop := ∀ (v11 v12 v13 v14 v15 v18 v19 v20 v21 v22 v23 v24 v25 v42 v43 : Value), WG k w0 v4 v5 v6 v7 v8 v11 v12 v13 v14 v15 v18 v19 v20 v21 v22 v23 v24 v25 v42 v43 K
theorem WR8.go {k : Nat} {w0 K : World} {v4 v5 v6 v7 v8 v11 v12 v13 v14 v15 v18 v19 v20 v21 v22 v23 v24 v25 v42 v43 : Value} (h : WR8 k w0 v4 v5 v6 v7 v8 K) : WG k w0 v4 v5 v6 v7 v8 v11 v12 v13 v14 v15 v18 v19 v20 v21 v22 v23 v24 v25 v42 v43 K := h _ _ _ _ _ _ _ _ _ _ _ _ _ _ _
structure CBox (w : World) (b : Nat) (fa : Option Addr) (fl fc : Nat) (la : Option Addr) (ll lc : Nat) (wa : Option Addr) (wn wc : Nat) (ta : Option Addr) (tn tc : Nat) (q : ICart) : Prop where
 box : Blk w b 31 #[.int .i64 q.riv.depth.lo, .int .i64 q.riv.depth.hi, .int .i64 q.riv.fall.lo, .int .i64 q.riv.fall.hi, .int .i64 q.riv.days, .slice fa fl fc, .slice la ll lc, .int .i64 q.draws, .slice wa wn wc, .slice ta tn tc]
 inn : CtIn w w.heap.size fa fl la ll wa wn ta tn q
theorem CBox.below {w w' : World} {b fl fc ll lc wn wc tn tc : Nat} {fa la wa ta : Option Addr} {q : ICart} (h : CBox w b fa fl fc la ll lc wa wn wc ta tn tc q) (hb : Below w.heap.size w w') : CBox w' b fa fl fc la ll lc wa wn wc ta tn tc q := ⟨h.box.below hb h.box.lt, h.inn.grow hb⟩
structure MrIn (w0 w : World) (b5 : Nat) (fa : Option Addr) (fl fc : Nat) (la : Option Addr) (ll lc : Nat) (wa : Option Addr) (wn wc : Nat) (ta : Option Addr) (tn tc : Nat) (c : ICart) : Prop where
 bw : Below w0.heap.size w0 w
 hP : CtIn w0 w0.heap.size fa fl la ll wa wn ta tn c
 box : Blk w b5 31 (CX9 c fa fl fc la ll lc wa wn wc ta tn tc)
 hv : openE c true = 0
 g5 : w0.heap.size <= b5
section
variable {w0 K : World} {b5 b15 g1 g2 fl fc ll lc wn wc tn tc c1 c2 c3 c4 : Nat} {fa la wa ta A1 A2 A3 A4 : Option Addr} {c : ICart} {n1 n2 : Int} {P1 P2 : List Int}
theorem MrIn.below {w w' : World} (h : MrIn w0 w b5 fa fl fc la ll lc wa wn wc ta tn tc c) (hb : Below w.heap.size w w') : MrIn w0 w' b5 fa fl fc la ll lc wa wn wc ta tn tc c := { h with bw := h.bw.trans (hb.mono h.bw.size), box := h.box.below hb h.box.lt }
theorem MrIn.turned {w w' : World} {S : Nat -> Prop} (h : MrIn w0 w b5 fa fl fc la ll lc wa wn wc ta tn tc c) (t : Turn S w w') (hs : ∀ b, S b -> w0.heap.size <= b) (h5 : ¬ S b5) : MrIn w0 w' b5 fa fl fc la ll lc wa wn wc ta tn tc c := { h with bw := h.bw.trans (t.below h.bw.size hs), box := h.box.turn t h5 }
theorem MrIn.inn {w : World} (h : MrIn w0 w b5 fa fl fc la ll lc wa wn wc ta tn tc c) : CtIn w w.heap.size fa fl la ll wa wn ta tn c := h.hP.grow h.bw
theorem MrIn.ok {w : World} (h : MrIn w0 w b5 fa fl fc la ll lc wa wn wc ta tn tc c) : okC c = true := (openE_zero h.hv).1
theorem MrIn.t5 {w : World} (h : MrIn w0 w b5 fa fl fc la ll lc wa wn wc ta tn tc c) : tn <= 5 := by have := (okC_parts h.ok).2.2.2.1; rw [h.hP.etn] at this; exact this
theorem MrIn.w3 {w : World} (h : MrIn w0 w b5 fa fl fc la ll lc wa wn wc ta tn tc c) : wn <= 3 := by have := (okC_parts h.ok).2.2.1; rw [h.hP.ewn] at this; exact this
structure Plans (c : ICart) (n1 n2 : Int) (P1 P2 : List Int) : Prop where
 e1 : planL c.tm c.wg ofMost c.lt (roomP c.wg) = P1
 e2 : planL c.tm c.wg ofBest c.lt (roomP c.wg) = P2
 v1 : (onP c.tm c.wg ofMost c.lt (roomP c.wg)).1 = n1
 v2 : (onP c.tm c.wg ofBest c.lt (roomP c.wg)).1 = n2
theorem Plans.len (h : Plans c n1 n2 P1 P2) : P1.length = c.lt.length ∧ P2.length = c.lt.length := ⟨by rw [<- h.e1]; exact rightL_len (plan_right c.tm c.wg ofMost c.lt (roomP c.wg)), by rw [<- h.e2]; exact rightL_len (plan_right c.tm c.wg ofBest c.lt (roomP c.wg))⟩
theorem mr19 (hC : MrIn w0 K b5 fa fl fc la ll lc wa wn wc ta tn tc c) (hPL : Plans c n1 n2 P1 P2) (h3 : RdG inI 1 K K.heap.size A3 P1) (h4 : RdG inI 1 K K.heap.size A4 P2) : WR0 19 w0 (.pointer (some ⟨b5, 0, none⟩)) (.slice (some ⟨g1, 0, none⟩) tn tn) (.slice (some ⟨g2, 0, none⟩) tn tn) (.slice A3 tn c3) (.slice A4 tn c4) K := by
 unfold WR0 WG
 intros
 have ht5 := hC.t5; have HLE : Hid (P1.length = tn ∧ P2.length = tn) := by have h := hPL.len; rw [hC.hP.etn] at h; exact h
 have HSE : Hid (stayE c = 0) := hC.hv; have HC := hd9 hC; have HPL := hd9 hPL; have HR3 := hd9 h3; have HR4 := hd9 h4; clear hC hPL h3 h4
 conv => arg 2; whnf
 have hx := HC.out.box; obtain ⟨q0, q1, q2, q3, q4, q5, q6, q7, q8, q9, ql⟩ := cx31 hx; clear hx; go_wp2_with fail; refine (PMost_any (fa := fa) (fl := fl) (fc := fc) (la := la) (ll := ll) (lc := lc) (wa := wa) (wn := wn) (wc := wc) (ta := ta) (tn := tn) (tc := tc) (w := K) (c := c) HC.out.inn).mono ?_; rintro e v1 ⟨hb, (⟨h1, -⟩ | ⟨-, g3, rfl, hgg, hg⟩)⟩
 ·exact absurd HSE.out h1
 rw [HPL.out.v1]; rw [HPL.out.e1] at hg; have HC1 := hd9 (HC.out.below hb); have HG3 := hd9 hg; have HR31 := hd9 (HR3.out.grow hb); have HR41 := hd9 (HR4.out.grow hb); clear hb hg hgg; clear q0 q1 q2 q3 q4 q5 q6 q7 q8 q9 ql; have hx := HC1.out.box; obtain ⟨q0, q1, q2, q3, q4, q5, q6, q7, q8, q9, ql⟩ := cx31 hx; clear hx; go_wp2_with fail; refine (PBest_any (fa := fa) (fl := fl) (fc := fc) (la := la) (ll := ll) (lc := lc) (wa := wa) (wn := wn) (wc := wc) (ta := ta) (tn := tn) (tc := tc) (w := v1) (c := c) HC1.out.inn).mono ?_; rintro e v2 ⟨hb, (⟨h1, -⟩ | ⟨-, g4, rfl, hgg, hg⟩)⟩
 ·exact absurd HSE.out h1
 rw [HPL.out.v2]; rw [HPL.out.e2] at hg; have HC2 := hd9 (HC1.out.below hb); have HG4 := hd9 hg; have HG32 := hd9 (HG3.out.below hb HG3.out.lt); have HR32 := hd9 (HR31.out.grow hb); have HR42 := hd9 (HR41.out.grow hb); clear hb hg hgg; clear q0 q1 q2 q3 q4 q5 q6 q7 q8 q9 ql; go_wp2_with fail; refine (ints_any (A1 := some ⟨g3, 0, none⟩) (n1 := tn) (c1 := tn) (l1 := P1) (A2 := A3) (n2 := tn) (c2 := c3) (l2 := P1) HLE.out.1 HLE.out.1 (by omega) v2 (ints_rd HG32.out) HR32.out).mono ?_
 rw [decide_eq_true (show P1 = P1 from rfl)]
 rintro e u1 ⟨rfl, hb⟩; have HC3 := hd9 (HC2.out.below hb); have HG43 := hd9 (HG4.out.below hb HG4.out.lt); have HR43 := hd9 (HR42.out.grow hb); clear hb; go_wp2_with fail; refine (ints_any (A1 := some ⟨g4, 0, none⟩) (n1 := tn) (c1 := tn) (l1 := P2) (A2 := A4) (n2 := tn) (c2 := c4) (l2 := P2) HLE.out.2 HLE.out.2 (by omega) u1 (ints_rd HG43.out) HR43.out).mono ?_
 rw [decide_eq_true (show P2 = P2 from rfl)]
 rintro e u2 ⟨rfl, hb⟩; have HC4 := hd9 (HC3.out.below hb); clear hb; go_wp2_with fail; refine (alive_any _).mono ?_; rintro e wz ⟨rfl, hb⟩; have HC5 := hd9 (HC4.out.below hb); clear hb; go_wp2; go_ret
 exact ⟨rfl, HC5.out.bw⟩
theorem RdG.of_ints {w : World} {B : Nat} {A : Option Addr} {n cp : Nat} {L : List Int} (h : w.ownsRow B 3 1 (.slice A n cp) n (L.flatMap inI)) (hn : L.length = n) : RdG inI 1 w w.heap.size A L := by
 rw [<- hn] at h; obtain ⟨A', cq, he, hrd, -⟩ := own_rd inI_len (by decide) h
 injection he with e1 e2 e3
 rw [e1]; exact hrd
theorem mr18 {B : Nat} (hC : MrIn w0 K b5 fa fl fc la ll lc wa wn wc ta tn tc c) (hPL : Plans c n1 n2 P1 P2) (hg1 : Blk K g1 3 (intsA P1)) (hg2 : Blk K g2 3 (intsA P2)) (hne : g1 ≠ g2) (hw : w0.heap.size <= g1 ∧ w0.heap.size <= g2) (hB : g1 < B ∧ g2 < B) (h3 : K.ownsRow B 3 1 (.slice A3 tn c3) tn (P1.flatMap inI)) (h4 : K.ownsRow B 3 1 (.slice A4 tn c4) tn (P2.flatMap inI)) : WR0 18 w0 (.pointer (some ⟨b5, 0, none⟩)) (.slice (some ⟨g1, 0, none⟩) tn tn) (.slice (some ⟨g2, 0, none⟩) tn tn) (.slice A3 tn c3) (.slice A4 tn c4) K := by
 unfold WR0 WG
 intros
 have ht5 := hC.t5; have HLE : Hid (P1.length = tn ∧ P2.length = tn) := by have h := hPL.len; rw [hC.hP.etn] at h; exact h
 have HEND : Hid (∀ wz, Turn (fun b => b = g1 ∨ b = g2) K wz -> WR0 19 w0 (.pointer (some ⟨b5, 0, none⟩)) (.slice (some ⟨g1, 0, none⟩) tn tn) (.slice (some ⟨g2, 0, none⟩) tn tn) (.slice A3 tn c3) (.slice A4 tn c4) wz) := fun wz t => by
  refine mr19 (hC.turned t (fun b e => by rcases e with e | e <;> omega) (fun e => e.elim (blk_ne hC.box hg1 (by decide)) (blk_ne hC.box hg2 (by decide)))) hPL ?_ ?_
  ·exact RdG.of_ints (own_turn h3 t (fun g hg e => by have := (own_block h3 hg).1; rcases e with e | e <;> omega)) HLE.out.1
  ·exact RdG.of_ints (own_turn h4 t (fun g hg e => by have := (own_block h4 hg).1; rcases e with e | e <;> omega)) HLE.out.2
 have HG1 : Hid (∃ L : List Int, L.length = tn ∧ Blk K g1 3 (intsA L)) := ⟨P1, HLE.out.1, hg1⟩; have HG2 : Hid (∃ L : List Int, L.length = tn ∧ Blk K g2 3 (intsA L)) := ⟨P2, HLE.out.2, hg2⟩; have hne2 : g2 ≠ g1 := hne.symm; clear hC hPL hg1 hg2 hw hB h3 h4
 conv => arg 2; whnf
 conv => arg 2; arg 2; change mrK 19
 go_wp2
 go_loopw [290] (fun i wr => ∃ j : Nat, j <= tn ∧ i = .int .i64 j ∧ Hid (Turn (fun b => b = g1 ∨ b = g2) K wr) ∧ Hid (∃ L : List Int, L.length = tn ∧ Blk wr g1 3 (intsA L)) ∧ Hid (∃ L : List Int, L.length = tn ∧ Blk wr g2 3 (intsA L))) (fun i _ => tn - (intOf i).toNat)
 case atStart => exact ⟨0, Nat.zero_le _, rfl, Turn.refl _ _, HG1, HG2⟩
 case round =>
  obtain ⟨j, hj, rfl, HT, HR1, HR2⟩ := hrel
  by_cases hlt : j < tn
  ·obtain ⟨L1, hl1, k1⟩ := HR1.out; obtain ⟨L2, hl2, k2⟩ := HR2.out; obtain ⟨x1, hx1⟩ : ∃ x, L1[j]? = some x := ⟨L1[j]'(by omega), by simp⟩
   obtain ⟨x2, hx2⟩ : ∃ x, L2[j]? = some x := ⟨L2[j]'(by omega), by simp⟩
   have c1 : wr.cell? ⟨g1, j, none⟩ = some (.int .i64 x1) := (k1.cell j).trans (by unfold intsA; simp [hx1])
   have c2 : wr.cell? ⟨g2, j, none⟩ = some (.int .i64 x2) := (k2.cell j).trans (by unfold intsA; simp [hx2])
   have f1 := k1.frozen j; have f2 := k2.frozen j; have l1 := k1.lt; have l2 := k2.lt
   have HW : Hid (Turn (fun b => b = g1 ∨ b = g2) K ((wr.setCell ⟨g1, j, none⟩ (.int .i64 7)).setCell ⟨g2, j, none⟩ (.int .i64 7)) ∧ (∃ L : List Int, L.length = tn ∧ Blk ((wr.setCell ⟨g1, j, none⟩ (.int .i64 7)).setCell ⟨g2, j, none⟩ (.int .i64 7)) g1 3 (intsA L)) ∧ (∃ L : List Int, L.length = tn ∧ Blk ((wr.setCell ⟨g1, j, none⟩ (.int .i64 7)).setCell ⟨g2, j, none⟩ (.int .i64 7)) g2 3 (intsA L))) := by
    have t1 : Turn (fun b => b = g1) wr (wr.setCell ⟨g1, j, none⟩ (.int .i64 7)) := Turn.set (S := fun b => b = g1) ⟨g1, j, none⟩ _ (fun _ => rfl)
    have t2 : Turn (fun b => b = g2) (wr.setCell ⟨g1, j, none⟩ (.int .i64 7)) ((wr.setCell ⟨g1, j, none⟩ (.int .i64 7)).setCell ⟨g2, j, none⟩ (.int .i64 7)) := Turn.set (S := fun b => b = g2) ⟨g2, j, none⟩ _ (fun _ => rfl)
    have s : ∀ (L : List Int), (intsA L).setIfInBounds j (.int .i64 7) = intsA (L.set j 7) := fun L => by unfold intsA; rw [List.setIfInBounds_toArray, <- List.map_set]
    refine ⟨HT.out.trans ((t1.mono (fun b e => .inl e)).trans (t2.mono (fun b e => .inr e))), ⟨L1.set j 7, by simp [hl1], ?_⟩, ⟨L2.set j 7, by simp [hl2], ?_⟩⟩
    ·rw [<- s]; exact (k1.set_ j _).turn t2 hne
    ·rw [<- s]; exact (k2.turn t1 hne2).set_ j _
   clear hl1 hl2 k1 k2 hx1 hx2; go_wp2; go_roundw
   case rel => exact ⟨j + 1, by omega, by go_num, HW.out.1, HW.out.2.1, HW.out.2.2⟩
   case measure => simp [intOf]; omega
  ·obtain rfl : tn = j := by omega
   go_wp2; exact (HEND.out wr HT.out).go.go
theorem mr17 (hC : MrIn w0 K b5 fa fl fc la ll lc wa wn wc ta tn tc c) (hPL : Plans c n1 n2 P1 P2) (hg1 : Blk K g1 3 (intsA P1)) (hg2 : Blk K g2 3 (intsA P2)) (hne : g1 ≠ g2) (hw : w0.heap.size <= g1 ∧ w0.heap.size <= g2) : WR1 17 w0 (.pointer (some ⟨b5, 0, none⟩)) (.slice A1 wn c1) (.slice A2 tn c2) (.slice (some ⟨g1, 0, none⟩) tn tn) (.slice (some ⟨g2, 0, none⟩) tn tn) K := by
 unfold WR1 WG
 intros
 have ht5 := hC.t5; have HLE : Hid (P1.length = tn ∧ P2.length = tn) := by have h := hPL.len; rw [hC.hP.etn] at h; exact h
 obtain ⟨I, hi, hz0, hz1, hz2⟩ := info_parts Tryz.infoE3; have hb1 : Below K.heap.size K (K.alloc (.cells #[] 3)) := (Below.refl _ _).alloc (Nat.le_refl _) _; obtain ⟨v1, w1, hrun1, ⟨g3, c3, rfl, -⟩, o3, hb2⟩ := append_copy (P := Tryz.prog) (f := inI) (n := tn) (c := tn) (A := some ⟨g1, 0, none⟩) (l := P1) 32 32 3 I _ 1 8 Tryz.underlying32 hi hz0 hz1 hz2 rfl (by decide) inI_len HLE.out.1 (w := K.alloc (.cells #[] 3)) (B := K.heap.size) (g := K.heap.size) ((ints_rd hg1).grow hb1) (by omega) (by omega) hb1.size (ownsRow_empty rfl 3 1)
 have hb12 : Below K.heap.size K w1 := hb1.trans (hb2.mono hb1.size); have hb3 : Below w1.heap.size w1 (w1.alloc (.cells #[] 3)) := (Below.refl _ _).alloc (Nat.le_refl _) _; have hb13 : Below K.heap.size K (w1.alloc (.cells #[] 3)) := hb12.trans (hb3.mono hb12.size); obtain ⟨v2, w2, hrun2, ⟨g4, c4, rfl, -⟩, o4, hb4⟩ := append_copy (P := Tryz.prog) (f := inI) (n := tn) (c := tn) (A := some ⟨g2, 0, none⟩) (l := P2) 32 32 3 I _ 1 8 Tryz.underlying32 hi hz0 hz1 hz2 rfl (by decide) inI_len HLE.out.2 (w := w1.alloc (.cells #[] 3)) (B := K.heap.size) (g := w1.heap.size) ((ints_rd (hg2.below hb12 hg2.lt)).grow hb3) (by omega) (by omega) hb13.size (own_base (ownsRow_empty rfl 3 1) hb12.size)
 have hbz : Below K.heap.size K w2 := hb13.trans (hb4.mono hb13.size); have HEND : Hid (WR0 18 w0 (.pointer (some ⟨b5, 0, none⟩)) (.slice (some ⟨g1, 0, none⟩) tn tn) (.slice (some ⟨g2, 0, none⟩) tn tn) (.slice (some ⟨g3, 0, none⟩) tn c3) (.slice (some ⟨g4, 0, none⟩) tn c4) w2) := mr18 (hC.below hbz) hPL (hg1.below hbz hg1.lt) (hg2.below hbz hg2.lt) hne hw ⟨hg1.lt, hg2.lt⟩ (own_below (own_below o3 hb3) hb4) o4; have HR1 := hd9 hrun1; have HR2 := hd9 hrun2; clear hC hPL hg1 hg2 hne hw hi hz0 hz1 hz2 hb1 hb2 hb12 hb3 hb13 hb4 hbz hrun1 hrun2 o3 o4
 conv => arg 2; whnf
 conv => arg 2; arg 2; change mrK 18
 go_wp2_with (first | (at_builtin; refine wpList_append_runM rfl _ _ 32 rfl rfl rfl HR1.out ?_; clear HR1) | (at_builtin; refine wpList_append_runM rfl _ _ 32 rfl rfl rfl HR2.out ?_; clear HR2))
 go_wp2; exact (HEND.out).go.go
theorem mr16 (hC : MrIn w0 K b5 fa fl fc la ll lc wa wn wc ta tn tc c) (hPL : Plans c n1 n2 P1 P2) (hg1 : Blk K g1 3 (intsA P1)) (hg2 : Blk K g2 3 (intsA P2)) (hne : g1 ≠ g2) (hw : w0.heap.size <= g1 ∧ w0.heap.size <= g2) (h2 : RdG ltI 5 K K.heap.size A2 c.lt) : WR1 16 w0 (.pointer (some ⟨b5, 0, none⟩)) (.slice A1 wn c1) (.slice A2 tn c2) (.slice (some ⟨g1, 0, none⟩) tn tn) (.slice (some ⟨g2, 0, none⟩) tn tn) K := by
 unfold WR1 WG
 intros
 have ht5 := hC.t5; have hw3 := hC.w3
 have HEND : Hid (∀ wz, Below K.heap.size K wz -> WR1 17 w0 (.pointer (some ⟨b5, 0, none⟩)) (.slice A1 wn c1) (.slice A2 tn c2) (.slice (some ⟨g1, 0, none⟩) tn tn) (.slice (some ⟨g2, 0, none⟩) tn tn) wz) := fun wz hb => mr17 (hC.below hb) hPL (hg1.below hb hg1.lt) (hg2.below hb hg2.lt) hne hw
 have HEN : Hid (c.lt.length = tn) := hC.hP.etn; have HC := hd9 hC; have HR := hd9 h2; clear hC hPL hg1 hg2 hne hw h2
 conv => arg 2; whnf
 conv => arg 2; arg 2; change mrK 17
 go_wp2
 go_loopw [268] (fun i wr => ∃ j : Nat, j <= tn ∧ i = .int .i64 j ∧ Hid (Below K.heap.size K wr)) (fun i _ => tn - (intOf i).toNat)
 case atStart => exact ⟨0, Nat.zero_le _, rfl, Below.refl _ _⟩
 case round =>
  obtain ⟨j, hj, rfl, HB⟩ := hrel
  by_cases hlt : j < tn
  ·obtain ⟨x, hx⟩ : ∃ x, c.lt[j]? = some x := ⟨_, List.getElem?_eq_getElem (by rw [HEN.out]; exact hlt)⟩
   have HC1 := hd9 (HC.out.below HB.out); obtain ⟨g, off, hA, hgl, y0, y1, y2, y3, y4⟩ := rd_lt HC1.out.inn.hlt j x hx; obtain ⟨g', off', hA', hgl', z0, z1, z2, z3, z4⟩ := rd_lt (HR.out.grow HB.out) j x hx; have hgw : g < wr.heap.size := hgl; have hgw' : g' < wr.heap.size := hgl'; have hji : (j : Int) < tn := by omega
   have hk := HC1.out.box; obtain ⟨q0, q1, q2, q3, q4, q5, q6, q7, q8, q9, ql⟩ := cx31 hk; rw [hA] at q9; subst hA'; clear hk hx hA hgl hgl'; go_wp2
   refine wp_region_havoc [(0,false),(1,false),(2,false),(3,false),(4,false),(5,false),(6,false),(7,false),(8,false),(9,false)] [] (fun _ _ => False) (by kernel_rfl) (by kernel_rfl) (fun _ _ _ _ h => h.elim) ?_
   (apply hav_same (by exact ho rfl) (by kernel_rfl); (focus (intro wv hgv _; have hcv := cvB hgv; (try go_simp); try rfl; done)); simp only [Act.put, qA9, qB9, qC9])
   iterate 9 (apply hav_same (by exact ho rfl) (by kernel_rfl); (focus (intro wv hgv _; have hcv := cvB hgv; (try go_simp); try rfl; done)); simp only [Act.put, qA9, qB9, qC9])
   refine hav_end (fun wd hgz _ => ?_)
   simp only [List.filterMap]; have HB2 : Hid (Below K.heap.size K wd) := HB.out.trans (Below.mono hgz HB.out.size); clear hgz y0 y1 y2 y3 y4 z0 z1 z2 z3 z4; clear q0 q1 q2 q3 q4 q5 q6 q7 q8 q9 ql; go_wp2; go_roundw
   case rel => exact ⟨j + 1, by omega, by go_num, HB2⟩
   case measure => simp [intOf]; omega
  ·obtain rfl : tn = j := by omega
   go_wp2; exact (HEND.out wr HB.out).go.go
theorem mr15 (hC : MrIn w0 K b5 fa fl fc la ll lc wa wn wc ta tn tc c) (hPL : Plans c n1 n2 P1 P2) (hg1 : Blk K g1 3 (intsA P1)) (hg2 : Blk K g2 3 (intsA P2)) (hne : g1 ≠ g2) (hw : w0.heap.size <= g1 ∧ w0.heap.size <= g2) (h1 : RdG wgI 4 K K.heap.size A1 c.wg) (h2 : RdG ltI 5 K K.heap.size A2 c.lt) : WR1 15 w0 (.pointer (some ⟨b5, 0, none⟩)) (.slice A1 wn c1) (.slice A2 tn c2) (.slice (some ⟨g1, 0, none⟩) tn tn) (.slice (some ⟨g2, 0, none⟩) tn tn) K := by
 unfold WR1 WG
 intros
 have ht5 := hC.t5; have hw3 := hC.w3
 have HEND : Hid (∀ wz, Below K.heap.size K wz -> WR1 16 w0 (.pointer (some ⟨b5, 0, none⟩)) (.slice A1 wn c1) (.slice A2 tn c2) (.slice (some ⟨g1, 0, none⟩) tn tn) (.slice (some ⟨g2, 0, none⟩) tn tn) wz) := fun wz hb => mr16 (hC.below hb) hPL (hg1.below hb hg1.lt) (hg2.below hb hg2.lt) hne hw (h2.grow hb)
 have HEN : Hid (c.wg.length = wn) := hC.hP.ewn; have HC := hd9 hC; have HR := hd9 h1; clear hC hPL hg1 hg2 hne hw h1 h2
 conv => arg 2; whnf
 conv => arg 2; arg 2; change mrK 16
 go_wp2
 go_loopw [252] (fun i wr => ∃ j : Nat, j <= wn ∧ i = .int .i64 j ∧ Hid (Below K.heap.size K wr)) (fun i _ => wn - (intOf i).toNat)
 case atStart => exact ⟨0, Nat.zero_le _, rfl, Below.refl _ _⟩
 case round =>
  obtain ⟨j, hj, rfl, HB⟩ := hrel
  by_cases hlt : j < wn
  ·obtain ⟨x, hx⟩ : ∃ x, c.wg[j]? = some x := ⟨_, List.getElem?_eq_getElem (by rw [HEN.out]; exact hlt)⟩
   have HC1 := hd9 (HC.out.below HB.out); obtain ⟨g, off, hA, hgl, y0, y1, y2, y3⟩ := rd_wg HC1.out.inn.hwg j x hx; obtain ⟨g', off', hA', hgl', z0, z1, z2, z3⟩ := rd_wg (HR.out.grow HB.out) j x hx; have hgw : g < wr.heap.size := hgl; have hgw' : g' < wr.heap.size := hgl'; have hji : (j : Int) < wn := by omega
   have hk := HC1.out.box; obtain ⟨q0, q1, q2, q3, q4, q5, q6, q7, q8, q9, ql⟩ := cx31 hk; rw [hA] at q8; subst hA'; clear hk hx hA hgl hgl'; go_wp2
   refine wp_region_havoc [(0,false),(1,false),(2,false),(3,false),(4,false),(5,false),(6,false),(7,false),(8,false),(9,false)] [] (fun _ _ => False) (by kernel_rfl) (by kernel_rfl) (fun _ _ _ _ h => h.elim) ?_
   (apply hav_same (by exact ho rfl) (by kernel_rfl); (focus (intro wv hgv _; have hcv := cvB hgv; (try go_simp); try rfl; done)); simp only [Act.put, qA9, qB9, qC9])
   iterate 9 (apply hav_same (by exact ho rfl) (by kernel_rfl); (focus (intro wv hgv _; have hcv := cvB hgv; (try go_simp); try rfl; done)); simp only [Act.put, qA9, qB9, qC9])
   refine hav_end (fun wd hgz _ => ?_)
   simp only [List.filterMap]; have HB2 : Hid (Below K.heap.size K wd) := HB.out.trans (Below.mono hgz HB.out.size); clear hgz y0 y1 y2 y3 z0 z1 z2 z3; clear q0 q1 q2 q3 q4 q5 q6 q7 q8 q9 ql; go_wp2; go_roundw
   case rel => exact ⟨j + 1, by omega, by go_num, HB2⟩
   case measure => simp [intOf]; omega
  ·obtain rfl : wn = j := by omega
   go_wp2; exact (HEND.out wr HB.out).go.go
theorem Plans.u (h : Plans c n1 n2 P1 P2) (hv : openE c true = 0) : (onP (cartU c).tm (cartU c).wg ofMost (cartU c).lt (roomP (cartU c).wg)).1 = n1 ∧ (onP (cartU c).tm (cartU c).wg ofBest (cartU c).lt (roomP (cartU c).wg)).1 = n2 ∧ stayE (cartU c) = 0 := by
 obtain ⟨h1, h2, h3⟩ := cartU_all hv; exact ⟨h2.trans h.v1, h3.trans h.v2, h1⟩
theorem mr12 {w15 : Option Addr} {cu : Nat} (hC : MrIn w0 K b5 fa fl fc la ll lc wa wn wc ta tn tc c) (hU : CBox K b15 fa fl fc la ll lc w15 wn cu ta tn tc (cartU c)) (hPL : Plans c n1 n2 P1 P2) (hg1 : Blk K g1 3 (intsA P1)) (hg2 : Blk K g2 3 (intsA P2)) (hne : g1 ≠ g2) (hw : w0.heap.size <= g1 ∧ w0.heap.size <= g2) (h1 : RdG wgI 4 K K.heap.size A1 c.wg) (h2 : RdG ltI 5 K K.heap.size A2 c.lt) : WR2 12 w0 (.pointer (some ⟨b5, 0, none⟩)) (.pointer (some ⟨b15, 0, none⟩)) (.slice A1 wn c1) (.slice A2 tn c2) (.int .i64 n1) (.slice (some ⟨g1, 0, none⟩) tn tn) (.int .i64 0) (.int .i64 n2) (.slice (some ⟨g2, 0, none⟩) tn tn) (.int .i64 0) K := by
 unfold WR2 WG
 intros
 have HEND : Hid (∀ wz, Below K.heap.size K wz -> WR1 15 w0 (.pointer (some ⟨b5, 0, none⟩)) (.slice A1 wn c1) (.slice A2 tn c2) (.slice (some ⟨g1, 0, none⟩) tn tn) (.slice (some ⟨g2, 0, none⟩) tn tn) wz) := fun wz hb => mr15 (hC.below hb) hPL (hg1.below hb hg1.lt) (hg2.below hb hg2.lt) hne hw (h1.grow hb) (h2.grow hb)
 have HUU := hd9 (hPL.u hC.hv); obtain ⟨u, hu⟩ : ∃ u, cartU c = u := ⟨_, rfl⟩; rw [hu] at hU HUU; have HU := hd9 hU; clear hC hU hPL hg1 hg2 hne hw h1 h2 hu
 conv => arg 2; whnf
 conv => arg 2; arg 2; arg 2; arg 2; change mrK 15
 have hx := HU.out.box; obtain ⟨q0, q1, q2, q3, q4, q5, q6, q7, q8, q9, ql⟩ := cx31 hx; clear hx; go_wp2_with fail; refine (PMost_any (fa := fa) (fl := fl) (fc := fc) (la := la) (ll := ll) (lc := lc) (wa := w15) (wn := wn) (wc := cu) (ta := ta) (tn := tn) (tc := tc) (w := K) (c := u) HU.out.inn).mono ?_; rintro e v1 ⟨hb, (⟨h1, -⟩ | ⟨-, g3, rfl, -, -⟩)⟩
 ·exact absurd HUU.out.2.2 h1
 rw [HUU.out.1]; have HB1 : Hid (Below K.heap.size K v1) := hb; have HU1 := hd9 (HU.out.below hb); clear hb; clear q0 q1 q2 q3 q4 q5 q6 q7 q8 q9 ql; have hx := HU1.out.box; obtain ⟨q0, q1, q2, q3, q4, q5, q6, q7, q8, q9, ql⟩ := cx31 hx; clear hx; go_wp2_with fail; refine (PBest_any (fa := fa) (fl := fl) (fc := fc) (la := la) (ll := ll) (lc := lc) (wa := w15) (wn := wn) (wc := cu) (ta := ta) (tn := tn) (tc := tc) (w := v1) (c := u) HU1.out.inn).mono ?_; rintro e v2 ⟨hb, (⟨h1, -⟩ | ⟨-, g4, rfl, -, -⟩)⟩
 ·exact absurd HUU.out.2.2 h1
 rw [HUU.out.2.1]; have HB2 : Hid (Below K.heap.size K v2) := HB1.out.trans (hb.mono HB1.out.size); clear hb; clear q0 q1 q2 q3 q4 q5 q6 q7 q8 q9 ql; have hn1 : (n1 != n1) = false := by simp
 have hn2 : (n2 != n2) = false := by simp
 go_wp2; exact (HEND.out v2 HB2.out).go.go
end
end
end Go.Proofs.YtgmfhngcehkibaaGreat
namespace Go.HavG
open Go.RowKit
section
variable {R : Rel} {P : Program} {ops : Array Oper}
theorem wp_region_tabW {Q : Exit -> Act -> World -> Prop} (Φ : Nat -> (Nat -> Value) -> World -> Prop) (Ψ : Nat -> World -> Prop) (nw : List Nat) (sl : List (Option Nat)) {id : Nat} {a : Act} {w : World} (hm : P.follows .mixedOrders = true) (hok : tabSOk ops sl = true)
  (hsz : (sl.all fun d => match d with | some d => decide (d < a.tmps.size) | none => true) = true) (hst : ∀ i V w w', Φ i V w -> R.G w w' -> Φ i V w') (h0 : ∀ i, i < sl.length -> Ψ i { w with drawn := w.drawn + 1 })
  (hcg : ∀ i, i < sl.length -> ∀ V V' w, Φ i V w -> (∀ j, j = i ∨ ((Region.before ops).getD i 0).testBit j = true -> V j = V' j) -> Φ i V' w)
  (hnw : ∀ i ∈ nw, ∀ V w, Φ i V w -> bkV (V i) < w.heap.size)
  (hstep : ∀ i, i < sl.length -> ∀ o a' w', ops[i]? = some o -> Agree ops (List.range sl.length) a a' -> R.G w w' -> (∀ j, ((Region.before ops).getD i 0).testBit j = true -> j < sl.length -> Φ j (valV sl (slot a')) w') -> Ψ i w' ->
   stepOf P ops o a' w' (fun a'' w'' => ∃ v, a'' = a'.put o.dst v ∧ R.G w' w'' ∧ (∀ k, k < sl.length -> k ≠ i -> ((Region.before ops).getD i 0).testBit k = false -> Ψ k w' -> Ψ k w'') ∧ (∀ V, (∀ j, j ≠ i -> V j = valV sl (slot a') j) -> (o.dst ≠ none -> V i = v) -> Φ i V w'') ∧ (i ∈ nw -> o.dst ≠ none ∧ w'.heap.size <= bkV v)) Q)
  (hend : ∀ (f : Nat -> Value) w', R.G w w' -> (∀ i, i < sl.length -> Φ i (valV sl f) w') -> (∀ i j, i ∈ nw -> j ∈ nw -> i ≠ j -> i < sl.length -> j < sl.length -> bkV (valV sl f i) ≠ bkV (valV sl f j)) -> wpList P ops Q [] (puts f (sl.filterMap fun d => d) a) w') : (Code.region id ops true).wp P Q a w := by
 simp only [tabSOk, Bool.and_eq_true] at hok; obtain ⟨k1, k2, k3⟩ := hok
 have hdst : ∀ i o, i < sl.length -> ops[i]? = some o -> sl[i]? = some o.dst := fun i o hi ho => by
  have := List.all_eq_true.1 k2 i (List.mem_range.2 hi); rw [ho] at this
  simpa using this
 have hinj : ∀ i k d, i < sl.length -> k < sl.length -> sl[i]? = some (some d) -> sl[k]? = some (some d) -> i = k := fun i k d hi hk h1 h2 => by
  have := List.all_eq_true.1 (List.all_eq_true.1 k3 i (List.mem_range.2 hi)) k (List.mem_range.2 hk); rw [h1, h2] at this
  simpa using this
 refine wp_region_gen (P := P) (fun rem a' w' => R.G w w' ∧ a'.tmps.size = a.tmps.size ∧ (∀ i ∈ rem, i < sl.length) ∧ (∀ k, k < sl.length -> k ∉ rem -> ∀ i ∈ rem, ((Region.before ops).getD k 0).testBit i = false) ∧ (∀ i, i < sl.length -> i ∉ rem -> Φ i (valV sl (slot a')) w') ∧ (∀ i ∈ rem, Ψ i w') ∧
   ∀ i j, i ∈ nw -> j ∈ nw -> i ≠ j -> i < sl.length -> j < sl.length -> i ∉ rem -> j ∉ rem -> bkV (valV sl (slot a') i) ≠ bkV (valV sl (slot a') j)) (List.range sl.length) [] hm k1
  ⟨R.drew w, rfl, fun i hi => List.mem_range.1 hi, fun k hk hn => absurd (List.mem_range.2 hk) hn, fun i hi hn => absurd (List.mem_range.2 hi) hn, fun i hi => h0 i (List.mem_range.1 hi), fun i j _ _ _ hi _ hn => absurd (List.mem_range.2 hi) hn⟩ ?_ ?_
 ·rintro rem i o a' w' hmem hnd ho hag hdep ⟨hg, hs, hlt, hdp, hf, hpsi, hap⟩; have hil := hlt i hmem; have hd := hdst i o hil ho
  have h := hstep i hil o a' w' ho hag hg (fun j hj hjl => hf j hjl (fun hm => by have := hdep j hm; rw [this] at hj; cases hj)) (hpsi i hmem)
  have next : ∀ a'' w'', (∃ v, a'' = a'.put o.dst v ∧ R.G w' w'' ∧ (∀ k, k < sl.length -> k ≠ i -> ((Region.before ops).getD i 0).testBit k = false -> Ψ k w' -> Ψ k w'') ∧ (∀ V, (∀ j, j ≠ i -> V j = valV sl (slot a') j) -> (o.dst ≠ none -> V i = v) -> Φ i V w'') ∧ (i ∈ nw -> o.dst ≠ none ∧ w'.heap.size <= bkV v)) ->
    ∃ v, a'' = a'.put o.dst v ∧ R.G w w'' ∧ a''.tmps.size = a.tmps.size ∧ (∀ k ∈ rem.erase i, k < sl.length) ∧ (∀ k, k < sl.length -> k ∉ rem.erase i -> ∀ j ∈ rem.erase i, ((Region.before ops).getD k 0).testBit j = false) ∧ (∀ k, k < sl.length -> k ∉ rem.erase i -> Φ k (valV sl (slot a'')) w'') ∧ (∀ k ∈ rem.erase i, Ψ k w'') ∧
    ∀ k j, k ∈ nw -> j ∈ nw -> k ≠ j -> k < sl.length -> j < sl.length -> k ∉ rem.erase i -> j ∉ rem.erase i -> bkV (valV sl (slot a'') k) ≠ bkV (valV sl (slot a'') j) := by
   rintro a'' w'' ⟨v, rfl, hg2, hps2, hphi, hnew⟩
   have was : ∀ k, k ≠ i -> k ∉ rem.erase i -> k ∉ rem := fun k e hk hm => hk (hnd.mem_erase_iff.2 ⟨e, hm⟩)
   have keep : ∀ j, j ≠ i -> valV sl (slot (a'.put o.dst v)) j = valV sl (slot a') j := fun j e => by
    unfold valV
    cases hj : sl[j]? with
    | none => rfl
    | some dj =>
     cases dj with
     | none => rfl
     | some d =>
      show slot (a'.put o.dst v) d = slot a' d
      exact slot_put _ (fun he => e (hinj j i d (List.getElem?_eq_some_iff.1 hj).1 hil hj (by rw [hd, he])))
   have self : o.dst ≠ none -> valV sl (slot (a'.put o.dst v)) i = v := fun hn => by
    unfold valV; rw [hd]
    cases hod : o.dst with
    | none => exact absurd hod hn
    | some d =>
     rw [hod] at hd
     exact slot_self v (by
      rw [hs]; have := List.all_eq_true.1 hsz (some d) (List.mem_of_getElem? hd)
      simpa using this)
   have dif : ∀ k, k ∈ nw -> i ∈ nw -> k ≠ i -> k < sl.length -> k ∉ rem.erase i -> bkV (valV sl (slot a') k) ≠ bkV v := fun k hk hi e hkl hr he => by
    have h1 := hnw k hk _ _ (hf k hkl (was k e hr)); have h2 := (hnew hi).2
    omega
   refine ⟨v, rfl, R.trans hg hg2, ?_, fun k hk => hlt k (List.mem_of_mem_erase hk), fun k hkl hk j hj => ?_, fun k hkl hk => ?_, fun k hk => hps2 k (hlt k (List.mem_of_mem_erase hk)) (fun e => (hnd.mem_erase_iff.1 hk).1 e) (hdep k (List.mem_of_mem_erase hk)) (hpsi k (List.mem_of_mem_erase hk)), fun k j hkn hjn hkj hkl hjl hk hj => ?_⟩
   ·cases hod : o.dst with
    | none => exact hs
    | some d => simp [Act.put, hs]
   ·by_cases e : k = i
    ·subst e; exact hdep j (List.mem_of_mem_erase hj)
    ·exact hdp k hkl (was k e hk) j (List.mem_of_mem_erase hj)
   ·by_cases e : k = i
    ·subst e
     exact hphi _ (fun j hj => keep j hj) self
    ·refine hcg k hkl _ _ _ (hst k _ _ _ (hf k hkl (was k e hk)) hg2) (fun j hj => (keep j (fun ej => ?_)).symm)
     subst ej; rcases hj with rfl | hj
     ·exact e rfl
     ·have := hdp k hkl (was k e hk) j hmem; rw [this] at hj; cases hj
   ·by_cases e1 : k = i
    ·subst e1; rw [self (hnew hkn).1, keep j (Ne.symm hkj)]; exact (dif j hjn hkn (Ne.symm hkj) hjl hj).symm
    ·by_cases e2 : j = i
     ·subst e2; rw [self (hnew hjn).1, keep k e1]; exact dif k hkn hjn e1 hkl hk
     ·rw [keep k e1, keep j e2]; exact hap k j hkn hjn hkj hkl hjl (was k e1 hk) (was j e2 hj)
  unfold stepOf at h ⊢
  split
  ·rename_i hw
   rw [if_pos hw] at h; exact Oper.wp_mono next h
  ·rename_i hw
   rw [if_neg hw] at h; exact next _ _ h
 ·rintro a' w' hag ⟨hg, hs, _, _, hf, _, hap⟩
  have he := agree_puts hag (sl.filterMap fun d => d) (by
   rw [List.all_eq_true]; intro i hi; have hil := List.mem_range.1 hi
   cases ho : ops[i]? with
   | none => rfl
   | some o =>
    have hd := hdst i o hil ho
    cases hod : o.dst with
    | none => simp [hod]
    | some d =>
     simp only [hod]; rw [hod] at hd
     simpa using List.mem_of_getElem? hd)
  rw [he]
  exact hend (slot a') w' hg (fun i hi => hf i hi (by simp)) (fun i j hi hj hij hil hjl => hap i j hi hj hij hil hjl (by simp) (by simp))
theorem wp_region_tabX {Q : Exit -> Act -> World -> Prop} (Φ : Nat -> (Nat -> Value) -> World -> Prop) (Ψ : Nat -> World -> Prop) (nw : List Nat) (sl : List (Option Nat)) {id : Nat} {a : Act} {w : World} (hm : P.follows .mixedOrders = true) (hok : tabSOk ops sl = true)
  (hsz : (sl.all fun d => match d with | some d => decide (d < a.tmps.size) | none => true) = true) (h0 : ∀ i, i < sl.length -> Ψ i { w with drawn := w.drawn + 1 })
  (hcg : ∀ i, i < sl.length -> ∀ V V' w, Φ i V w -> (∀ j, j = i ∨ ((Region.before ops).getD i 0).testBit j = true -> V j = V' j) -> Φ i V' w)
  (hnw : ∀ i ∈ nw, ∀ V w, Φ i V w -> bkV (V i) < w.heap.size)
  (hstep : ∀ i, i < sl.length -> ∀ o a' w', ops[i]? = some o -> Agree ops (List.range sl.length) a a' -> R.G w w' -> (∀ j, ((Region.before ops).getD i 0).testBit j = true -> j < sl.length -> Φ j (valV sl (slot a')) w') -> Ψ i w' ->
   stepOf P ops o a' w' (fun a'' w'' => ∃ v, a'' = a'.put o.dst v ∧ R.G w' w'' ∧ (∀ k V, k < sl.length -> k ≠ i -> Φ k V w' -> Φ k V w'') ∧ (∀ k, k < sl.length -> k ≠ i -> ((Region.before ops).getD i 0).testBit k = false -> Ψ k w' -> Ψ k w'') ∧ (∀ V, (∀ j, j ≠ i -> V j = valV sl (slot a') j) -> (o.dst ≠ none -> V i = v) -> Φ i V w'') ∧ (i ∈ nw -> o.dst ≠ none ∧ w'.heap.size <= bkV v)) Q)
  (hend : ∀ (f : Nat -> Value) w', R.G w w' -> (∀ i, i < sl.length -> Φ i (valV sl f) w') -> (∀ i j, i ∈ nw -> j ∈ nw -> i ≠ j -> i < sl.length -> j < sl.length -> bkV (valV sl f i) ≠ bkV (valV sl f j)) -> wpList P ops Q [] (puts f (sl.filterMap fun d => d) a) w') : (Code.region id ops true).wp P Q a w := by
 simp only [tabSOk, Bool.and_eq_true] at hok; obtain ⟨k1, k2, k3⟩ := hok
 have hdst : ∀ i o, i < sl.length -> ops[i]? = some o -> sl[i]? = some o.dst := fun i o hi ho => by
  have := List.all_eq_true.1 k2 i (List.mem_range.2 hi); rw [ho] at this
  simpa using this
 have hinj : ∀ i k d, i < sl.length -> k < sl.length -> sl[i]? = some (some d) -> sl[k]? = some (some d) -> i = k := fun i k d hi hk h1 h2 => by
  have := List.all_eq_true.1 (List.all_eq_true.1 k3 i (List.mem_range.2 hi)) k (List.mem_range.2 hk); rw [h1, h2] at this
  simpa using this
 refine wp_region_gen (P := P) (fun rem a' w' => R.G w w' ∧ a'.tmps.size = a.tmps.size ∧ (∀ i ∈ rem, i < sl.length) ∧ (∀ k, k < sl.length -> k ∉ rem -> ∀ i ∈ rem, ((Region.before ops).getD k 0).testBit i = false) ∧ (∀ i, i < sl.length -> i ∉ rem -> Φ i (valV sl (slot a')) w') ∧ (∀ i ∈ rem, Ψ i w') ∧
   ∀ i j, i ∈ nw -> j ∈ nw -> i ≠ j -> i < sl.length -> j < sl.length -> i ∉ rem -> j ∉ rem -> bkV (valV sl (slot a') i) ≠ bkV (valV sl (slot a') j)) (List.range sl.length) [] hm k1
  ⟨R.drew w, rfl, fun i hi => List.mem_range.1 hi, fun k hk hn => absurd (List.mem_range.2 hk) hn, fun i hi hn => absurd (List.mem_range.2 hi) hn, fun i hi => h0 i (List.mem_range.1 hi), fun i j _ _ _ hi _ hn => absurd (List.mem_range.2 hi) hn⟩ ?_ ?_
 ·rintro rem i o a' w' hmem hnd ho hag hdep ⟨hg, hs, hlt, hdp, hf, hpsi, hap⟩; have hil := hlt i hmem; have hd := hdst i o hil ho
  have h := hstep i hil o a' w' ho hag hg (fun j hj hjl => hf j hjl (fun hm => by have := hdep j hm; rw [this] at hj; cases hj)) (hpsi i hmem)
  have next : ∀ a'' w'', (∃ v, a'' = a'.put o.dst v ∧ R.G w' w'' ∧ (∀ k V, k < sl.length -> k ≠ i -> Φ k V w' -> Φ k V w'') ∧ (∀ k, k < sl.length -> k ≠ i -> ((Region.before ops).getD i 0).testBit k = false -> Ψ k w' -> Ψ k w'') ∧ (∀ V, (∀ j, j ≠ i -> V j = valV sl (slot a') j) -> (o.dst ≠ none -> V i = v) -> Φ i V w'') ∧ (i ∈ nw -> o.dst ≠ none ∧ w'.heap.size <= bkV v)) ->
    ∃ v, a'' = a'.put o.dst v ∧ R.G w w'' ∧ a''.tmps.size = a.tmps.size ∧ (∀ k ∈ rem.erase i, k < sl.length) ∧ (∀ k, k < sl.length -> k ∉ rem.erase i -> ∀ j ∈ rem.erase i, ((Region.before ops).getD k 0).testBit j = false) ∧ (∀ k, k < sl.length -> k ∉ rem.erase i -> Φ k (valV sl (slot a'')) w'') ∧ (∀ k ∈ rem.erase i, Ψ k w'') ∧
    ∀ k j, k ∈ nw -> j ∈ nw -> k ≠ j -> k < sl.length -> j < sl.length -> k ∉ rem.erase i -> j ∉ rem.erase i -> bkV (valV sl (slot a'') k) ≠ bkV (valV sl (slot a'') j) := by
   rintro a'' w'' ⟨v, rfl, hg2, hkp, hps2, hphi, hnew⟩
   have was : ∀ k, k ≠ i -> k ∉ rem.erase i -> k ∉ rem := fun k e hk hm => hk (hnd.mem_erase_iff.2 ⟨e, hm⟩)
   have keep : ∀ j, j ≠ i -> valV sl (slot (a'.put o.dst v)) j = valV sl (slot a') j := fun j e => by
    unfold valV
    cases hj : sl[j]? with
    | none => rfl
    | some dj =>
     cases dj with
     | none => rfl
     | some d =>
      show slot (a'.put o.dst v) d = slot a' d
      exact slot_put _ (fun he => e (hinj j i d (List.getElem?_eq_some_iff.1 hj).1 hil hj (by rw [hd, he])))
   have self : o.dst ≠ none -> valV sl (slot (a'.put o.dst v)) i = v := fun hn => by
    unfold valV; rw [hd]
    cases hod : o.dst with
    | none => exact absurd hod hn
    | some d =>
     rw [hod] at hd
     exact slot_self v (by
      rw [hs]; have := List.all_eq_true.1 hsz (some d) (List.mem_of_getElem? hd)
      simpa using this)
   have dif : ∀ k, k ∈ nw -> i ∈ nw -> k ≠ i -> k < sl.length -> k ∉ rem.erase i -> bkV (valV sl (slot a') k) ≠ bkV v := fun k hk hi e hkl hr he => by
    have h1 := hnw k hk _ _ (hf k hkl (was k e hr)); have h2 := (hnew hi).2
    omega
   refine ⟨v, rfl, R.trans hg hg2, ?_, fun k hk => hlt k (List.mem_of_mem_erase hk), fun k hkl hk j hj => ?_, fun k hkl hk => ?_, fun k hk => hps2 k (hlt k (List.mem_of_mem_erase hk)) (fun e => (hnd.mem_erase_iff.1 hk).1 e) (hdep k (List.mem_of_mem_erase hk)) (hpsi k (List.mem_of_mem_erase hk)), fun k j hkn hjn hkj hkl hjl hk hj => ?_⟩
   ·cases hod : o.dst with
    | none => exact hs
    | some d => simp [Act.put, hs]
   ·by_cases e : k = i
    ·subst e; exact hdep j (List.mem_of_mem_erase hj)
    ·exact hdp k hkl (was k e hk) j (List.mem_of_mem_erase hj)
   ·by_cases e : k = i
    ·subst e
     exact hphi _ (fun j hj => keep j hj) self
    ·refine hcg k hkl _ _ _ (hkp k _ hkl e (hf k hkl (was k e hk))) (fun j hj => (keep j (fun ej => ?_)).symm)
     subst ej; rcases hj with rfl | hj
     ·exact e rfl
     ·have := hdp k hkl (was k e hk) j hmem; rw [this] at hj; cases hj
   ·by_cases e1 : k = i
    ·subst e1; rw [self (hnew hkn).1, keep j (Ne.symm hkj)]; exact (dif j hjn hkn (Ne.symm hkj) hjl hj).symm
    ·by_cases e2 : j = i
     ·subst e2; rw [self (hnew hjn).1, keep k e1]; exact dif k hkn hjn e1 hkl hk
     ·rw [keep k e1, keep j e2]; exact hap k j hkn hjn hkj hkl hjl (was k e1 hk) (was j e2 hj)
  unfold stepOf at h ⊢
  split
  ·rename_i hw
   rw [if_pos hw] at h; exact Oper.wp_mono next h
  ·rename_i hw
   rw [if_neg hw] at h; exact next _ _ h
 ·rintro a' w' hag ⟨hg, hs, _, _, hf, _, hap⟩
  have he := agree_puts hag (sl.filterMap fun d => d) (by
   rw [List.all_eq_true]; intro i hi; have hil := List.mem_range.1 hi
   cases ho : ops[i]? with
   | none => rfl
   | some o =>
    have hd := hdst i o hil ho
    cases hod : o.dst with
    | none => simp [hod]
    | some d =>
     simp only [hod]; rw [hod] at hd
     simpa using List.mem_of_getElem? hd)
  rw [he]
  exact hend (slot a') w' hg (fun i hi => hf i hi (by simp)) (fun i j hi hj hij hil hjl => hap i j hi hj hij hil hjl (by simp) (by simp))
theorem tabW_val {o : Oper} {a : Act} {w : World} {i : Nat} {nw : List Nat} {Φ : (Nat -> Value) -> World -> Prop} {X : (Nat -> Value) -> Prop} {K : World -> Prop} {Q : Exit -> Act -> World -> Prop} (hg : o.guard = none) (hd : o.dst ≠ none)
  (h : ∃ v w', (execOp a.eval o).run P w = .ok (.value v) w' ∧ R.G w w' ∧ K w' ∧ (∀ V, X V -> V i = v -> Φ V w') ∧ (i ∈ nw -> w.heap.size <= bkV v)) :
  stepOf P ops o a w (fun a'' w'' => ∃ v, a'' = a.put o.dst v ∧ R.G w w'' ∧ K w'' ∧ (∀ V, X V -> (o.dst ≠ none -> V i = v) -> Φ V w'') ∧ (i ∈ nw -> o.dst ≠ none ∧ w.heap.size <= bkV v)) Q := by
 obtain ⟨v, w', h1, h2, h5, h3, h4⟩ := h; unfold stepOf Oper.wp; rw [if_pos (by unfold Region.wanted; rw [hg]), h1]
 exact ⟨v, rfl, h2, h5, fun V hV hv => h3 V hV (hv hd), fun hi => ⟨hd, h4 hi⟩⟩
theorem tabX_val {o : Oper} {a : Act} {w : World} {i : Nat} {nw : List Nat} {Φ : (Nat -> Value) -> World -> Prop} {X : (Nat -> Value) -> Prop} {L K : World -> Prop} {Q : Exit -> Act -> World -> Prop} (hg : o.guard = none) (hd : o.dst ≠ none)
  (h : ∃ v w', (execOp a.eval o).run P w = .ok (.value v) w' ∧ R.G w w' ∧ L w' ∧ K w' ∧ (∀ V, X V -> V i = v -> Φ V w') ∧ (i ∈ nw -> w.heap.size <= bkV v)) :
  stepOf P ops o a w (fun a'' w'' => ∃ v, a'' = a.put o.dst v ∧ R.G w w'' ∧ L w'' ∧ K w'' ∧ (∀ V, X V -> (o.dst ≠ none -> V i = v) -> Φ V w'') ∧ (i ∈ nw -> o.dst ≠ none ∧ w.heap.size <= bkV v)) Q := by
 obtain ⟨v, w', h1, h2, h6, h5, h3, h4⟩ := h; unfold stepOf Oper.wp; rw [if_pos (by unfold Region.wanted; rw [hg]), h1]
 exact ⟨v, rfl, h2, h6, h5, fun V hV hv => h3 V hV (hv hd), fun hi => ⟨hd, h4 hi⟩⟩
theorem tabX_store {o : Oper} {a : Act} {w : World} {i : Nat} {nw : List Nat} {Φ : (Nat -> Value) -> World -> Prop} {X : (Nat -> Value) -> Prop} {L K : World -> Prop} {Q : Exit -> Act -> World -> Prop} (hg : o.guard = none) (hd : o.dst = none) (hi : i ∉ nw)
  (h : ∃ w', (execOp a.eval o).run P w = .ok .skip w' ∧ R.G w w' ∧ L w' ∧ K w' ∧ (∀ V, X V -> Φ V w')) :
  stepOf P ops o a w (fun a'' w'' => ∃ v, a'' = a.put o.dst v ∧ R.G w w'' ∧ L w'' ∧ K w'' ∧ (∀ V, X V -> (o.dst ≠ none -> V i = v) -> Φ V w'') ∧ (i ∈ nw -> o.dst ≠ none ∧ w.heap.size <= bkV v)) Q := by
 obtain ⟨w', h1, h2, h6, h5, h3⟩ := h; unfold stepOf Oper.wp; rw [if_pos (by unfold Region.wanted; rw [hg]), h1]
 exact ⟨undef, by rw [hd], h2, h6, h5, fun V hV _ => h3 V hV, fun h => absurd h hi⟩
end
end Go.HavG
