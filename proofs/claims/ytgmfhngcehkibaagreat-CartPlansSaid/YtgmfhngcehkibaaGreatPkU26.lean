import Derived.Test.YtgmfhngcehkibaaGreatPkU25
set_option maxRecDepth 100000
set_option maxHeartbeats 6400000
namespace Go.Proofs.YtgmfhngcehkibaaGreat
open Go.RowKit Go.Hav Go.Shelf Go.Sq
attribute [local go_sem] Oper.semAt_some
def iV (x : Int) : Value := .int .i64 x
theorem CtIn.more {w : World} {B B' : Nat} {fa la wa ta : Option Addr} {fl ll wn tn : Nat} {c : ICart} (h : CtIn w B fa fl la ll wa wn ta tn c) (hB : B ≤ B') : CtIn w B' fa fl la ll wa wn ta tn c :=
 { h with riv := { h.riv with hfr := h.riv.hfr.more hB, hlk := h.riv.hlk.more hB }, hwg := h.hwg.more hB, hlt := h.hlt.more hB }
theorem plansN_len {tm : IWag → Nat} {ws : List IWag} {on : Rm → List (List Int)} {l : ILot} {R : Rm} {K : Nat} (h : ∀ R, (on R).length ≤ K) : ∀ n, (plansN tm ws on l R n).length ≤ n * K
 | 0 => by simp [plansN]
 | n + 1 => by
  rw [plansN, List.length_append, Nat.succ_mul]; have ih := plansN_len (tm := tm) (ws := ws) (l := l) (R := R) h n
  split
  ·rw [List.length_map]; have := h (takeR R n l.bales); omega
  ·simp; omega
theorem plansL_len {tm : IWag → Nat} {ws : List IWag} (h3 : ws.length ≤ 3) : ∀ (ls : List ILot) (R : Rm), (plansL tm ws ls R).length ≤ 4 ^ ls.length
 | [], R => by simp [plansL]
 | l :: ls, R => by
  have ih := plansL_len (tm := tm) h3 ls; rw [plansL, List.length_append, List.length_map, List.length_cons, Nat.pow_succ]; have h1 := ih R; have h2 := plansN_len (tm := tm) (ws := ws) (l := l) (R := R) ih ws.length; have h4 : ws.length * 4 ^ ls.length ≤ 3 * 4 ^ ls.length := Nat.mul_le_mul h3 (Nat.le_refl _)
  omega
def PlansR (B : Nat) (Ls Res : List (List Int)) (w : World) (e : Ending) (w' : World) : Prop :=
 ∃ v' N xs, e = .returned v' ∧ w'.ownsRow B 32 1 v' N xs ∧ Rows iV 3 w' xs (Ls ++ Res) ∧ xs.length = N ∧ KT B 32 w w'
section
variable {fa la wa ta : Option Addr} {fl fc ll lc wn wc tn tc : Nat} {c : ICart}
variable {At bA : Option Addr} {ct n bc : Nat}
theorem rplans_zero (B : Nat) (beg : List Int) (N : Nat) (v : Value) (xs : List Value) (Ls : List (List Int)) (w : World) (hB : B ≤ w.heap.size) (hn : beg.length = n) (hbc : n ≤ bc) (hk : n = tn) (hR : RowN iV 3 w bA beg) (hO : w.ownsRow B 32 1 v N xs) (hX : Rows iV 3 w xs Ls) (hN : N + 1 ≤ 100000) :
  Calls Tryz.prog 74 #[(.agg #[.int .i64 c.riv.depth.lo, .int .i64 c.riv.depth.hi, .int .i64 c.riv.fall.lo, .int .i64 c.riv.fall.hi, .int .i64 c.riv.days, .slice fa fl fc, .slice la ll lc, .int .i64 c.draws, .slice wa wn wc, .slice ta tn tc]), .slice At wn ct, .slice bA n bc, v] w (PlansR B Ls [beg] w) := by
 have HR := Lib.hid hR; have HX := Lib.hid hX; have HO := Lib.hid hO; have HN := Lib.hid hn; clear hR hX hO hn; subst hk; obtain ⟨i0, hi, hz0, hz1, hz2⟩ := info_parts Tryz.infoE47; have HI := Lib.hid hi; have HI0 := Lib.hid hz0; have HI1 := Lib.hid hz1; have HI2 := Lib.hid hz2; clear hi hz0 hz1 hz2; obtain ⟨W, hW⟩ : ∃ W, W = w.alloc (.cells #[.int .i64 c.riv.depth.lo, .int .i64 c.riv.depth.hi, .int .i64 c.riv.fall.lo, .int .i64 c.riv.fall.hi, .int .i64 c.riv.days, .slice fa fl fc, .slice la ll lc, .int .i64 c.draws, .slice wa wn wc, .slice ta n tc] 31) := ⟨_, rfl⟩; obtain ⟨b4, hb4⟩ : ∃ b, b = w.heap.size := ⟨_, rfl⟩; have HBW : Hid (Below w.heap.size w W) := by rw [hW]; exact (Below.refl _ _).alloc (Nat.le_refl _) _
 have HK : Hid (Blk W b4 31 #[.int .i64 c.riv.depth.lo, .int .i64 c.riv.depth.hi, .int .i64 c.riv.fall.lo, .int .i64 c.riv.fall.hi, .int .i64 c.riv.days, .slice fa fl fc, .slice la ll lc, .int .i64 c.draws, .slice wa wn wc, .slice ta n tc]) := by rw [hW, hb4]; exact Blk.new w 31 _
 have HBA : Hid (Below W.heap.size W (W.alloc (.cells #[.slice bA n bc] 32))) := (Below.refl _ _).alloc (Nat.le_refl _) _; have HOW := Lib.hid (own_below HO.out HBW.out); have HOWN := Lib.hid (own_below HOW.out HBA.out); have hBW : B ≤ W.heap.size := Nat.le_trans hB HBW.out.size; have hB1 : B ≤ (W.alloc (.cells #[.slice bA n bc] 32)).heap.size := by simp; omega
 have hx := HK.out; obtain ⟨q0, q1, q2, q3, q4, q5, q6, q7, q8, q9, ql⟩ := cx31 hx; clear hx
 go_enter Tryz.func74, Tryz.ntmps74
 go_upto_region 1 with (fail); rw [← hW, ← hb4]; clear hW hb4
 go_wp2_with (at_builtin; refine wpList_append_own _ rfl _ _ 66 rfl B 32 i0 _ 1 24 Tryz.underlying66 HI.out HI0.out HI1.out HI2.out rfl (by decide) _ _ _ rfl HOWN.out ⟨W.heap.size, 0, none⟩ 1 1 [.slice bA n bc] rfl rfl (news_block (Blk.new W 32 _)) (by simp [Value.oneCell']) (by unfold maxLen; omega) (by omega) hB1 ?_)
 intro v' w5 hown5 hgrow5 _; have HO5 := Lib.hid hown5; have HG5 := Lib.hid (KT.own hB1 HOWN.out hgrow5); clear hown5 hgrow5; clear q0 q1 q2 q3 q4 q5 q6 q7 q8 q9 ql; go_wp2; go_ret
 have hk : KT B 32 w w5 := ((KT.below hB HBW.out).trans (KT.below hBW HBA.out)).trans HG5.out; refine ⟨v', N + 1, xs ++ [.slice bA n bc], rfl, HO5.out, ?_, by have := HO5.out.1; omega, hk⟩
 have h := (HX.out.kt hk (by decide)).snoc (c := bc) (by rw [HN.out]; exact hbc) (HR.out.kt hk (by decide))
 rw [HN.out] at h; exact h
def preP (c : ICart) (beg : List Int) : Nat → List (List Int)
 | 0 => []
 | j + 1 => onAll c.tm c.wg c.lt beg j
theorem preP_next {c : ICart} {beg : List Int} {j : Nat} :
  preP c beg (j + 1) = preP c beg j ++ (if ruleR c.tm c.wg c.lt (beg ++ [(j : Int) - 1]) beg.length = 0 then (plansL c.tm c.wg (c.lt.drop (beg.length + 1)) (roomB c.wg c.lt (beg ++ [(j : Int) - 1]) (beg.length + 1))).map ((beg ++ [(j : Int) - 1]) ++ ·) else []) := by
 cases j with
 | zero =>
  have e2 : (beg ++ [((0 : Nat) : Int) - 1])[beg.length]? = some (-1) := by simp
  rw [ruleR_neg e2 (by omega), if_pos rfl, roomB_neg e2 (by omega), roomB_append _ (Nat.le_refl _)]
  rfl
 | succ j =>
  show onAll c.tm c.wg c.lt beg (j + 1) = onAll c.tm c.wg c.lt beg j ++ _; rw [show (((j + 1 : Nat) : Int) - 1) = (j : Int) by omega]
  rfl
theorem meas_lt {m j : Nat} {q : Int} (h : (j : Int) - 1 = q) (hl : j < m + 1) : m + 1 - (q + 1 + 1).toNat < m + 1 - (q + 1).toNat := by omega
theorem rplans_any (hok : okC c = true) (B : Nat) : ∀ (k : Nat) (beg : List Int) (bA : Option Addr) (n bc N : Nat) (v : Value) (xs : List Value) (Ls : List (List Int)) (w : World), B ≤ w.heap.size → CtIn w B fa fl la ll wa wn ta tn c → RdG inI 1 w B At (timesL c) →
  beg.length = n → (∀ p ∈ beg, p = -1 ∨ (0 ≤ p ∧ p < c.wg.length)) → n ≤ bc → n + k = tn → RowN iV 3 w bA beg → w.ownsRow B 32 1 v N xs → Rows iV 3 w xs Ls → xs.length = N → N + 4 ^ k ≤ 100000 →
  Calls Tryz.prog 74 #[(.agg #[.int .i64 c.riv.depth.lo, .int .i64 c.riv.depth.hi, .int .i64 c.riv.fall.lo, .int .i64 c.riv.fall.hi, .int .i64 c.riv.days, .slice fa fl fc, .slice la ll lc, .int .i64 c.draws, .slice wa wn wc, .slice ta tn tc]), .slice At wn ct, .slice bA n bc, v] w (PlansR B Ls ((plansL c.tm c.wg (c.lt.drop n) (roomB c.wg c.lt beg n)).map (beg ++ ·)) w) := by
 intro k
 induction k with
 | zero =>
  intro beg bA n bc N v xs Ls w hB hP hT hn hbp hbc hk hR hO hX _ hN; rw [List.drop_of_length_le (by have := hP.etn; omega), show (plansL c.tm c.wg [] (roomB c.wg c.lt beg n)).map (beg ++ ·) = [beg] by simp [plansL]]
  exact rplans_zero B beg N v xs Ls w hB hn hbc (by omega) hR hO hX (by simpa using hN)
 | succ k ih =>
  intro beg bA n bc N v xs Ls w hB hP hT hn hbp hbc hk hR hO hX hxl hN; have HIH := Lib.hid ih; have HP := Lib.hid hP; have HTR := Lib.hid hT; have HR := Lib.hid hR; have HX := Lib.hid hX; have HO := Lib.hid hO; have HN := Lib.hid hn; have HBP := Lib.hid hbp; have HXL := Lib.hid hxl; have HNB := Lib.hid hN; have HK := Lib.hid hk; have HOK := Lib.hid hok; have hw3 : wn ≤ 3 := by have := (okC_parts hok).2.2.1; rw [hP.ewn] at this; exact this
  have ht5 : tn ≤ 5 := by have := (okC_parts hok).2.2.2.1; rw [hP.etn] at this; exact this
  have hlt : n < tn := by omega
  have hne : ((n : Int) == tn) = false := by simp; omega
  obtain ⟨W, hW⟩ : ∃ W, W = w.alloc (.cells #[.int .i64 c.riv.depth.lo, .int .i64 c.riv.depth.hi, .int .i64 c.riv.fall.lo, .int .i64 c.riv.fall.hi, .int .i64 c.riv.days, .slice fa fl fc, .slice la ll lc, .int .i64 c.draws, .slice wa wn wc, .slice ta tn tc] 31) := ⟨_, rfl⟩; obtain ⟨b4, hb4⟩ : ∃ b, b = w.heap.size := ⟨_, rfl⟩; have HBW : Hid (Below w.heap.size w W) := by rw [hW]; exact (Below.refl _ _).alloc (Nat.le_refl _) _
  have HKB : Hid (Blk W b4 31 #[.int .i64 c.riv.depth.lo, .int .i64 c.riv.depth.hi, .int .i64 c.riv.fall.lo, .int .i64 c.riv.fall.hi, .int .i64 c.riv.days, .slice fa fl fc, .slice la ll lc, .int .i64 c.draws, .slice wa wn wc, .slice ta tn tc]) := by rw [hW, hb4]; exact Blk.new w 31 _
  have HKT0 : Hid (KT B 32 w W) := KT.below hB HBW.out; clear hP hT hR hX hO hn hbp ih hxl hN hk; obtain ⟨i3, hi3, hz0, hz1, hz2⟩ := info_parts Tryz.infoE3; have HJ := Lib.hid hi3; have HJ0 := Lib.hid hz0; have HJ1 := Lib.hid hz1; have HJ2 := Lib.hid hz2; clear hi3 hz0 hz1 hz2; have hx := HKB.out; obtain ⟨q0, q1, q2, q3, q4, q5, q6, q7, q8, q9, ql⟩ := cx31 hx; clear hx
  go_enter Tryz.func74, Tryz.ntmps74
  go_upto_region 1 with (fail); rw [← hW, ← hb4]; clear hW hb4; go_wp2; clear q0 q1 q2 q3 q4 q5 q6 q7 q8 q9 ql
  go_loopw [3, 10] (fun o i wr => ∃ (j N' : Nat) (xs' : List Value) (ov : Value), ov = o ∧ j ≤ wn + 1 ∧ i = .int .i64 ((j : Int) - 1) ∧ Hid (wr.ownsRow B 32 1 ov N' xs') ∧ Hid (Rows iV 3 wr xs' (Ls ++ preP c beg j)) ∧ Hid (xs'.length = N') ∧ Hid (N' ≤ N + j * 4 ^ k) ∧ Hid (KT B 32 w wr) ∧ Hid (Blk wr b4 31 #[.int .i64 c.riv.depth.lo, .int .i64 c.riv.depth.hi, .int .i64 c.riv.fall.lo, .int .i64 c.riv.fall.hi, .int .i64 c.riv.days, .slice fa fl fc, .slice la ll lc, .int .i64 c.draws, .slice wa wn wc, .slice ta tn tc])) (fun _ i _ => wn + 1 - ((intOf i) + 1).toNat)
  case atStart => exact ⟨0, N, xs, _, rfl, Nat.zero_le _, by simp, own_below HO.out HBW.out, by show Rows _ _ _ _ _; rw [show preP c beg 0 = [] from rfl, List.append_nil]; exact HX.out.below HBW.out, HXL, by show _ ≤ _; omega, HKT0, HKB⟩
  case round =>
   obtain ⟨j, N', xs', ov, hov, hj, rfl, HOW, HRW, HXL2, HNJ, HKT, HKR⟩ := hrel; subst hov; have hBr : B ≤ wr.heap.size := Nat.le_trans hB HKT.out.size; have HRB := Lib.hid (HR.out.kt HKT.out (by decide))
   have HPR := Lib.hid (HP.out.below HKT.out.1); have HTT := Lib.hid (HTR.out.below HKT.out.1); have hx := HKR.out; obtain ⟨q0, q1, q2, q3, q4, q5, q6, q7, q8, q9, ql⟩ := cx31 hx; clear hx
   by_cases hlt2 : j < wn + 1
   ·have hle : (j : Int) - 1 < wn := by omega
    obtain ⟨q, hq⟩ : ∃ q : Int, (j : Int) - 1 = q := ⟨_, rfl⟩; have HQ := Lib.hid hq; have hq0 : -1 ≤ q ∧ q ≤ 2 := by omega
    have HPRE := Lib.hid (preP_next (c := c) (beg := beg) (j := j)); rw [hq, HN.out] at HPRE; rw [hq] at hle ⊢; clear hq; go_upto_region 7 with (fail); clear q0 q1 q2 q3 q4 q5 q6 q7 q8 q9 ql; obtain ⟨w1, hw1⟩ : ∃ w1, w1 = wr.alloc (.cells #[] 3) := ⟨_, rfl⟩; have hB1 : Below wr.heap.size wr w1 := by rw [hw1]; exact (Below.refl _ _).alloc (Nat.le_refl _) _
    have ho1 : w1.ownsRow wr.heap.size 3 1 (.slice (some ⟨wr.heap.size, 0, none⟩) 0 0) 0 [] := by rw [hw1]; exact own_base (ownsRow_empty rfl 3 1) (Nat.le_refl _)
    obtain ⟨v1, w2, hrun1, ⟨g1, c1, rfl⟩, hown1, hG1⟩ := append_empty (P := Tryz.prog) (B := wr.heap.size) (t := 3) (u := iV q) (n := n) (c := bc) (f := fun x => [iV x]) 32 32 i3 _ 8 Tryz.underlying32 HJ.out HJ0.out HJ1.out HJ2.out rfl (fun _ => rfl) (fun x u hu => by simp at hu; subst hu; rfl) HN.out (HRB.out.below hB1).rd (by omega) (by omega) hB1.size ho1
    obtain ⟨w3, hw3'⟩ : ∃ w3, w3 = w2.alloc (.cells #[iV q] 3) := ⟨_, rfl⟩; have hs2 : wr.heap.size ≤ w2.heap.size := Nat.le_trans hB1.size hG1.1.size; have hB3 : Below w2.heap.size w2 w3 := by rw [hw3']; exact (Below.refl _ _).alloc (Nat.le_refl _) _
    have hk3 : Blk w3 w2.heap.size 3 #[iV q] := by rw [hw3']; exact Blk.new w2 3 _
    have hs3 : wr.heap.size ≤ w3.heap.size := Nat.le_trans hs2 hB3.size; obtain ⟨v4, w4, hrun2, hown4, hG4⟩ := append_next (P := Tryz.prog) (B := wr.heap.size) (t := 3) (u := iV q) (n := n) 32 32 i3 _ 8 Tryz.underlying32 HJ.out HJ0.out HJ1.out HJ2.out rfl (by rfl) (by omega) (by omega) hs3 (own_below hown1 hB3) hk3
    have HB4 : Hid (Below wr.heap.size wr w4) := ((hB1.trans hG1.1).trans (hB3.mono hs2)).trans hG4.1; obtain ⟨A8, c8, hc8, rfl, hr8, -⟩ := RowN.of_own (L := beg ++ [q]) (e := iV) (by rw [List.flatMap_append]; exact hown4) (by rw [List.length_append, HN.out]; rfl)
    rw [hw1] at hrun1; rw [hw3'] at hrun2; rw [show iV q = Value.int .i64 q from rfl] at hrun2
    have HR8 := Lib.hid hr8; clear hown1 hown4 hG1 hG4 hB1 hB3 hk3 hs2 hs3 ho1 hw1 hw3' hr8; have hr1 := hrun1; clear hrun1
    have HQP : Hid (∀ p ∈ beg ++ [q], p = -1 ∨ (0 ≤ p ∧ p < c.wg.length)) := fun p hp => by
     rcases List.mem_append.1 hp with hp | hp
     ·exact HBP.out p hp
     ·obtain rfl : p = q := by simpa using hp
      rw [HP.out.ewn]
      omega
    have HQL : Hid ((beg ++ [q]).length = n + 1) := by show _ = _; rw [List.length_append, HN.out]; rfl
    have HKT4 : Hid (KT B 32 w w4) := HKT.out.trans (KT.below hBr HB4.out); have HK4 := Lib.hid (HKR.out.below HB4.out HKR.out.lt); have HO4 := Lib.hid (own_below HOW.out HB4.out); have HRW4 := Lib.hid (HRW.out.below HB4.out); have hB4 : B ≤ w4.heap.size := Nat.le_trans hBr HB4.out.size; obtain ⟨rr, hrr⟩ : ∃ rr, ruleR c.tm c.wg c.lt (beg ++ [q]) n = rr := ⟨_, rfl⟩; have HRR := Lib.hid hrr; rw [hrr] at HPRE; clear hrr; have hx := HK4.out; obtain ⟨q0, q1, q2, q3, q4, q5, q6, q7, q8, q9, ql⟩ := cx31 hx; clear hx
    go_wp2_with (at_builtin; first | refine wpList_append_run rfl _ _ 32 rfl rfl rfl hr1 ?_ | refine wpList_append_run rfl _ _ 32 rfl rfl rfl hrun2 ?_)
    refine (rrule_any (fa := fa) (fl := fl) (fc := fc) (la := la) (ll := ll) (lc := lc) (wa := wa) (wn := wn) (wc := wc) (ta := ta) (tn := tn) (tc := tc) HOK.out HQP.out n (by rw [HQL.out]; omega) hlt HQL.out w4 ((HPR.out.below (HB4.out.mono hBr)).more hB4) ((HTT.out.below (HB4.out.mono hBr)).more hB4) HR8.out.rd).mono ?_
    rw [HRR.out]; rintro e w5 ⟨rfl, hb⟩; have HKT5 : Hid (KT B 32 w w5) := HKT4.out.trans (KT.below hB4 hb); have HK5 := Lib.hid (HK4.out.below hb HK4.out.lt); have HO5 := Lib.hid (own_below HO4.out hb); have HRW5 := Lib.hid (HRW4.out.below hb); have HR5 := Lib.hid (HR8.out.below hb); have hB5 : B ≤ w5.heap.size := Nat.le_trans hB4 hb.size; clear hb hr1 hrun2; clear q0 q1 q2 q3 q4 q5 q6 q7 q8 q9 ql; have hq1 : q + 1 = ((j + 1 : Nat) : Int) - 1 := by have := HQ.out; omega
    have HQ1 := Lib.hid hq1; have hws : IntKind.i64.wrap (q + 1) = q + 1 := IntWalk.i64_in _ (by omega)
    have h4s : (j + 1) * 4 ^ k = j * 4 ^ k + 4 ^ k := Nat.succ_mul _ _; have H4S := Lib.hid h4s; clear hq1 h4s
    by_cases h0 : rr = 0
    ·subst h0; rw [if_pos rfl] at HPRE
     have HLEN : Hid (N' + 4 ^ k ≤ 100000 ∧ (Ls ++ preP c beg (j + 1)).length ≤ N + (j + 1) * 4 ^ k) := by
      have h1 := HNJ.out; have h2 := HNB.out; have h3 : (j + 1) * 4 ^ k ≤ 4 * 4 ^ k := Nat.mul_le_mul (by omega) (Nat.le_refl _)
      rw [Nat.pow_succ, Nat.mul_comm] at h2; have h4 := H4S.out; refine ⟨by omega, ?_⟩
      have h5 := HRW.out.1; have h6 := HXL2.out; have h7 := plansL_len (tm := c.tm) (ws := c.wg) (by rw [HP.out.ewn]; exact hw3) (c.lt.drop (n + 1)) (roomB c.wg c.lt (beg ++ [q]) (n + 1))
      rw [show (c.lt.drop (n + 1)).length = k by rw [List.length_drop, HP.out.etn]; have := HK.out; omega] at h7
      rw [HPRE.out, ← List.append_assoc, List.length_append, List.length_map]
      omega
     have hx := HK5.out; obtain ⟨q0, q1, q2, q3, q4, q5, q6, q7, q8, q9, ql⟩ := cx31 hx; clear hx; go_wp2_with fail; refine (HIH.out (beg ++ [q]) A8 (n + 1) c8 N' _ xs' (Ls ++ preP c beg j) w5 hB5 (HP.out.below HKT5.out.1) (HTR.out.below HKT5.out.1) HQL.out HQP.out hc8 (by have := HK.out; omega) HR5.out HO5.out HRW5.out HXL2.out HLEN.out.1).mono ?_
     rintro e w6 ⟨v3, N3, xs3, rfl, hown3, hrows3, hxl3, hkt3⟩; rw [List.append_assoc, ← HPRE.out] at hrows3; have HO3 := Lib.hid hown3; have HR3 := Lib.hid hrows3; have HX3 := Lib.hid hxl3; have HK3 : Hid (KT B 32 w w6) := HKT5.out.trans hkt3; have HKB6 := Lib.hid (hkt3.2 _ _ _ (by decide) HK5.out)
     have HN3 : Hid (N3 ≤ N + (j + 1) * 4 ^ k) := by
      have h1 := HLEN.out.2; have h2 := HR3.out.1; rw [HX3.out] at h2; show _ ≤ _
      omega
     clear hown3 hrows3 hxl3 hkt3; clear q0 q1 q2 q3 q4 q5 q6 q7 q8 q9 ql; go_wp2; go_roundw
     case rel => exact ⟨j + 1, N3, xs3, _, rfl, by omega, by rw [← HQ1.out], HO3, HR3, HX3, HN3, HK3, HKB6⟩
     case measure => simp [intOf]; exact meas_lt HQ.out hlt2
    ·rw [if_neg h0, List.append_nil] at HPRE; rw [← HPRE.out] at HRW5; have HN3 : Hid (N' ≤ N + (j + 1) * 4 ^ k) := Nat.le_trans HNJ.out (Nat.add_le_add_left (Nat.mul_le_mul (Nat.le_succ j) (Nat.le_refl _)) N); have hq2 : ((rr : Int) == 0) = false := by simp; exact h0
     clear h0; go_wp2; go_roundw
     case rel => exact ⟨j + 1, N', xs', _, rfl, by omega, by rw [← HQ1.out], HO5, HRW5, HXL2, HN3, HKT5, HK5⟩
     case measure => simp [intOf]; exact meas_lt HQ.out hlt2
   ·obtain rfl : j = wn + 1 := by omega
    have HALL : Hid (preP c beg (wn + 1) = (plansL c.tm c.wg (c.lt.drop n) (roomB c.wg c.lt beg n)).map (beg ++ ·)) := by
     show onAll c.tm c.wg c.lt beg wn = _; have h := onAll_all (tm := c.tm) (ws := c.wg) (lt := c.lt) (b := beg) (by rw [HN.out, HP.out.etn]; exact hlt)
     rw [HN.out, HP.out.ewn] at h; exact h
    have hdd : ¬ (((wn + 1 : Nat) : Int) - 1 < wn) := by omega
    go_wp2; go_ret
    exact ⟨_, N', xs', rfl, HOW.out, by rw [← HALL.out]; exact HRW.out, HXL2.out, HKT.out⟩
end
def RPlanR (of_ : ILot → IWag → Int) (c : ICart) (tn : Nat) (w : World) (e : Ending) (w' : World) : Prop :=
 Below w.heap.size w w' ∧ ((stayE c ≠ 0 ∧ e = .returned (.tuple #[.int .i64 0, .slice none 0 0, .int .i64 (stayE c : Nat)])) ∨
  (stayE c = 0 ∧ ∃ A cp, e = .returned (.tuple #[.int .i64 (onP c.tm c.wg of_ c.lt (roomP c.wg)).1, .slice A tn cp, .int .i64 0]) ∧ RdG inI 1 w' w'.heap.size A (planL c.tm c.wg of_ c.lt (roomP c.wg))))
theorem firstL_mem (v : List Int → Int) : ∀ (l : List (List Int)) (x : List Int), firstL v x l ∈ x :: l
 | [], x => by simp [firstL]
 | y :: l, x => by
  rw [firstL]
  split
  ·exact List.mem_cons_of_mem _ (firstL_mem v l y)
  ·have := firstL_mem v l x; rcases List.mem_cons.1 this with h | h
   ·rw [h]; exact List.mem_cons_self
   ·exact List.mem_cons_of_mem _ (List.mem_cons_of_mem _ h)
theorem firstL_take (v : List Int → Int) {l : List (List Int)} {x y : List Int} {i : Nat} (hy : l[i]? = some y) : firstL v x (l.take (i + 1)) = if v (firstL v x (l.take i)) < v y then y else firstL v x (l.take i) := by
 rw [List.take_add_one, hy, firstL_append]
 rfl
structure AllP (c : ICart) (w : World) (B g N : Nat) (xs : List Value) (Ls : List (List Int)) : Prop where
 own : ∃ cp, w.ownsRow B 32 1 (.slice (some ⟨g, 0, none⟩) N cp) N xs
 rows : Rows iV 3 w xs Ls
 len : xs.length = N
 n : N ≤ 1024
 pos : 0 < N
 ok : ∀ L ∈ Ls, L.length = c.lt.length ∧ ∀ p ∈ L, p = -1 ∨ (0 ≤ p ∧ p < c.wg.length)
theorem AllP.below {c : ICart} {w w' : World} {B g N : Nat} {xs : List Value} {Ls : List (List Int)} (h : AllP c w B g N xs Ls) (hb : Below w.heap.size w w') : AllP c w' B g N xs Ls :=
 { h with own := h.own.imp fun _ ho => own_below ho hb, rows := h.rows.below hb }
theorem AllP.at_ {c : ICart} {w : World} {B g N : Nat} {xs : List Value} {Ls : List (List Int)} (h : AllP c w B g N xs Ls) {i : Nat} (hi : i < N) :
  ∃ A cp L, Ls[i]? = some L ∧ w.cell? ⟨g, i, none⟩ = some (.slice A c.lt.length cp) ∧ RowN iV 3 w A L ∧ g < w.heap.size := by
 obtain ⟨h1, h2⟩ := h.rows; obtain ⟨L, hL⟩ : ∃ L, Ls[i]? = some L := ⟨Ls[i]'(by rw [← h1, h.len]; exact hi), by simp⟩
 obtain ⟨A, cp, _, hx, hr⟩ := h2 i L hL; obtain ⟨cq, ho⟩ := h.own; have hc := ho.cells (g := g) rfl i _ hx; obtain ⟨cur, hb, _⟩ := own_blk ho; rw [(h.ok L (List.mem_of_getElem? hL)).1] at hc; refine ⟨A, cp, L, hL, ?_, hr, hb.lt⟩; rw [← hc]
 congr 1
 unfold Addr.add
 split
 ·rename_i hz; subst hz; rfl
 ·simp
section
variable {fa la wa ta : Option Addr} {fl fc ll lc wn wc tn tc : Nat} {c : ICart}
variable {w : World}
theorem plans0_any {At : Option Addr} {ct : Nat} (hv : openE c true = 0) (w : World) (hP : CtIn w w.heap.size fa fl la ll wa wn ta tn c) (hT : RdG inI 1 w w.heap.size At (timesL c)) :
  Calls Tryz.prog 74 #[(.agg #[.int .i64 c.riv.depth.lo, .int .i64 c.riv.depth.hi, .int .i64 c.riv.fall.lo, .int .i64 c.riv.fall.hi, .int .i64 c.riv.days, .slice fa fl fc, .slice la ll lc, .int .i64 c.draws, .slice wa wn wc, .slice ta tn tc]), .slice At wn ct, .slice none 0 0, .slice none 0 0] w fun e w' => ∃ g cp N xs, e = .returned (.slice (some ⟨g, 0, none⟩) N cp) ∧ AllP c w' w.heap.size g N xs (plansL c.tm c.wg c.lt (roomP c.wg)) ∧ Below w.heap.size w w' := by
 have hok := (openE_true hv).1; have h4 : 4 ^ tn ≤ 1024 := Nat.pow_le_pow_right (n := 4) (by omega) (show tn ≤ 5 by have := (okC_parts hok).2.2.2.1; rw [hP.etn] at this; exact this)
 refine (rplans_any (fa := fa) (fl := fl) (fc := fc) (la := la) (ll := ll) (lc := lc) (wa := wa) (wn := wn) (wc := wc) (ta := ta) (tn := tn) (tc := tc) hok w.heap.size tn [] none 0 0 0 (.slice none 0 0) [] [] w (Nat.le_refl _) hP hT rfl (by simp) (Nat.le_refl _) (by omega) RowN.nil (own_nil _ _ _ _) Rows.nil rfl (by omega)).mono ?_
 rintro e w' ⟨v, N, xs, rfl, ho, hr, hl, hk⟩
 rw [roomB_zero, List.drop_zero, List.nil_append, show (fun x : List Int => [] ++ x) = id from rfl, List.map_id] at hr
 have hN : N = (plansL c.tm c.wg c.lt (roomP c.wg)).length := by rw [← hl]; exact hr.1
 have hb := plansL_len (tm := c.tm) (ws := c.wg) (okC_parts hok).2.2.1 c.lt (roomP c.wg); rw [hP.etn] at hb; obtain ⟨x, m, hx⟩ := plansL_ne c.tm c.wg c.lt (roomP c.wg); have hpos : 0 < N := by rw [hN, hx]; simp
 rcases ho.2 with ⟨rfl, h0⟩ | ⟨g, cp, cur, rfl, _⟩
 ·omega
 ·exact ⟨g, cp, N, xs, rfl, ⟨⟨cp, ho⟩, hr, hl, by omega, hpos, fun L hL => ⟨rightL_len (plansL_mem.1 hL), rightL_ok (plansL_mem.1 hL)⟩⟩, hk.1⟩
theorem rMost_any (w : World) (hP : CtIn w w.heap.size fa fl la ll wa wn ta tn c) : Calls Tryz.prog 23 #[(.agg #[.int .i64 c.riv.depth.lo, .int .i64 c.riv.depth.hi, .int .i64 c.riv.fall.lo, .int .i64 c.riv.fall.hi, .int .i64 c.riv.days, .slice fa fl fc, .slice la ll lc, .int .i64 c.draws, .slice wa wn wc, .slice ta tn tc])] w (RPlanR ofMost c tn w) := by
 have HP := Lib.hid hP; have HET := Lib.hid hP.etn; obtain ⟨EE, hEE⟩ : ∃ EE : Nat, stayE c = EE := ⟨_, rfl⟩; have HEE : Hid (openE c true = EE) := hEE; have HES : Hid (stayE c = EE) := hEE; clear hP hEE; obtain ⟨W, hW⟩ : ∃ W, W = w.alloc (.cells #[.int .i64 c.riv.depth.lo, .int .i64 c.riv.depth.hi, .int .i64 c.riv.fall.lo, .int .i64 c.riv.fall.hi, .int .i64 c.riv.days, .slice fa fl fc, .slice la ll lc, .int .i64 c.draws, .slice wa wn wc, .slice ta tn tc] 31) := ⟨_, rfl⟩; obtain ⟨b1, hb1⟩ : ∃ b, b = w.heap.size := ⟨_, rfl⟩; have HK0 : Hid (Blk W b1 31 #[.int .i64 c.riv.depth.lo, .int .i64 c.riv.depth.hi, .int .i64 c.riv.fall.lo, .int .i64 c.riv.fall.hi, .int .i64 c.riv.days, .slice fa fl fc, .slice la ll lc, .int .i64 c.draws, .slice wa wn wc, .slice ta tn tc]) := by rw [hW, hb1]; exact Blk.new w 31 _
 have HB0 : Hid (Below w.heap.size w W) := by rw [hW]; exact (Below.refl _ _).alloc (Nat.le_refl _) _
 go_enter Tryz.func23, Tryz.ntmps23
 go_upto_region 1 with (fail); rw [← hW, ← hb1]; clear hW hb1; have hx := HK0.out; obtain ⟨q0, q1, q2, q3, q4, q5, q6, q7, q8, q9, ql⟩ := cx31 hx; clear hx; go_wp2_with fail; refine (rcheck_any (fa := fa) (fl := fl) (fc := fc) (la := la) (ll := ll) (lc := lc) (wa := wa) (wn := wn) (wc := wc) (ta := ta) (tn := tn) (tc := tc) true W (HP.out.grow HB0.out)).mono ?_; rw [HEE.out]; rintro e w1 ⟨rfl, hb⟩; have HB1 : Hid (Below w.heap.size w w1) := HB0.out.trans (hb.mono HB0.out.size); have HK1 := Lib.hid (HK0.out.below hb HK0.out.lt); clear hb; clear q0 q1 q2 q3 q4 q5 q6 q7 q8 q9 ql
 by_cases h0 : EE = 0
 case neg =>
  have HNZ := Lib.hid h0; have h1 : ((EE : Int) != 0) = true := by simp; exact h0
  have h2 : ((EE : Int) == 0) = false := by simp; exact h0
  clear h0; go_wp2; go_ret3
  exact ⟨HB1.out, .inl ⟨by rw [HES.out]; exact HNZ.out, by rw [HES.out]; rfl⟩⟩
 subst h0; obtain ⟨x0, m0, hxm⟩ := plansL_ne c.tm c.wg c.lt (roomP c.wg); have HXM := Lib.hid hxm
 have HFIN : Hid (firstL (valL c.wg ofMost c.lt) x0 (x0 :: m0) = planL c.tm c.wg ofMost c.lt (roomP c.wg)) := by
  show _ = _; rw [firstL, if_neg (by omega)]
  exact plans_first c.tm c.wg ofMost c.lt (roomP c.wg) x0 m0 hxm
 clear hxm; have hx := HK1.out; obtain ⟨q0, q1, q2, q3, q4, q5, q6, q7, q8, q9, ql⟩ := cx31 hx; clear hx; go_upto_region 4 with (fail)
 refine wp_region_havoc [(0,false),(1,false),(2,true),(3,true),(4,false)] [] (fun _ _ => False) (by kernel_rfl) (by kernel_rfl) (fun _ _ _ _ h => h.elim) ?_
 iterate 2 (apply hav_same (by exact ho rfl) (by kernel_rfl); (focus (intro wv hgv _; have hcv := cvB hgv; (try go_simp); try rfl; done)); simp only [Act.put, qA9, qB9, qC9])
 apply hav_call_ghost (fun v wv => ∃ At ct, v = .slice At wn ct ∧ RdG inI 1 wv wv.heap.size At (timesL c)) (by exact ho rfl) (by kernel_rfl)
 ·intro wv
  go_simp
  try exact ⟨rfl, rfl⟩
  done
 ·rintro v w1 w2 ⟨At, ct, e, h⟩ hg; exact ⟨At, ct, e, h.grow hg⟩
 ·intro wv hgv _; refine (rtimes_any (fa := fa) (fl := fl) (fc := fc) (la := la) (ll := ll) (lc := lc) (wa := wa) (wn := wn) (wc := wc) (ta := ta) (tn := tn) (tc := tc) HEE.out wv (HP.out.grow (HB1.out.trans (hgv.mono HB1.out.size)))).mono ?_; rintro e w' ⟨At, ct, rfl, htr, hb⟩; exact .inl ⟨_, rfl, hb, At, ct, rfl, htr⟩
 intro v; simp only [Act.put, qA9, qB9, qC9]
 by_cases hv : ∃ At ct, v = .slice At wn ct
 case neg =>
  have hno : ∀ (w : World) (Φ : Prop), (Φ ∧ ∃ At ct, v = .slice At wn ct ∧ RdG inI 1 w w.heap.size At (timesL c)) → False := fun w Φ ⟨_, A, c', h, _⟩ => hv ⟨A, c', h⟩
  refine hav_ghost (fun _ _ => True) (by exact ho rfl) (fun _ _ _ _ _ => trivial) (fun w hg hF => (hno _ _ hF).elim) ?_
  intro v3; simp only [Act.put, qA9, qB9, qC9]
  (refine hav_det (V := undef) (by exact ho rfl) (fun _ _ hF => (hno _ _ hF.1).elim) ?_; simp only [Act.put, qA9, qB9, qC9])
  exact hav_end (fun w6 hg6 hF => (hno _ _ hF.1).elim)
 obtain ⟨At, ct, rfl⟩ := hv
 apply hav_call_ghost (fun v wv => ∃ g cp N xs, v = .slice (some ⟨g, 0, none⟩) N cp ∧ ∃ B, AllP c wv B g N xs (plansL c.tm c.wg c.lt (roomP c.wg))) (by exact ho rfl) (by kernel_rfl)
 ·intro wv
  go_simp
  try exact ⟨rfl, rfl⟩
  done
 ·rintro v w1 w2 ⟨g, cp, N, xs, e, B, h⟩ hg; exact ⟨g, cp, N, xs, e, B, h.below hg⟩
 ·intro wv hgv hF; obtain ⟨_, At', ct', e, hr⟩ := hF; cases e
  refine (plans0_any (fa := fa) (fl := fl) (fc := fc) (la := la) (ll := ll) (lc := lc) (wa := wa) (wn := wn) (wc := wc) (ta := ta) (tn := tn) (tc := tc) HEE.out wv (HP.out.grow (HB1.out.trans (hgv.mono HB1.out.size))) hr).mono ?_; rintro e w' ⟨g, cp, N, xs, rfl, ha, hb⟩; exact .inl ⟨_, rfl, hb, g, cp, N, xs, rfl, _, ha⟩
 intro v; simp only [Act.put, qA9, qB9, qC9]; (apply hav_same (by exact ho rfl) (by kernel_rfl); (focus (intro wv hgv _; have hcv := cvB hgv; (try go_simp); try rfl; done)); simp only [Act.put, qA9, qB9, qC9])
 refine hav_end (fun w2 hgz hF => ?_)
 simp only [List.filterMap]; obtain ⟨-, g, cp, N, xs, rfl, B, hall⟩ := hF; have hb : Below w1.heap.size w1 w2 := hgz; have HB2 : Hid (Below w.heap.size w w2) := HB1.out.trans (hb.mono HB1.out.size); have HK2 := Lib.hid (HK1.out.below hb HK1.out.lt); rw [HXM.out] at hall; have HALL := Lib.hid hall; have hN := hall.n; have hNp := hall.pos; obtain ⟨A0, c0, L0, hL0, hc0, hr0, hg0⟩ := hall.at_ hall.pos; obtain rfl : x0 = L0 := by simpa using hL0
 rw [HET.out] at hc0; have HR0 := Lib.hid hr0; clear hgz hb hall hL0 hr0; clear q0 q1 q2 q3 q4 q5 q6 q7 q8 q9 ql; have hNi : (0 : Int) < N := by omega
 go_wp2; clear hc0 hg0 hNi
 obtain ⟨val, hval⟩ : ∃ val, val = valL c.wg ofMost c.lt := ⟨_, rfl⟩; rw [← hval] at HFIN; have HVAL := Lib.hid hval; clear hval
 go_loopw [7, 8] (fun b i wr => ∃ (k : Nat) (A : Option Addr) (cb : Nat), k ≤ N ∧ i = .int .i64 k ∧ b = .slice A tn cb ∧ Hid (RowN iV 3 wr A (firstL val x0 ((x0 :: m0).take k))) ∧ Hid (AllP c wr B g N xs (x0 :: m0)) ∧ Hid (Below w.heap.size w wr) ∧ Hid (Blk wr b1 31 #[.int .i64 c.riv.depth.lo, .int .i64 c.riv.depth.hi, .int .i64 c.riv.fall.lo, .int .i64 c.riv.fall.hi, .int .i64 c.riv.days, .slice fa fl fc, .slice la ll lc, .int .i64 c.draws, .slice wa wn wc, .slice ta tn tc])) (fun _ i _ => N - (intOf i).toNat)
 case atStart => exact ⟨0, A0, c0, Nat.zero_le _, rfl, rfl, HR0, HALL, HB2, HK2⟩
 case round =>
  obtain ⟨k, A, cb, hk, rfl, rfl, HRB, HAR, HBR, HKR⟩ := hrel; have hx := HKR.out; obtain ⟨q0, q1, q2, q3, q4, q5, q6, q7, q8, q9, ql⟩ := cx31 hx; clear hx; have HPR := Lib.hid (HP.out.grow HBR.out); obtain ⟨Lb, hLb⟩ : ∃ L, firstL val x0 ((x0 :: m0).take k) = L := ⟨_, rfl⟩; have HLB := Lib.hid hLb
  have HLBM : Hid (Lb ∈ x0 :: m0) := by
   show _ ∈ _; rw [← hLb]; rcases List.mem_cons.1 (firstL_mem val ((x0 :: m0).take k) x0) with h | h
   ·rw [h]; exact List.mem_cons_self
   ·exact List.mem_of_mem_take h
  rw [hLb] at HRB; have HLBO := Lib.hid (HAR.out.ok _ HLBM.out); clear hLb
  by_cases hlt : k < N
  ·obtain ⟨A1, c1, L1, hL1, hc1, hr1, hg1⟩ := HAR.out.at_ hlt; have HL1 := Lib.hid hL1; have HR1 := Lib.hid hr1; have HL1O := Lib.hid (HAR.out.ok _ (List.mem_of_getElem? hL1)); have HTK := Lib.hid (firstL_take val (x := x0) hL1); rw [HLB.out] at HTK; rw [HET.out] at hc1; have hki : (k : Int) < N := by omega
   clear hL1 hr1; obtain ⟨y1, hy1⟩ : ∃ y, val L1 = y := ⟨_, rfl⟩; obtain ⟨y2, hy2⟩ : ∃ y, val Lb = y := ⟨_, rfl⟩; rw [hy1, hy2] at HTK; have HV1 : Hid (valL c.wg ofMost c.lt L1 = y1 ∧ valL c.wg ofMost c.lt Lb = y2) := by rw [← HVAL.out]; exact ⟨hy1, hy2⟩
   clear hy1 hy2; go_upto_region 9 with (fail)
   refine wp_region_havoc [(0,false),(1,false),(2,false),(3,false),(4,false),(5,false),(6,false),(7,false),(8,false),(9,false)] [] (fun _ _ => False) (by kernel_rfl) (by kernel_rfl) (fun _ _ _ _ h => h.elim) ?_
   (apply hav_same (by exact ho rfl) (by kernel_rfl); (focus (intro wv hgv _; have hcv := cvB hgv; (try go_simp); try rfl; done)); simp only [Act.put, qA9, qB9, qC9])
   iterate 4 (apply hav_same (by exact ho rfl) (by kernel_rfl); (focus (intro wv hgv _; have hcv := cvB hgv; (try go_simp); try rfl; done)); simp only [Act.put, qA9, qB9, qC9])
   (apply hav_call (by exact ho rfl) (by kernel_rfl); (focus (intro wv; go_simp; try exact ⟨rfl, rfl⟩; done)); (focus (intro wv hgv _; refine (rsends_any (fa := fa) (fl := fl) (fc := fc) (la := la) (ll := ll) (lc := lc) (wa := wa) (wn := wn) (wc := wc) (ta := ta) (tn := tn) (tc := tc) (cl := c1) (openE_true HEE.out).1 HL1O.out.2 (by rw [HL1O.out.1, HET.out]) wv (HPR.out.grow hgv) (HR1.out.below hgv).rd).mono ?_; rw [HV1.out.1]; rintro e w' ⟨rfl, hb⟩; exact ⟨rfl, hb⟩; done)); simp only [Act.put, qA9, qB9, qC9])
   iterate 2 (apply hav_same (by exact ho rfl) (by kernel_rfl); (focus (intro wv hgv _; have hcv := cvB hgv; (try go_simp); try rfl; done)); simp only [Act.put, qA9, qB9, qC9])
   (apply hav_call (by exact ho rfl) (by kernel_rfl); (focus (intro wv; go_simp; try exact ⟨rfl, rfl⟩; done)); (focus (intro wv hgv _; refine (rsends_any (fa := fa) (fl := fl) (fc := fc) (la := la) (ll := ll) (lc := lc) (wa := wa) (wn := wn) (wc := wc) (ta := ta) (tn := tn) (tc := tc) (cl := cb) (openE_true HEE.out).1 HLBO.out.2 (by rw [HLBO.out.1, HET.out]) wv (HPR.out.grow hgv) (HRB.out.below hgv).rd).mono ?_; rw [HV1.out.2]; rintro e w' ⟨rfl, hb⟩; exact ⟨rfl, hb⟩; done)); simp only [Act.put, qA9, qB9, qC9])
   (apply hav_same (by exact ho rfl) (by kernel_rfl); (focus (intro wv hgv _; have hcv := cvB hgv; (try go_simp); try rfl; done)); simp only [Act.put, qA9, qB9, qC9])
   refine hav_end (fun w5 hgz _ => ?_)
   simp only [List.filterMap]; have hb5 : Below wr.heap.size wr w5 := hgz; have HB5 : Hid (Below w.heap.size w w5) := HBR.out.trans (hb5.mono HBR.out.size); have HK5 := Lib.hid (HKR.out.below hb5 HKR.out.lt); have HA5 := Lib.hid (HAR.out.below hb5); have HRB5 := Lib.hid (HRB.out.below hb5); have HR15 := Lib.hid (HR1.out.below hb5); have hc5 : w5.cell? ⟨g, k, none⟩ = some (.slice A1 tn c1) := (hb5.cell (p := ⟨g, k, none⟩) hg1).trans hc1; have hg5 : g < w5.heap.size := by have := hb5.size; omega
   clear hgz hb5 hc1 hg1; clear q0 q1 q2 q3 q4 q5 q6 q7 q8 q9 ql
   by_cases h : y2 < y1
   ·rw [if_pos h] at HTK; rw [← HTK.out] at HR15; have hd : y1 > y2 := h; go_wp2; go_roundw
    case rel => exact ⟨k + 1, A1, c1, by omega, by go_num, rfl, HR15, HA5, HB5, HK5⟩
    case measure => simp [intOf]; omega
   ·rw [if_neg h] at HTK; rw [← HTK.out] at HRB5; have hd : ¬ (y1 > y2) := h; go_wp2; go_roundw
    case rel => exact ⟨k + 1, A, cb, by omega, by go_num, rfl, HRB5, HA5, HB5, HK5⟩
    case measure => simp [intOf]; omega
  ·obtain rfl : k = N := by omega
   have HPL : Hid (Lb = planL c.tm c.wg ofMost c.lt (roomP c.wg)) := by
    show _ = _; have h := HLB.out; rw [List.take_of_length_le (by rw [← HAR.out.rows.1, HAR.out.len]; exact Nat.le_refl _)] at h
    rw [← h]; exact HFIN.out
   have HWO : Hid (valL c.wg ofMost c.lt Lb = (onP c.tm c.wg ofMost c.lt (roomP c.wg)).1) := by show _ = _; rw [HPL.out, plan_val]
   obtain ⟨y2, hy2⟩ : ∃ y, valL c.wg ofMost c.lt Lb = y := ⟨_, rfl⟩; have HY2 := Lib.hid hy2; clear hy2; go_wp2_with fail; refine (rsends_any (fa := fa) (fl := fl) (fc := fc) (la := la) (ll := ll) (lc := lc) (wa := wa) (wn := wn) (wc := wc) (ta := ta) (tn := tn) (tc := tc) (cl := cb) (openE_true HEE.out).1 HLBO.out.2 (by rw [HLBO.out.1, HET.out]) wr HPR.out HRB.out.rd).mono ?_
   rw [HY2.out]; rintro e w7 ⟨rfl, hb⟩; have HB7 : Hid (Below w.heap.size w w7) := HBR.out.trans (hb.mono HBR.out.size); have HR7 := Lib.hid (HRB.out.below hb); clear hb; clear q0 q1 q2 q3 q4 q5 q6 q7 q8 q9 ql; go_wp2; go_ret3
   exact ⟨HB7.out, .inr ⟨HES.out, A, cb, by rw [← HWO.out, HY2.out]; rfl, by rw [← HPL.out]; exact HR7.out.rd⟩⟩
theorem field23 (a b : Int) (w : World) : (Instr.field 23 (.agg #[.int .i64 a, .int .i64 b]) 0).run Tryz.prog w = .ok (.int .i64 a) w := by kernel_rfl
theorem rBest_any (w : World) (hP : CtIn w w.heap.size fa fl la ll wa wn ta tn c) : Calls Tryz.prog 25 #[(.agg #[.int .i64 c.riv.depth.lo, .int .i64 c.riv.depth.hi, .int .i64 c.riv.fall.lo, .int .i64 c.riv.fall.hi, .int .i64 c.riv.days, .slice fa fl fc, .slice la ll lc, .int .i64 c.draws, .slice wa wn wc, .slice ta tn tc])] w (RPlanR ofBest c tn w) := by
 have HP := Lib.hid hP; have HET := Lib.hid hP.etn; obtain ⟨EE, hEE⟩ : ∃ EE : Nat, stayE c = EE := ⟨_, rfl⟩; have HEE : Hid (openE c true = EE) := hEE; have HES : Hid (stayE c = EE) := hEE; clear hP hEE; obtain ⟨W, hW⟩ : ∃ W, W = w.alloc (.cells #[.int .i64 c.riv.depth.lo, .int .i64 c.riv.depth.hi, .int .i64 c.riv.fall.lo, .int .i64 c.riv.fall.hi, .int .i64 c.riv.days, .slice fa fl fc, .slice la ll lc, .int .i64 c.draws, .slice wa wn wc, .slice ta tn tc] 31) := ⟨_, rfl⟩; obtain ⟨b1, hb1⟩ : ∃ b, b = w.heap.size := ⟨_, rfl⟩; have HK0 : Hid (Blk W b1 31 #[.int .i64 c.riv.depth.lo, .int .i64 c.riv.depth.hi, .int .i64 c.riv.fall.lo, .int .i64 c.riv.fall.hi, .int .i64 c.riv.days, .slice fa fl fc, .slice la ll lc, .int .i64 c.draws, .slice wa wn wc, .slice ta tn tc]) := by rw [hW, hb1]; exact Blk.new w 31 _
 have HB0 : Hid (Below w.heap.size w W) := by rw [hW]; exact (Below.refl _ _).alloc (Nat.le_refl _) _
 go_enter Tryz.func25, Tryz.ntmps25
 go_upto_region 1 with (fail); rw [← hW, ← hb1]; clear hW hb1; have hx := HK0.out; obtain ⟨q0, q1, q2, q3, q4, q5, q6, q7, q8, q9, ql⟩ := cx31 hx; clear hx; go_wp2_with fail; refine (rcheck_any (fa := fa) (fl := fl) (fc := fc) (la := la) (ll := ll) (lc := lc) (wa := wa) (wn := wn) (wc := wc) (ta := ta) (tn := tn) (tc := tc) true W (HP.out.grow HB0.out)).mono ?_; rw [HEE.out]; rintro e w1 ⟨rfl, hb⟩; have HB1 : Hid (Below w.heap.size w w1) := HB0.out.trans (hb.mono HB0.out.size); have HK1 := Lib.hid (HK0.out.below hb HK0.out.lt); clear hb; clear q0 q1 q2 q3 q4 q5 q6 q7 q8 q9 ql
 by_cases h0 : EE = 0
 case neg =>
  have HNZ := Lib.hid h0; have h1 : ((EE : Int) != 0) = true := by simp; exact h0
  have h2 : ((EE : Int) == 0) = false := by simp; exact h0
  clear h0; go_wp2; go_ret3
  exact ⟨HB1.out, .inl ⟨by rw [HES.out]; exact HNZ.out, by rw [HES.out]; rfl⟩⟩
 subst h0; obtain ⟨x0, m0, hxm⟩ := plansL_ne c.tm c.wg c.lt (roomP c.wg); have HXM := Lib.hid hxm
 have HFIN : Hid (firstL (valL c.wg ofBest c.lt) x0 (x0 :: m0) = planL c.tm c.wg ofBest c.lt (roomP c.wg)) := by
  show _ = _; rw [firstL, if_neg (by omega)]
  exact plans_first c.tm c.wg ofBest c.lt (roomP c.wg) x0 m0 hxm
 clear hxm; have hx := HK1.out; obtain ⟨q0, q1, q2, q3, q4, q5, q6, q7, q8, q9, ql⟩ := cx31 hx; clear hx; go_upto_region 4 with (fail)
 refine wp_region_havoc [(0,false),(1,false),(2,true),(3,true),(4,false)] [] (fun _ _ => False) (by kernel_rfl) (by kernel_rfl) (fun _ _ _ _ h => h.elim) ?_
 iterate 2 (apply hav_same (by exact ho rfl) (by kernel_rfl); (focus (intro wv hgv _; have hcv := cvB hgv; (try go_simp); try rfl; done)); simp only [Act.put, qA9, qB9, qC9])
 apply hav_call_ghost (fun v wv => ∃ At ct, v = .slice At wn ct ∧ RdG inI 1 wv wv.heap.size At (timesL c)) (by exact ho rfl) (by kernel_rfl)
 ·intro wv
  go_simp
  try exact ⟨rfl, rfl⟩
  done
 ·rintro v w1 w2 ⟨At, ct, e, h⟩ hg; exact ⟨At, ct, e, h.grow hg⟩
 ·intro wv hgv _; refine (rtimes_any (fa := fa) (fl := fl) (fc := fc) (la := la) (ll := ll) (lc := lc) (wa := wa) (wn := wn) (wc := wc) (ta := ta) (tn := tn) (tc := tc) HEE.out wv (HP.out.grow (HB1.out.trans (hgv.mono HB1.out.size)))).mono ?_; rintro e w' ⟨At, ct, rfl, htr, hb⟩; exact .inl ⟨_, rfl, hb, At, ct, rfl, htr⟩
 intro v; simp only [Act.put, qA9, qB9, qC9]
 by_cases hv : ∃ At ct, v = .slice At wn ct
 case neg =>
  have hno : ∀ (w : World) (Φ : Prop), (Φ ∧ ∃ At ct, v = .slice At wn ct ∧ RdG inI 1 w w.heap.size At (timesL c)) → False := fun w Φ ⟨_, A, c', h, _⟩ => hv ⟨A, c', h⟩
  refine hav_ghost (fun _ _ => True) (by exact ho rfl) (fun _ _ _ _ _ => trivial) (fun w hg hF => (hno _ _ hF).elim) ?_
  intro v3; simp only [Act.put, qA9, qB9, qC9]
  (refine hav_det (V := undef) (by exact ho rfl) (fun _ _ hF => (hno _ _ hF.1).elim) ?_; simp only [Act.put, qA9, qB9, qC9])
  exact hav_end (fun w6 hg6 hF => (hno _ _ hF.1).elim)
 obtain ⟨At, ct, rfl⟩ := hv
 apply hav_call_ghost (fun v wv => ∃ g cp N xs, v = .slice (some ⟨g, 0, none⟩) N cp ∧ ∃ B, AllP c wv B g N xs (plansL c.tm c.wg c.lt (roomP c.wg))) (by exact ho rfl) (by kernel_rfl)
 ·intro wv
  go_simp
  try exact ⟨rfl, rfl⟩
  done
 ·rintro v w1 w2 ⟨g, cp, N, xs, e, B, h⟩ hg; exact ⟨g, cp, N, xs, e, B, h.below hg⟩
 ·intro wv hgv hF; obtain ⟨_, At', ct', e, hr⟩ := hF; cases e
  refine (plans0_any (fa := fa) (fl := fl) (fc := fc) (la := la) (ll := ll) (lc := lc) (wa := wa) (wn := wn) (wc := wc) (ta := ta) (tn := tn) (tc := tc) HEE.out wv (HP.out.grow (HB1.out.trans (hgv.mono HB1.out.size))) hr).mono ?_; rintro e w' ⟨g, cp, N, xs, rfl, ha, hb⟩; exact .inl ⟨_, rfl, hb, g, cp, N, xs, rfl, _, ha⟩
 intro v; simp only [Act.put, qA9, qB9, qC9]; (apply hav_same (by exact ho rfl) (by kernel_rfl); (focus (intro wv hgv _; have hcv := cvB hgv; (try go_simp); try rfl; done)); simp only [Act.put, qA9, qB9, qC9])
 refine hav_end (fun w2 hgz hF => ?_)
 simp only [List.filterMap]; obtain ⟨-, g, cp, N, xs, rfl, B, hall⟩ := hF; have hb : Below w1.heap.size w1 w2 := hgz; have HB2 : Hid (Below w.heap.size w w2) := HB1.out.trans (hb.mono HB1.out.size); have HK2 := Lib.hid (HK1.out.below hb HK1.out.lt); rw [HXM.out] at hall; have HALL := Lib.hid hall; have hN := hall.n; have hNp := hall.pos; obtain ⟨A0, c0, L0, hL0, hc0, hr0, hg0⟩ := hall.at_ hall.pos; obtain rfl : x0 = L0 := by simpa using hL0
 rw [HET.out] at hc0; have HR0 := Lib.hid hr0; clear hgz hb hall hL0 hr0; clear q0 q1 q2 q3 q4 q5 q6 q7 q8 q9 ql; have hNi : (0 : Int) < N := by omega
 go_wp2; clear hc0 hg0 hNi
 obtain ⟨val, hval⟩ : ∃ val, val = valL c.wg ofBest c.lt := ⟨_, rfl⟩; rw [← hval] at HFIN; have HVAL := Lib.hid hval; clear hval
 go_loopw [7, 8] (fun b i wr => ∃ (k : Nat) (A : Option Addr) (cb : Nat), k ≤ N ∧ i = .int .i64 k ∧ b = .slice A tn cb ∧ Hid (RowN iV 3 wr A (firstL val x0 ((x0 :: m0).take k))) ∧ Hid (AllP c wr B g N xs (x0 :: m0)) ∧ Hid (Below w.heap.size w wr) ∧ Hid (Blk wr b1 31 #[.int .i64 c.riv.depth.lo, .int .i64 c.riv.depth.hi, .int .i64 c.riv.fall.lo, .int .i64 c.riv.fall.hi, .int .i64 c.riv.days, .slice fa fl fc, .slice la ll lc, .int .i64 c.draws, .slice wa wn wc, .slice ta tn tc])) (fun _ i _ => N - (intOf i).toNat)
 case atStart => exact ⟨0, A0, c0, Nat.zero_le _, rfl, rfl, HR0, HALL, HB2, HK2⟩
 case round =>
  obtain ⟨k, A, cb, hk, rfl, rfl, HRB, HAR, HBR, HKR⟩ := hrel; have hx := HKR.out; obtain ⟨q0, q1, q2, q3, q4, q5, q6, q7, q8, q9, ql⟩ := cx31 hx; clear hx; have HPR := Lib.hid (HP.out.grow HBR.out); obtain ⟨Lb, hLb⟩ : ∃ L, firstL val x0 ((x0 :: m0).take k) = L := ⟨_, rfl⟩; have HLB := Lib.hid hLb
  have HLBM : Hid (Lb ∈ x0 :: m0) := by
   show _ ∈ _; rw [← hLb]; rcases List.mem_cons.1 (firstL_mem val ((x0 :: m0).take k) x0) with h | h
   ·rw [h]; exact List.mem_cons_self
   ·exact List.mem_of_mem_take h
  rw [hLb] at HRB; have HLBO := Lib.hid (HAR.out.ok _ HLBM.out); clear hLb
  by_cases hlt : k < N
  ·obtain ⟨A1, c1, L1, hL1, hc1, hr1, hg1⟩ := HAR.out.at_ hlt; have HL1 := Lib.hid hL1; have HR1 := Lib.hid hr1; have HL1O := Lib.hid (HAR.out.ok _ (List.mem_of_getElem? hL1)); have HTK := Lib.hid (firstL_take val (x := x0) hL1); rw [HLB.out] at HTK; rw [HET.out] at hc1; have hki : (k : Int) < N := by omega
   clear hL1 hr1; obtain ⟨y1, hy1⟩ : ∃ y, val L1 = y := ⟨_, rfl⟩; obtain ⟨y2, hy2⟩ : ∃ y, val Lb = y := ⟨_, rfl⟩; rw [hy1, hy2] at HTK; have HV1 : Hid (valL c.wg ofBest c.lt L1 = y1 ∧ valL c.wg ofBest c.lt Lb = y2) := by rw [← HVAL.out]; exact ⟨hy1, hy2⟩
   clear hy1 hy2; go_upto_region 9 with (fail); have hfl := field23; obtain ⟨z1, hz1⟩ : ∃ z, valL c.wg ofHigh c.lt L1 = z := ⟨_, rfl⟩; obtain ⟨z2, hz2⟩ : ∃ z, valL c.wg ofHigh c.lt Lb = z := ⟨_, rfl⟩; have HZ1 := Lib.hid hz1; have HZ2 := Lib.hid hz2; clear hz1 hz2
   refine wp_region_havoc [(0,false),(1,false),(2,false),(3,false),(4,false),(5,false),(6,false),(7,false),(8,false),(9,false),(10,false),(11,false)] [] (fun _ _ => False) (by kernel_rfl) (by kernel_rfl) (fun _ _ _ _ h => h.elim) ?_
   (apply hav_same (by exact ho rfl) (by kernel_rfl); (focus (intro wv hgv _; have hcv := cvB hgv; (try go_simp); try rfl; done)); simp only [Act.put, qA9, qB9, qC9])
   iterate 4 (apply hav_same (by exact ho rfl) (by kernel_rfl); (focus (intro wv hgv _; have hcv := cvB hgv; (try go_simp); try rfl; done)); simp only [Act.put, qA9, qB9, qC9])
   (apply hav_call (by exact ho rfl) (by kernel_rfl); (focus (intro wv; go_simp; try exact ⟨rfl, rfl⟩; done)); (focus (intro wv hgv _; refine (rworth_any (fa := fa) (fl := fl) (fc := fc) (la := la) (ll := ll) (lc := lc) (wa := wa) (wn := wn) (wc := wc) (ta := ta) (tn := tn) (tc := tc) (cl := c1) (openE_true HEE.out).1 HL1O.out.2 (by rw [HL1O.out.1, HET.out]) wv (HPR.out.grow hgv) (HR1.out.below hgv).rd).mono ?_; rw [worthS_val, HV1.out.1, HZ1.out]; rintro e w' ⟨rfl, hb⟩; exact ⟨rfl, hb⟩; done)); simp only [Act.put, qA9, qB9, qC9])
   unfold spanV; iterate 3 (apply hav_same (by exact ho rfl) (by kernel_rfl); (focus (intro wv hgv _; have hcv := cvB hgv; (try go_simp); try rfl; done)); simp only [Act.put, qA9, qB9, qC9])
   (apply hav_call (by exact ho rfl) (by kernel_rfl); (focus (intro wv; go_simp; try exact ⟨rfl, rfl⟩; done)); (focus (intro wv hgv _; refine (rworth_any (fa := fa) (fl := fl) (fc := fc) (la := la) (ll := ll) (lc := lc) (wa := wa) (wn := wn) (wc := wc) (ta := ta) (tn := tn) (tc := tc) (cl := cb) (openE_true HEE.out).1 HLBO.out.2 (by rw [HLBO.out.1, HET.out]) wv (HPR.out.grow hgv) (HRB.out.below hgv).rd).mono ?_; rw [worthS_val, HV1.out.2, HZ2.out]; rintro e w' ⟨rfl, hb⟩; exact ⟨rfl, hb⟩; done)); simp only [Act.put, qA9, qB9, qC9])
   unfold spanV; iterate 2 (apply hav_same (by exact ho rfl) (by kernel_rfl); (focus (intro wv hgv _; have hcv := cvB hgv; (try go_simp); try rfl; done)); simp only [Act.put, qA9, qB9, qC9])
   clear hfl
   refine hav_end (fun w5 hgz _ => ?_)
   simp only [List.filterMap]; have hb5 : Below wr.heap.size wr w5 := hgz; have HB5 : Hid (Below w.heap.size w w5) := HBR.out.trans (hb5.mono HBR.out.size); have HK5 := Lib.hid (HKR.out.below hb5 HKR.out.lt); have HA5 := Lib.hid (HAR.out.below hb5); have HRB5 := Lib.hid (HRB.out.below hb5); have HR15 := Lib.hid (HR1.out.below hb5); have hc5 : w5.cell? ⟨g, k, none⟩ = some (.slice A1 tn c1) := (hb5.cell (p := ⟨g, k, none⟩) hg1).trans hc1; have hg5 : g < w5.heap.size := by have := hb5.size; omega
   clear hgz hb5 hc1 hg1; clear q0 q1 q2 q3 q4 q5 q6 q7 q8 q9 ql
   by_cases h : y2 < y1
   ·rw [if_pos h] at HTK; rw [← HTK.out] at HR15; have hd : y1 > y2 := h; go_wp2; go_roundw
    case rel => exact ⟨k + 1, A1, c1, by omega, by go_num, rfl, HR15, HA5, HB5, HK5⟩
    case measure => simp [intOf]; omega
   ·rw [if_neg h] at HTK; rw [← HTK.out] at HRB5; have hd : ¬ (y1 > y2) := h; go_wp2; go_roundw
    case rel => exact ⟨k + 1, A, cb, by omega, by go_num, rfl, HRB5, HA5, HB5, HK5⟩
    case measure => simp [intOf]; omega
  ·obtain rfl : k = N := by omega
   have HPL : Hid (Lb = planL c.tm c.wg ofBest c.lt (roomP c.wg)) := by
    show _ = _; have h := HLB.out; rw [List.take_of_length_le (by rw [← HAR.out.rows.1, HAR.out.len]; exact Nat.le_refl _)] at h
    rw [← h]; exact HFIN.out
   have HWO : Hid (valL c.wg ofBest c.lt Lb = (onP c.tm c.wg ofBest c.lt (roomP c.wg)).1) := by show _ = _; rw [HPL.out, plan_val]
   obtain ⟨y2, hy2⟩ : ∃ y, valL c.wg ofBest c.lt Lb = y := ⟨_, rfl⟩; have HY2 := Lib.hid hy2; clear hy2; go_wp2_with fail; obtain ⟨z2, hz2⟩ : ∃ z, valL c.wg ofHigh c.lt Lb = z := ⟨_, rfl⟩; refine (rworth_any (fa := fa) (fl := fl) (fc := fc) (la := la) (ll := ll) (lc := lc) (wa := wa) (wn := wn) (wc := wc) (ta := ta) (tn := tn) (tc := tc) (cl := cb) (openE_true HEE.out).1 HLBO.out.2 (by rw [HLBO.out.1, HET.out]) wr HPR.out HRB.out.rd).mono ?_
   rw [worthS_val, HY2.out, hz2]; have hfl := field23; rintro e w7 ⟨rfl, hb⟩; have HB7 : Hid (Below w.heap.size w w7) := HBR.out.trans (hb.mono HBR.out.size); have HR7 := Lib.hid (HRB.out.below hb); clear hb; clear q0 q1 q2 q3 q4 q5 q6 q7 q8 q9 ql; unfold spanV; go_wp2; go_ret3
   exact ⟨HB7.out, .inr ⟨HES.out, A, cb, by rw [← HWO.out, HY2.out]; rfl, by rw [← HPL.out]; exact HR7.out.rd⟩⟩
end
end Go.Proofs.YtgmfhngcehkibaaGreat
namespace Go.Proofs.YtgmfhngcehkibaaGreat
theorem setN_congr {f g : Nat → Bool} : ∀ n, (∀ i, i < n → f i = g i) → setN f n = setN g n
 | 0, _ => rfl
 | n + 1, h => by rw [setN, setN, setN_congr n (fun i hi => h i (by omega)), h n (by omega)]
end Go.Proofs.YtgmfhngcehkibaaGreat
namespace Go.Proofs.YtgmfhngcehkibaaGreat
open Go.RowKit Go.Hav Go.Shelf Go.Sq
attribute [local go_sem] Oper.semAt_some
def sentB (Ls : List (List Int)) (i : Nat) : Bool := Ls.any fun L => decide (L.getD i (-1) ≥ 0)
theorem sentB_next {Ls : List (List Int)} {L : List Int} {m n : Nat} {p : Int} (hL : Ls[m]? = some L) (hp : L[n]? = some p) : sentB (Ls.take (m + 1)) n = (sentB (Ls.take m) n || decide (p ≥ 0)) := by
 unfold sentB; rw [List.take_add_one, hL, List.any_append]
 simp [hp]
theorem fitsAny_iff {c : ICart} {l : ILot} : ∀ n, fitsAny c l n = true ↔ ∃ k, k < n ∧ fitsW c.tm c.wg l k (roomP c.wg) = true
 | 0 => by simp [fitsAny]
 | n + 1 => by
  rw [fitsAny, Bool.or_eq_true, fitsAny_iff n]; constructor
  ·rintro (⟨k, h, hf⟩ | h)
   ·exact ⟨k, by omega, hf⟩
   ·exact ⟨n, by omega, h⟩
  ·rintro ⟨k, h, hf⟩
   by_cases he : k = n
   ·subst he; exact .inr hf
   ·exact .inl ⟨k, by omega, hf⟩
theorem sentB_iff {Ls : List (List Int)} {i : Nat} : sentB Ls i = true ↔ ∃ q ∈ Ls, ∃ p, q[i]? = some p ∧ 0 ≤ p := by
 unfold sentB; rw [List.any_eq_true]; constructor
 ·rintro ⟨q, hq, h⟩; have h := of_decide_eq_true h
  cases e : q[i]? with
  | none => simp [e] at h
  | some p => exact ⟨q, hq, p, e, by simpa [e] using h⟩
 ·rintro ⟨q, hq, p, e, h⟩; exact ⟨q, hq, decide_eq_true (by simpa [e] using h)⟩
theorem stay_is {c : ICart} (hok : okC c = true) : stayP c = setN (fun i => !sentB (plansL c.tm c.wg c.lt (roomP c.wg)) i) c.lt.length := by
 unfold stayP
 refine setN_congr _ fun i hi => ?_
 obtain ⟨l, hl⟩ : ∃ l, c.lt[i]? = some l := ⟨c.lt[i]'hi, by simp⟩
 have hb : ∀ l ∈ c.lt, 0 ≤ l.bales := fun l hl => by
  have := lotB_iff.1 ((okC_parts hok).2.2.2.2.2 l hl)
  omega
 unfold staysB; rw [hl]; show (!fitsAny c l c.wg.length) = _
 congr 1
 refine Bool.eq_iff_iff.2 ?_; rw [sentB_iff, sent_iff hb hl, fitsAny_iff]; constructor
 ·rintro ⟨k, -, h⟩; exact ⟨k, h⟩
 ·rintro ⟨k, h⟩; exact ⟨k, fitsW_lt h, h⟩
section
variable {fa la wa ta : Option Addr} {fl fc ll lc wn wc tn tc : Nat} {c : ICart}
variable {w : World}
theorem rStay_any (w : World) (hP : CtIn w w.heap.size fa fl la ll wa wn ta tn c) : Calls Tryz.prog 27 #[(.agg #[.int .i64 c.riv.depth.lo, .int .i64 c.riv.depth.hi, .int .i64 c.riv.fall.lo, .int .i64 c.riv.fall.hi, .int .i64 c.riv.days, .slice fa fl fc, .slice la ll lc, .int .i64 c.draws, .slice wa wn wc, .slice ta tn tc])] w fun e w' => e = .returned (.tuple #[.int .i64 (stayV c : Nat), .int .i64 (stayE c : Nat)]) ∧ Below w.heap.size w w' := by
 have HP := Lib.hid hP; have HET := Lib.hid hP.etn; obtain ⟨EE, hEE⟩ : ∃ EE : Nat, stayE c = EE := ⟨_, rfl⟩; have HEE : Hid (openE c true = EE) := hEE; have HES : Hid (stayE c = EE) := hEE; clear hP hEE; obtain ⟨W, hW⟩ : ∃ W, W = w.alloc (.cells #[.int .i64 c.riv.depth.lo, .int .i64 c.riv.depth.hi, .int .i64 c.riv.fall.lo, .int .i64 c.riv.fall.hi, .int .i64 c.riv.days, .slice fa fl fc, .slice la ll lc, .int .i64 c.draws, .slice wa wn wc, .slice ta tn tc] 31) := ⟨_, rfl⟩; obtain ⟨b1, hb1⟩ : ∃ b, b = w.heap.size := ⟨_, rfl⟩; have HK0 : Hid (Blk W b1 31 #[.int .i64 c.riv.depth.lo, .int .i64 c.riv.depth.hi, .int .i64 c.riv.fall.lo, .int .i64 c.riv.fall.hi, .int .i64 c.riv.days, .slice fa fl fc, .slice la ll lc, .int .i64 c.draws, .slice wa wn wc, .slice ta tn tc]) := by rw [hW, hb1]; exact Blk.new w 31 _
 have HB0 : Hid (Below w.heap.size w W) := by rw [hW]; exact (Below.refl _ _).alloc (Nat.le_refl _) _
 go_enter Tryz.func27, Tryz.ntmps27
 go_upto_region 1 with (fail); rw [← hW, ← hb1]; clear hW hb1; have hx := HK0.out; obtain ⟨q0, q1, q2, q3, q4, q5, q6, q7, q8, q9, ql⟩ := cx31 hx; clear hx; go_wp2_with fail; refine (rcheck_any (fa := fa) (fl := fl) (fc := fc) (la := la) (ll := ll) (lc := lc) (wa := wa) (wn := wn) (wc := wc) (ta := ta) (tn := tn) (tc := tc) true W (HP.out.grow HB0.out)).mono ?_; rw [HEE.out]; rintro e w1 ⟨rfl, hb⟩; have HB1 : Hid (Below w.heap.size w w1) := HB0.out.trans (hb.mono HB0.out.size); have HK1 := Lib.hid (HK0.out.below hb HK0.out.lt); clear hb; clear q0 q1 q2 q3 q4 q5 q6 q7 q8 q9 ql
 by_cases h0 : EE = 0
 case neg =>
  have HNZ := Lib.hid h0; have h1 : ((EE : Int) != 0) = true := by simp; exact h0
  have h2 : ((EE : Int) == 0) = false := by simp; exact h0
  clear h0; go_wp2; go_ret2
  exact ⟨by rw [HES.out, stayV, if_neg (by rw [HES.out]; exact HNZ.out)]; rfl, HB1.out⟩
 subst h0; obtain ⟨Ls, hLs⟩ : ∃ Ls, Ls = plansL c.tm c.wg c.lt (roomP c.wg) := ⟨_, rfl⟩
 have HFS : Hid (stayV c = setN (fun i => !sentB Ls i) tn) := by
  show _ = _; rw [stayV, if_pos HES.out, hLs, ← HET.out]; exact stay_is (openE_true HEE.out).1
 have htn : tn ≤ 5 := by have := (okC_parts (openE_true HEE.out).1).2.2.2.1; rw [HET.out] at this; exact this
 have hx := HK1.out; obtain ⟨q0, q1, q2, q3, q4, q5, q6, q7, q8, q9, ql⟩ := cx31 hx; clear hx; go_upto_region 4 with (fail)
 refine wp_region_havoc [(0,false),(1,false),(2,true),(3,true),(4,false)] [] (fun _ _ => False) (by kernel_rfl) (by kernel_rfl) (fun _ _ _ _ h => h.elim) ?_
 iterate 2 (apply hav_same (by exact ho rfl) (by kernel_rfl); (focus (intro wv hgv _; have hcv := cvB hgv; (try go_simp); try rfl; done)); simp only [Act.put, qA9, qB9, qC9])
 apply hav_call_ghost (fun v wv => ∃ At ct, v = .slice At wn ct ∧ RdG inI 1 wv wv.heap.size At (timesL c)) (by exact ho rfl) (by kernel_rfl)
 ·intro wv
  go_simp
  try exact ⟨rfl, rfl⟩
  done
 ·rintro v w1 w2 ⟨At, ct, e, h⟩ hg; exact ⟨At, ct, e, h.grow hg⟩
 ·intro wv hgv _; refine (rtimes_any (fa := fa) (fl := fl) (fc := fc) (la := la) (ll := ll) (lc := lc) (wa := wa) (wn := wn) (wc := wc) (ta := ta) (tn := tn) (tc := tc) HEE.out wv (HP.out.grow (HB1.out.trans (hgv.mono HB1.out.size)))).mono ?_; rintro e w' ⟨At, ct, rfl, htr, hb⟩; exact .inl ⟨_, rfl, hb, At, ct, rfl, htr⟩
 intro v; simp only [Act.put, qA9, qB9, qC9]
 by_cases hv : ∃ At ct, v = .slice At wn ct
 case neg =>
  have hno : ∀ (w : World) (Φ : Prop), (Φ ∧ ∃ At ct, v = .slice At wn ct ∧ RdG inI 1 w w.heap.size At (timesL c)) → False := fun w Φ ⟨_, A, c', h, _⟩ => hv ⟨A, c', h⟩
  refine hav_ghost (fun _ _ => True) (by exact ho rfl) (fun _ _ _ _ _ => trivial) (fun w hg hF => (hno _ _ hF).elim) ?_
  intro v3; simp only [Act.put, qA9, qB9, qC9]
  (refine hav_det (V := undef) (by exact ho rfl) (fun _ _ hF => (hno _ _ hF.1).elim) ?_; simp only [Act.put, qA9, qB9, qC9])
  exact hav_end (fun w6 hg6 hF => (hno _ _ hF.1).elim)
 obtain ⟨At, ct, rfl⟩ := hv
 apply hav_call_ghost (fun v wv => ∃ g cp N xs, v = .slice (some ⟨g, 0, none⟩) N cp ∧ ∃ B, AllP c wv B g N xs (plansL c.tm c.wg c.lt (roomP c.wg))) (by exact ho rfl) (by kernel_rfl)
 ·intro wv
  go_simp
  try exact ⟨rfl, rfl⟩
  done
 ·rintro v w1 w2 ⟨g, cp, N, xs, e, B, h⟩ hg; exact ⟨g, cp, N, xs, e, B, h.below hg⟩
 ·intro wv hgv hF; obtain ⟨_, At', ct', e, hr⟩ := hF; cases e
  refine (plans0_any (fa := fa) (fl := fl) (fc := fc) (la := la) (ll := ll) (lc := lc) (wa := wa) (wn := wn) (wc := wc) (ta := ta) (tn := tn) (tc := tc) HEE.out wv (HP.out.grow (HB1.out.trans (hgv.mono HB1.out.size))) hr).mono ?_; rintro e w' ⟨g, cp, N, xs, rfl, ha, hb⟩; exact .inl ⟨_, rfl, hb, g, cp, N, xs, rfl, _, ha⟩
 intro v; simp only [Act.put, qA9, qB9, qC9]; (apply hav_same (by exact ho rfl) (by kernel_rfl); (focus (intro wv hgv _; have hcv := cvB hgv; (try go_simp); try rfl; done)); simp only [Act.put, qA9, qB9, qC9])
 refine hav_end (fun w2 hgz hF => ?_)
 simp only [List.filterMap]; obtain ⟨-, g, cp, N, xs, rfl, B, hall⟩ := hF; have hb : Below w1.heap.size w1 w2 := hgz; have HB2 : Hid (Below w.heap.size w w2) := HB1.out.trans (hb.mono HB1.out.size); have HK2 := Lib.hid (HK1.out.below hb HK1.out.lt); rw [← hLs] at hall; have HALL := Lib.hid hall; have hN := hall.n; have hNp := hall.pos; clear hgz hb hall hLs; clear q0 q1 q2 q3 q4 q5 q6 q7 q8 q9 ql; go_wp2
 go_loopw [6, 7] (fun a i wr => ∃ n : Nat, n ≤ tn ∧ i = .int .i64 n ∧ a = .int .i64 (setN (fun i => !sentB Ls i) n : Nat) ∧ Hid (AllP c wr B g N xs Ls) ∧ Hid (Below w.heap.size w wr) ∧ Hid (Blk wr b1 31 #[.int .i64 c.riv.depth.lo, .int .i64 c.riv.depth.hi, .int .i64 c.riv.fall.lo, .int .i64 c.riv.fall.hi, .int .i64 c.riv.days, .slice fa fl fc, .slice la ll lc, .int .i64 c.draws, .slice wa wn wc, .slice ta tn tc])) (fun _ i _ => tn - (intOf i).toNat)
 case atStart => exact ⟨0, Nat.zero_le _, rfl, rfl, HALL, HB2, HK2⟩
 case round =>
  obtain ⟨n, hn, rfl, rfl, HAR, HBR, HKR⟩ := hrel; have hx := HKR.out; obtain ⟨q0, q1, q2, q3, q4, q5, q6, q7, q8, q9, ql⟩ := cx31 hx; clear hx
  by_cases hlt : n < tn
  ·go_wp2
   go_loopw [8, 9] (fun a i wr => ∃ m : Nat, m ≤ N ∧ i = .int .i64 m ∧ a = .bool (sentB (Ls.take m) n) ∧ Hid (AllP c wr B g N xs Ls) ∧ Hid (Below w.heap.size w wr) ∧ Hid (Blk wr b1 31 #[.int .i64 c.riv.depth.lo, .int .i64 c.riv.depth.hi, .int .i64 c.riv.fall.lo, .int .i64 c.riv.fall.hi, .int .i64 c.riv.days, .slice fa fl fc, .slice la ll lc, .int .i64 c.draws, .slice wa wn wc, .slice ta tn tc])) (fun _ i _ => N - (intOf i).toNat)
   case atStart => exact ⟨0, Nat.zero_le _, rfl, rfl, HAR, HBR, HKR⟩
   case round =>
    obtain ⟨m, hm, rfl, rfl, HAM, HBM, HKM⟩ := hrel
    by_cases hmt : m < N
    ·obtain ⟨A1, c1, L1, hL1, hc1, hr1, hg1⟩ := HAM.out.at_ hmt; obtain ⟨hl1, -⟩ := HAM.out.ok _ (List.mem_of_getElem? hL1); rw [HET.out] at hc1 hl1; obtain ⟨p, hp⟩ : ∃ p, L1[n]? = some p := ⟨L1[n]'(by omega), by simp⟩
     obtain ⟨b, off, cur, rfl, hbk, hcur⟩ := hr1 n p hp; have cp1 : wr.cell? ⟨b, off + n, none⟩ = some (.int .i64 p) := (hbk.cell _).trans hcur; have hbl := hbk.lt; have HSB := Lib.hid (sentB_next hL1 hp); have hmi : (m : Int) < N := by omega
     have hni : (n : Int) < tn := by omega
     clear hL1 hp hbk hcur hr1 hl1; obtain ⟨S, hS⟩ : ∃ S, S = sentB (Ls.take m) n := ⟨_, rfl⟩; rw [← hS] at HSB ⊢; clear hS; cases S
     ·by_cases h0 : 0 ≤ p
      ·have hd : decide (p ≥ 0) = true := by simpa using h0
       rw [hd.symm.symm] at HSB; go_wp2; go_roundw
       case rel => exact ⟨m + 1, by omega, by go_num, by rw [HSB.out]; rfl, HAM, HBM, HKM⟩
       case measure => simp [intOf]; omega
      ·have hd : decide (p ≥ 0) = false := by simpa using h0
       rw [hd] at HSB; go_wp2; go_roundw
       case rel => exact ⟨m + 1, by omega, by go_num, by rw [HSB.out]; rfl, HAM, HBM, HKM⟩
       case measure => simp [intOf]; omega
     ·go_wp2; go_roundw
      case rel => exact ⟨m + 1, by omega, by go_num, by rw [HSB.out]; rfl, HAM, HBM, HKM⟩
      case measure => simp [intOf]; omega
    ·obtain rfl : N = m := by omega
     have hx := HKM.out; obtain ⟨q0, q1, q2, q3, q4, q5, q6, q7, q8, q9, ql⟩ := cx31 hx; clear hx; have HTK : Hid (Ls.take N = Ls) := List.take_of_length_le (by rw [← HAM.out.rows.1, HAM.out.len]; exact Nat.le_refl _)
     rw [HTK.out]; obtain ⟨S, hS⟩ : ∃ S, S = sentB Ls n := ⟨_, rfl⟩; have HS := Lib.hid hS; rw [← hS]; clear hS
     have HSN : Hid (setN (fun i => !sentB Ls i) (n + 1) = setN (fun i => !sentB Ls i) n + if (!S) = true then 2 ^ n else 0) := by show _ = _; rw [HS.out]; rfl
     have hA := setN_lt (fun i => !sentB Ls i) n
     obtain ⟨F, hF⟩ : ∃ F, F = setN (fun i => !sentB Ls i) n := ⟨_, rfl⟩
     rw [← hF] at hA HSN ⊢; clear hF; have h2k : 2 ^ n ≤ 1024 := Nat.pow_le_pow_right (n := 2) (by omega) (show n ≤ 10 by omega)
     cases S
     ·go_upto_region 15 with (fail); go_wp2_with fail; refine (cpower_any n (by omega) wr).mono ?_
      rintro e w7 ⟨rfl, rfl⟩; have hpc : ((2 : Int) ^ n) = ((2 ^ n : Nat) : Int) := (pow_cast n).symm; rw [hpc]; obtain ⟨T, hT⟩ : ∃ T, T = 2 ^ n := ⟨_, rfl⟩; rw [← hT] at HSN hA h2k ⊢; clear hT hpc; have hwr : IntKind.i64.wrap ((F : Int) + T) = F + T := IntWalk.i64_in _ (by omega)
      go_wp2; go_roundw
      case rel => exact ⟨n + 1, by omega, by go_num, by rw [HSN.out]; simp, HAM, HBM, HKM⟩
      case measure => simp [intOf]; omega
     ·go_wp2; go_roundw
      case rel => exact ⟨n + 1, by omega, by go_num, by rw [HSN.out]; simp, HAM, HBM, HKM⟩
      case measure => simp [intOf]; omega
  ·obtain rfl : tn = n := by omega
   go_wp2; go_ret2
   exact ⟨by rw [HFS.out, HES.out]; rfl, HBR.out⟩
end
end Go.Proofs.YtgmfhngcehkibaaGreat
