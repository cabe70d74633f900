/- The days on which a wagon can come, one after the other; whether it is in time. The rules that a lot can break, one after the other; sums; how much room there is; what a lot brings. The reference of the carts: check, timely, times. The first rule that a lot breaks; how much room there is. Condition: what the statements say. -/
import Derived.Test.YtgmfhngcehkibaaGreatPkB15
set_option maxRecDepth 100000
set_option maxHeartbeats 6400000
namespace Go.Proofs.YtgmfhngcehkibaaGreat
open Go.RowKit Go.Hav Go.Shelf Go.Sq
attribute [local go_sem] Oper.semAt_some
def daysN (first n : Nat) : List Nat := (List.range n).map (first + ·)
theorem daysN_len (first n : Nat) : (daysN first n).length = n := by simp [daysN]
theorem daysN_at {first n k : Nat} (h : k < n) : (daysN first n)[k]? = some (first + k) := by simp [daysN, h]
theorem days_seq (Ty : TypeId → Prop) (Kx : World → World → Prop) (hT : ¬ Ty 65) (hKx : ∀ X Y : World, Kx X Y → ∀ (b : Nat) (o : Obj), X.heap[b]? = some o → o.isCells = true → Y.heap[b]? = some o) (bw lv lo n : Nat) (rm : Int) (h1 : lv ≤ 10) (h2 : lo ≤ 6) (h3 : n ≤ 6) (h4 : 0 < n) :
  SeqL Tryz.prog 123 #[.pointer (some ⟨bw, 0, none⟩)] ((daysN (lv + lo) n).map encB) Ty Kx (fun S W => Blk W bw 65 #[.int .i64 lv, .int .i64 lo, .int .i64 ((lo + n - 1 : Nat) : Int), .int .i64 rm] ∧ ¬ S bw) := by
 rintro S L J Jx W ⟨hbw, nbw⟩ hSL hSW hJ hJx hY h0; have HJ := Lib.hid hJ; have HY := Lib.hid hY; have HJ0 := Lib.hid h0; have HB0 := Lib.hid hbw; have HK := Lib.hid (OwnT.blk (B := W.heap.size) (g := bw) (cs := #[.int .i64 lv, .int .i64 lo, .int .i64 ((lo + n - 1 : Nat) : Int), .int .i64 rm]) hT hKx); have u1 : W.cell? ⟨bw, 1, none⟩ = some (.int .i64 lo) := hbw.cell 1; have l1 := hbw.lt; clear hJ hJx hY h0 hbw hT hKx; refine (callsIn_wide (n := 6)).1 (callsIn_of_wp Tryz.func123 rfl trivial ?_ rfl); simp only [Tryz.ntmps123, List.size_toArray, List.length_cons, List.length_nil, Nat.reduceAdd, Nat.reduceSub, Array.replicate_succ, Array.replicate_zero, List.push_toArray, List.append_toArray, List.nil_append, List.cons_append]
 gi_wp2
 clear u1 l1
 gi_loopw [3] (fun v wr => ∃ j, j ≤ n ∧ v = .int .i64 ((lo + j : Nat) : Int) ∧ Hid (J j wr) ∧ Hid (Blk wr bw 65 #[.int .i64 lv, .int .i64 lo, .int .i64 ((lo + n - 1 : Nat) : Int), .int .i64 rm])) (fun v _ => lo + n - (intOf v).toNat)
 case atStart => exact ⟨0, Nat.zero_le _, rfl, HJ0, HB0⟩
 case round =>
  obtain ⟨j, hj, rfl, HJr, HBr⟩ := hrel; have u0 : wr.cell? ⟨bw, 0, none⟩ = some (.int .i64 lv) := HBr.out.cell 0; have u2 : wr.cell? ⟨bw, 2, none⟩ = some (.int .i64 ((lo + n - 1 : Nat) : Int)) := HBr.out.cell 2; have l1 := HBr.out.lt
  by_cases hlt : j < n
  ·have hc : ((lo + j : Nat) : Int) ≤ ((lo + n - 1 : Nat) : Int) := by omega
   obtain ⟨fn, tmps, assign, body, hy, hR⟩ := HY.out j (encB (lv + lo + j)) wr HJr.out (by rw [List.getElem?_map, daysN_at hlt]; rfl)
   unfold encB at hy; rw [show ((lv + lo + j : Nat) : Int) = (lv : Int) + ((lo : Int) + (j : Int)) by omega] at hy
   have HR := Lib.hid hR; clear hR
   gi_wp2_with fail
   refine RoundIn.anyDepth (m := 0) rfl (HR.out.mono ?_); rintro e Y ⟨hT2, (⟨rfl, hJ2⟩ | ⟨rfl, hJ2⟩)⟩
   ·have HJ2 := Lib.hid hJ2; have HB2 : Hid (Blk Y bw 65 #[.int .i64 lv, .int .i64 lo, .int .i64 ((lo + n - 1 : Nat) : Int), .int .i64 rm]) := HBr.out.turn hT2 nbw; clear hT2 hJ2 u0 u2 hy
    gi_wp2
    go_roundw
    case rel => exact ⟨j + 1, by omega, by go_num, HJ2, HB2⟩
    case measure => simp [intOf]; omega
   ·have HJ2 := Lib.hid hJ2; clear hT2 hJ2 u0 u2 hy
    gi_wp2
    refine bodyPost_ret (results_none rfl _ _ _) rfl ?_; exact ⟨⟨_, rfl⟩, .inr HJ2.out⟩
  ·have hc : ¬ ((lo + j : Nat) : Int) ≤ ((lo + n - 1 : Nat) : Int) := by omega
   have HJ2 : Hid (J (daysN (lv + lo) n).length wr) := by
    show J _ wr; rw [daysN_len, ← show j = n by omega]
    exact HJr.out
   gi_wp2
   go_end0
   exact ⟨⟨_, rfl⟩, .inl HJ2.out⟩
theorem days_any (cs : Array Value) (w : World) :
  Calls Tryz.prog 94 #[.agg cs] w fun e w' => e = .returned (.func (.func 123) #[] #[.pointer (some ⟨w.heap.size, 0, none⟩)]) ∧ w' = w.alloc (.cells cs 65) := by
 have hmf := hmf0
 go_enter Tryz.func94, Tryz.ntmps94
 go_wp2; go_ret
 exact ⟨rfl, rfl⟩
structure YdIn (w : World) (B d : Nat) (fa : Option Addr) (fl fc : Nat) (la : Option Addr) (ll lc : Nat) (wa : Option Addr) (wn wc : Nat) (ta : Option Addr) (tn tc : Nat) (c : ICart) : Prop where
 blk : Blk w d 123 #[.int .i64 c.riv.depth.lo, .int .i64 c.riv.depth.hi, .int .i64 c.riv.fall.lo, .int .i64 c.riv.fall.hi, .int .i64 c.riv.days, .slice fa fl fc, .slice la ll lc, .int .i64 c.draws, .slice wa wn wc, .slice ta tn tc, .int .i64 (surelyP c.riv.nat c.draws.toNat : Nat), .int .i64 (perhapsP c.riv.nat c.draws.toNat : Nat)]
 hwg : RdG wgI 4 w B wa c.wg
 hlt : RdG ltI 5 w B ta c.lt
 ewn : c.wg.length = wn
 etn : c.lt.length = tn
 ok : okC c = true
 hB : B ≤ w.heap.size
 hBd : B ≤ d
section
variable {fa la wa ta : Option Addr} {fl fc ll lc wn wc tn tc : Nat} {c : ICart}
variable {w w' : World} {B d : Nat}
theorem YdIn.grow (h : YdIn w B d fa fl fc la ll lc wa wn wc ta tn tc c) (hb : Below w.heap.size w w') : YdIn w' B d fa fl fc la ll lc wa wn wc ta tn tc c := { h with blk := h.blk.below hb h.blk.lt, hwg := h.hwg.below (hb.mono h.hB), hlt := h.hlt.below (hb.mono h.hB), hB := Nat.le_trans h.hB hb.size }
theorem YdIn.turn {S : Nat → Prop} (h : YdIn w B d fa fl fc la ll lc wa wn wc ta tn tc c) (t : Turn S w w') (hs : ∀ b, S b → B ≤ b) (hd : ¬ S d) : YdIn w' B d fa fl fc la ll lc wa wn wc ta tn tc c := { h with blk := h.blk.turn t hd, hwg := h.hwg.below (t.below h.hB hs), hlt := h.hlt.below (t.below h.hB hs), hB := Nat.le_trans h.hB t.size }
theorem allT_false {days S first : Nat} {j : Nat} : ∀ {n : Nat}, j < n → (decide (first + j ≤ days) && S.testBit (first + j)) = false → allT days S first n = false
 | n + 1, h, e => by
  unfold allT
  by_cases hj : j = n
  ·rw [← hj, e, Bool.and_false]
  ·rw [allT_false (show j < n by omega) e, Bool.false_and]
theorem someT_stop {days S first : Nat} {j : Nat} (h : ¬ first + j ≤ days) : ∀ {n : Nat}, j ≤ n → someT days S first n = someT days S first j
 | 0, hj => by rw [show j = 0 by omega]
 | n + 1, hj => by
  by_cases e : j = n + 1
  ·rw [e]
  ·rw [someT, someT_stop h (show j ≤ n by omega), show decide (first + n ≤ days) = false from decide_eq_false (by omega), Bool.false_and, Bool.or_false]
theorem inTime_any (k : Nat) (wg : IWag) (hk : c.wg[k]? = some wg) (hY : YdIn w B d fa fl fc la ll lc wa wn wc ta tn tc c) : Calls Tryz.prog 53 #[.pointer (some ⟨d, 0, none⟩), .int .i64 k] w fun e w' => e = .returned (.int .i64 (c.tm wg : Nat)) ∧ Below w.heap.size w w' := by
 have hgo := (okC_parts hY.ok).2.2.2.2.1 wg (List.mem_of_getElem? hk); have hwB := wagB_iff.1 hgo; have hri := okR_parts (okC_parts hY.ok).1; have hkw : k < wn := by have := (List.getElem?_eq_some_iff.1 hk).1; have := hY.ewn; omega
 have hw3 : wn ≤ 3 := by have := hY.ewn; have := (okC_parts hY.ok).2.2.1; omega
 obtain ⟨bk, off, rfl, hbl, H0, H1, H2, H3⟩ := rd_wg hY.hwg k wg hk; obtain ⟨dn, hdn⟩ : ∃ dn : Nat, c.riv.days = dn := ⟨c.riv.days.toNat, by have := inB_iff.1 hri.1.2.2.1; omega⟩
 have hd10 : dn ≤ 10 := by have := inB_iff.1 hri.1.2.2.1; omega
 obtain ⟨lv, hlv⟩ : ∃ lv : Nat, wg.leaves = lv := ⟨wg.leaves.toNat, by omega⟩
 obtain ⟨lo, hlo⟩ : ∃ lo : Nat, wg.takes.lo = lo := ⟨wg.takes.lo.toNat, by omega⟩
 obtain ⟨n, hn, hn0, hn6⟩ : ∃ n : Nat, wg.takes.hi = ((lo + n - 1 : Nat) : Int) ∧ 0 < n ∧ n ≤ 6 := ⟨(wg.takes.hi - wg.takes.lo + 1).toNat, by omega, by omega, by omega⟩
 obtain ⟨S, hS⟩ : ∃ S, S = surelyP c.riv.nat c.draws.toNat := ⟨_, rfl⟩; obtain ⟨Q, hQ⟩ : ∃ Q, Q = perhapsP c.riv.nat c.draws.toNat := ⟨_, rfl⟩; have hnd : c.riv.nat.days = dn := by show c.riv.days.toNat = dn; omega
 have hSb : S < 4611686018427387904 := by
  have h := setN_lt (fun d => bearsP c.riv.nat c.draws.toNat d == 2) (c.riv.nat.days + 1)
  rw [hS]; exact Nat.lt_of_lt_of_le h (Nat.le_trans (Nat.pow_le_pow_right (by omega) (show c.riv.nat.days + 1 ≤ 11 by omega)) (by omega))
 have hQb : Q < 4611686018427387904 := by
  have h := setN_lt (fun d => bearsP c.riv.nat c.draws.toNat d != 0) (c.riv.nat.days + 1)
  rw [hQ]; exact Nat.lt_of_lt_of_le h (Nat.le_trans (Nat.pow_le_pow_right (by omega) (show c.riv.nat.days + 1 ≤ 11 by omega)) (by omega))
 have HTM : Hid (c.tm wg = if allT dn S (lv + lo) n = true then 2 else if someT dn Q (lv + lo) n = true then 1 else 0) := by
  show _ = _; unfold ICart.tm timelyW; rw [hnd, ← hS, ← hQ, show (wg.leaves + wg.takes.lo).toNat = lv + lo by omega, show (wg.takes.hi - wg.takes.lo + 1).toNat = n by omega]
 have hlo6 : lo ≤ 6 := by omega
 have hlv10 : lv ≤ 10 := by omega
 have hblk := hY.blk; rw [hdn, ← hS, ← hQ] at hblk; rw [hlv] at H0; rw [hlo] at H1; rw [hn] at H2; obtain ⟨rm, hrm⟩ : ∃ rm, wg.room = rm := ⟨_, rfl⟩; rw [hrm] at H3; have HSB := Lib.hid hSb; have HQB := Lib.hid hQb; have hBs := hY.hB; have hbw : bk < w.heap.size := by omega
 clear hS hQ hSb hQb hrm hgo hwB hri hnd hlv hlo hn hk hdn hY; refine (callsIn_wide (n := 6)).1 (callsIn_of_wp_marks Tryz.func53 rfl trivial ?_ rfl); simp only [Tryz.ntmps53, List.size_toArray, List.length_cons, List.length_nil, Nat.reduceAdd, Nat.reduceSub, Array.replicate_succ, Array.replicate_zero, List.push_toArray, List.append_toArray, List.nil_append, List.cons_append]; refine wpIn_wide.2 ?_; go_wp2_with fail; refine wp_scope_straight ?_; go_wp2_with fail; obtain ⟨W1, hW1⟩ : ∃ W1, W1 = ((w.alloc (.cells #[.pointer (some ⟨d, 0, none⟩)] 85)).alloc (.cells #[.bool true] 4)).alloc (.cells #[.bool false] 4) := ⟨_, rfl⟩; obtain ⟨b2, hb2⟩ : ∃ b, b = w.heap.size := ⟨_, rfl⟩; obtain ⟨b5, hb5⟩ : ∃ b, b = w.heap.size + 1 := ⟨_, rfl⟩; obtain ⟨b6, hb6⟩ : ∃ b, b = w.heap.size + 1 + 1 := ⟨_, rfl⟩; have hs1 : W1.heap.size = w.heap.size + 3 := by rw [hW1]; simp
 have HB1 : Hid (Below w.heap.size w W1) := by rw [hW1]; exact (((Below.refl _ _).alloc (Nat.le_refl _) _).alloc (by simp) _).alloc (by simp; omega) _
 have HX2 : Hid (Blk W1 b2 85 #[.pointer (some ⟨d, 0, none⟩)]) := by rw [hW1, hb2]; exact ((Blk.new w 85 _).alloc _).alloc _
 have HX5 : Hid (Blk W1 b5 4 #[.bool (allT dn S (lv + lo) 0)]) := by rw [hW1, hb5]; exact (Blk.new_ (by simp) 4 _).alloc _
 have HX6 : Hid (Blk W1 b6 4 #[.bool (someT dn Q (lv + lo) 0)]) := by rw [hW1, hb6]; exact Blk.new_ (by simp) 4 _
 have HXD := Lib.hid (hblk.below HB1.out hblk.lt); have hdw := hblk.lt; have HN : Hid (W1.heap.size = w.heap.size + 3 ∧ b2 = w.heap.size ∧ b5 = w.heap.size + 1 ∧ b6 = w.heap.size + 2 ∧ d < w.heap.size) := ⟨hs1, hb2, hb5, hb6, hdw⟩; have z0 := (Below.cell HB1.out (p := ⟨bk, off + k * 4, none⟩) hbw).trans H0; have z1 := (Below.cell HB1.out (p := ⟨bk, off + k * 4 + 1, none⟩) hbw).trans H1; have z2 := (Below.cell HB1.out (p := ⟨bk, off + k * 4 + 2, none⟩) hbw).trans H2; have z3 := (Below.cell HB1.out (p := ⟨bk, off + k * 4 + 3, none⟩) hbw).trans H3; have y2 : W1.cell? ⟨b2, 0, none⟩ = some (.pointer (some ⟨d, 0, none⟩)) := HX2.out.cell 0; have y8 : W1.cell? ⟨d, 8, none⟩ = some (.slice (some ⟨bk, off, none⟩) wn wc) := HXD.out.cell 8; have yl := HXD.out.lt; have y2l := HX2.out.lt; have zl : bk < W1.heap.size := by omega
 rw [← hW1, ← hb6, ← hb5, ← hb2]; clear hW1 hb2 hb5 hb6 hs1 hdw H0 H1 H2 H3 hblk hbl hbw; refine wp_label ?_; go_wp2_with fail; refine (days_any _ W1).mono ?_; rintro e w2 ⟨rfl, rfl⟩; clear y2 y8 yl y2l zl z0 z1 z2 z3; obtain ⟨W2, hW2⟩ : ∃ W2, W2 = W1.alloc (.cells #[.int .i64 lv, .int .i64 lo, .int .i64 ((lo + n - 1 : Nat) : Int), .int .i64 rm] 65) := ⟨_, rfl⟩; obtain ⟨b7, hb7⟩ : ∃ b, b = W1.heap.size := ⟨_, rfl⟩; rw [← hW2, ← hb7]; have HB2 : Hid (Below W1.heap.size W1 W2) := by rw [hW2]; exact (Below.refl _ _).alloc (Nat.le_refl _) _
 have hs2 : W2.heap.size = W1.heap.size + 1 := by rw [hW2]; simp
 have HX7 : Hid (Blk W2 b7 65 #[.int .i64 lv, .int .i64 lo, .int .i64 ((lo + n - 1 : Nat) : Int), .int .i64 rm]) := by rw [hW2, hb7]; exact Blk.new W1 65 _
 have HY5 := Lib.hid (HX5.out.below HB2.out HX5.out.lt); have HY6 := Lib.hid (HX6.out.below HB2.out HX6.out.lt); have HY2 := Lib.hid (HX2.out.below HB2.out HX2.out.lt); have HYD := Lib.hid (HXD.out.below HB2.out HXD.out.lt)
 have HN2 : Hid (W2.heap.size = w.heap.size + 4 ∧ b2 = w.heap.size ∧ b5 = w.heap.size + 1 ∧ b6 = w.heap.size + 2 ∧ b7 = w.heap.size + 3 ∧ d < w.heap.size) := by
  obtain ⟨e1, e2, e3, e4, e5⟩ := HN.out; exact ⟨by omega, e2, e3, e4, by omega, e5⟩
 have HBW : Hid (Below w.heap.size w W2) := HB1.out.trans (HB2.out.mono HB1.out.size); have HEG := Lib.hid (enters_of Tryz.func123 (by kernel_rfl) rfl)
 have HSEQ := Lib.hid (days_seq (fun _ => False) KxN (fun h => h) (fun _ _ h => h.elim) b7 lv lo n rm hlv10 hlo6 hn6 hn0)
 clear hW2 hs2 hb7 HN HB1 HB2 HX2 HX5 HX6 HXD
 have HFI : Hid (∀ (X : World) (D : Nat), Turn (fun x => x = b5 ∨ x = b6) W2 X → D = W2.heap.size → Below w.heap.size w (X.putObj D (.deferred none))) := fun X D hT hD => by
  have nn := HN2.out
  exact (HBW.out.trans (hT.below (by omega) (by rintro b (h | h) <;> omega))).trans ((Turn.put (S := fun x => x = D) _ rfl).below (by have := hT.size; omega) (fun b h => by have h' : b = D := h; omega))
 go_wp2_with fail
 refine wpIn_wide.1 (wpIn_rangeL_slots (n := 6) rfl HEG.out HSEQ.out keepsRec_none (fun x hx => by obtain ⟨y, _, rfl⟩ := List.mem_map.1 hx; rfl) (fun x => x = b5 ∨ x = b6) (fun e h => by have := HN2.out; rcases h with h | h <;> omega)
  (fun rec => ⟨(HX7.out.alloc _).alloc _, fun h => by have := HN2.out; rcases h with (h | h) | h <;> omega⟩)
  (fun j X => Turn (fun x => x = b5 ∨ x = b6) W2 X ∧ Blk X b5 4 #[.bool (allT dn S (lv + lo) j)] ∧ Blk X b6 4 #[.bool (someT dn Q (lv + lo) j)])
  (fun cd X => Turn (fun x => x = b5 ∨ x = b6) W2 X ∧ Blk X b5 4 #[.bool false] ∧ Blk X b6 4 #[.bool (someT dn Q (lv + lo) n)] ∧ cd = .exit 0 ∧ allT dn S (lv + lo) n = false)
  (fun j => (OwnT.turn _ (Nat.le_refl _) (fun _ _ _ h => h.elim)).and ((OwnT.blk _ (fun h => h) (fun _ _ h => h.elim)).and (OwnT.blk _ (fun h => h) (fun _ _ h => h.elim))))
  (fun cd => (OwnT.turn _ (Nat.le_refl _) (fun _ _ _ h => h.elim)).and ((OwnT.blk _ (fun h => h) (fun _ _ h => h.elim)).and ((OwnT.blk _ (fun h => h) (fun _ _ h => h.elim)).and (OwnT.pure _ _ _ _))))
  ⟨Turn.refl _ _, HY5.out, HY6.out⟩
  (fun j (_ : Unit) T => (T.setIfInBounds 17 (.int .i64 (((daysN (lv + lo) n)[j]?.getD 0 : Nat) : Int))).setIfInBounds 7 (.int .i64 (((daysN (lv + lo) n)[j]?.getD 0 : Nat) : Int))) (fun n _ Xw => True) (fun _ _ => (OwnT.pure _ _ _ _))
  ?assign ?body ?done ?stop)
 case assign =>
  rintro l j xx Xw K hI hx hK; rw [List.getElem?_map] at hx
  obtain ⟨y, hy⟩ : ∃ y, (daysN (lv + lo) n)[j]? = some y := by
   cases h : (daysN (lv + lo) n)[j]? with
   | none => rw [h] at hx; cases hx
   | some y => exact ⟨y, rfl⟩
  rw [hy] at hx hK; obtain rfl : encB y = xx := Option.some.inj hx; simp only [Option.getD_some] at hK; simp only [List.setIfInBounds_toArray, List.set_cons_succ, List.set_cons_zero] at hK; dsimp only [encB]; have HK := Lib.hid hK; have HI := Lib.hid hI; clear hK hx hI
  gi_wp2
  have h := HK.out () _ (Turn.refl _ Xw) HI.out trivial
  simpa using h
 case body =>
  rintro l j xx Bx Xw hl hr ⟨hT, h5, h6⟩ _ hx
  have hjn : j < n := by
   have := (List.getElem?_eq_some_iff.1 hx).1; rw [List.length_map, daysN_len] at this; exact this
  obtain ⟨y, hy⟩ : ∃ y, lv + lo + j = y := ⟨_, rfl⟩; rw [daysN_at hjn, hy]; simp only [Option.getD_some]; have hy22 : (y : Int) < 22 := by omega
  have HYE := Lib.hid hy; have HT := Lib.hid hT; have H5 := Lib.hid h5; have H6 := Lib.hid h6; have nn := HN2.out; have HZ2 := Lib.hid (HY2.out.turn hT (by rintro (h | h) <;> omega))
  have HZD := Lib.hid (HYD.out.turn hT (by rintro (h | h) <;> omega))
  have nb : b5 ≠ b6 := by omega
  have nb' := Ne.symm nb; have n25 : ¬ b2 = b5 := by omega
  have nd5 : ¬ d = b5 := by omega
  simp only [List.setIfInBounds_toArray, List.set_cons_succ, List.set_cons_zero]; have f5 := h5.frozen 0; have c5 : Xw.cell? ⟨b5, 0, none⟩ = some (.bool (allT dn S (lv + lo) j)) := h5.cell 0; have l5 := h5.lt; have f6 := h6.frozen 0; have c6 : Xw.cell? ⟨b6, 0, none⟩ = some (.bool (someT dn Q (lv + lo) j)) := h6.cell 0; have l6 := h6.lt; have c2 : Xw.cell? ⟨b2, 0, none⟩ = some (.pointer (some ⟨d, 0, none⟩)) := HZ2.out.cell 0; have l2 := HZ2.out.lt; have d4 : Xw.cell? ⟨d, 4, none⟩ = some (.int .i64 dn) := HZD.out.cell 4; have d10 : Xw.cell? ⟨d, 10, none⟩ = some (.int .i64 S) := HZD.out.cell 10; have d11 : Xw.cell? ⟨d, 11, none⟩ = some (.int .i64 Q) := HZD.out.cell 11; have ld := HZD.out.lt; clear hT h5 h6 hx hr hy nn
  by_cases hyd : dn < y
  ·have hc : (y : Int) > dn := by omega
   have HAF : Hid (allT dn S (lv + lo) n = false) := allT_false hjn (by rw [HYE.out, show decide (y ≤ dn) = false from decide_eq_false (by omega)]; rfl)
   have HSF : Hid (someT dn Q (lv + lo) n = someT dn Q (lv + lo) j) := someT_stop (by rw [HYE.out]; omega) (Nat.le_of_lt hjn)
   gi_wp2
   have hset : Turn (fun x => x = b5 ∨ x = b6) Xw (Xw.setCell ⟨b5, 0, none⟩ (.bool false)) := Turn.set _ _ (fun _ => .inl rfl)
   exact ⟨hset, HT.out.trans hset, H5.out.set_ 0 _, by rw [HSF.out]; exact H6.out.far nb' _, rfl, HAF.out⟩
  ·have hc : ¬ (y : Int) > dn := by omega
   have hyle : decide (y ≤ dn) = true := decide_eq_true (by omega)
   have HAJ : Hid (allT dn S (lv + lo) (j + 1) = (allT dn S (lv + lo) j && S.testBit y)) := by show _ = _; rw [allT, HYE.out, hyle, Bool.true_and]
   have HSJ : Hid (someT dn Q (lv + lo) (j + 1) = (someT dn Q (lv + lo) j || Q.testBit y)) := by show _ = _; rw [someT, HYE.out, hyle, Bool.true_and]
   obtain ⟨A, hA⟩ : ∃ A, A = allT dn S (lv + lo) j := ⟨_, rfl⟩; obtain ⟨E, hE⟩ : ∃ E, E = someT dn Q (lv + lo) j := ⟨_, rfl⟩; rw [← hA] at HAJ H5 c5; rw [← hE] at HSJ H6 c6; clear hA hE hyd hyle
   cases A <;> cases E
   ·gi_wp2
    refine HavG.wpIn_region_stg (fun wv => Turn (fun x => x = b5) Xw wv) [(11,false),(0,true),(1,false),(2,false),(3,false),(4,false),(5,false),(6,false),(7,false),(8,false),(9,false),(10,false),(12,false),(13,false),(14,false),(15,false),(16,false),(17,false),(18,false),(19,false),(20,false),(21,false),(22,true)] [23] (fun _ _ => False) (by kernel_rfl) (by kernel_rfl) (by kernel_rfl) (by rintro ⟨_, _, h⟩; exact h) (fun _ _ _ _ h => h.elim) ((Turn.refl _ _).drew) ?_
    (apply HavG.stg_same (by exact ho rfl) (by kernel_rfl); (focus (intro wv hI; have t := hI; have q6 := (H6.out.turn t nb').cell 0; have m6 := (H6.out.turn t nb').lt; have q2 := (HZ2.out.turn t n25).cell 0; have m2 := (HZ2.out.turn t n25).lt; have x10 := (HZD.out.turn t nd5).cell 10; have x11 := (HZD.out.turn t nd5).cell 11; have xl := (HZD.out.turn t nd5).lt; (simp at q6 q2 x10 x11); (try go_simp); try rfl; done)); simp only [Act.put, List.setIfInBounds_toArray, List.set_cons_succ, List.set_cons_zero])
    refine HavG.stg_val (by simp only [List.getElem?_toArray, List.getElem?_cons_zero]; rfl) (by kernel_rfl) (by have q5 := (World.cell?_drew Xw ⟨b5, 0, none⟩).trans c5; go_simp; try rfl; done) ((Turn.refl _ _).drew) ?_
    simp only [Act.put, List.setIfInBounds_toArray, List.set_cons_succ, List.set_cons_zero]; (apply HavG.stg_same (by exact ho rfl) (by kernel_rfl); (focus (intro wv hI; have t := hI; have q6 := (H6.out.turn t nb').cell 0; have m6 := (H6.out.turn t nb').lt; have q2 := (HZ2.out.turn t n25).cell 0; have m2 := (HZ2.out.turn t n25).lt; have x10 := (HZD.out.turn t nd5).cell 10; have x11 := (HZD.out.turn t nd5).cell 11; have xl := (HZD.out.turn t nd5).lt; (simp at q6 q2 x10 x11); (try go_simp); try rfl; done)); simp only [Act.put, List.setIfInBounds_toArray, List.set_cons_succ, List.set_cons_zero])
    iterate 8 (refine HavG.stg_skip (by exact ho rfl) (by kernel_rfl) ?_; simp only [Act.put, List.setIfInBounds_toArray, List.set_cons_succ, List.set_cons_zero])
    iterate 2 (apply HavG.stg_same (by exact ho rfl) (by kernel_rfl); (focus (intro wv hI; have t := hI; have q6 := (H6.out.turn t nb').cell 0; have m6 := (H6.out.turn t nb').lt; have q2 := (HZ2.out.turn t n25).cell 0; have m2 := (HZ2.out.turn t n25).lt; have x10 := (HZD.out.turn t nd5).cell 10; have x11 := (HZD.out.turn t nd5).cell 11; have xl := (HZD.out.turn t nd5).lt; (simp at q6 q2 x10 x11); (try go_simp); try rfl; done)); simp only [Act.put, List.setIfInBounds_toArray, List.set_cons_succ, List.set_cons_zero])
    iterate 8 (apply HavG.stg_same (by exact ho rfl) (by kernel_rfl); (focus (intro wv hI; have t := hI; have q6 := (H6.out.turn t nb').cell 0; have m6 := (H6.out.turn t nb').lt; have q2 := (HZ2.out.turn t n25).cell 0; have m2 := (HZ2.out.turn t n25).lt; have x10 := (HZD.out.turn t nd5).cell 10; have x11 := (HZD.out.turn t nd5).cell 11; have xl := (HZD.out.turn t nd5).lt; (simp at q6 q2 x10 x11); (try go_simp); try rfl; done)); simp only [Act.put, List.setIfInBounds_toArray, List.set_cons_succ, List.set_cons_zero])
    (apply HavG.stg_same (by exact ho rfl) (by kernel_rfl); (focus (intro wv hI; have t := hI; have q6 := (H6.out.turn t nb').cell 0; have m6 := (H6.out.turn t nb').lt; have q2 := (HZ2.out.turn t n25).cell 0; have m2 := (HZ2.out.turn t n25).lt; have x10 := (HZD.out.turn t nd5).cell 10; have x11 := (HZD.out.turn t nd5).cell 11; have xl := (HZD.out.turn t nd5).lt; (simp at q6 q2 x10 x11); (try go_simp); try rfl; done)); simp only [Act.put, List.setIfInBounds_toArray, List.set_cons_succ, List.set_cons_zero])
    (try rw [tb_i64 S y HSB.out])
    (try rw [tb_i64 Q y HQB.out])
    have p5 := (World.cell?_drew Xw ⟨b5, 0, none⟩).trans c5; have p5f := (World.frozen?_drew Xw ⟨b5, 0, none⟩).trans f5
    apply HavG.stg_store (by exact ho rfl) rfl (by kernel_rfl)
    (focus (go_simp; try rfl; done))
    ·exact (Turn.set (S := fun x => x = b5) _ _ (fun _ => rfl)).drew
    simp only [HavG.wpStg, List.filterMap]
    have hq6 : ∀ v, Blk ((Xw.setCell ⟨b5, 0, none⟩ v).drew) b6 4 _ := fun v => H6.out.far (p := ⟨b5, 0, none⟩) nb' v
    have hq5 : ∀ v, Blk ((Xw.setCell ⟨b5, 0, none⟩ v).drew) b5 4 _ := fun v => H5.out.set_ 0 v
    have t6 : ∀ v, Turn (fun x => x = b5 ∨ x = b6) Xw ((Xw.setCell ⟨b5, 0, none⟩ v).drew) := fun v => (Turn.set _ _ (fun _ => .inl rfl)).drew
    obtain ⟨W9, hW9⟩ : ∃ W9, W9 = (Xw.setCell ⟨b5, 0, none⟩ (.bool false)).drew := ⟨_, rfl⟩; have HQ6 := Lib.hid (hq6 (.bool false)); have HQ5 := Lib.hid (hq5 (.bool false)); have T6 := Lib.hid (t6 (.bool false)); rw [← hW9] at HQ6 HQ5 T6 ⊢; clear hW9 hq6 hq5 t6 p5 p5f c5 c6 f5 f6 l5 l6 c2 l2 d4 d10 d11 ld; have g6 := HQ6.out.frozen 0; have e6 := HQ6.out.cell 0; have m6 := HQ6.out.lt; simp at e6; go_wp2
    refine ⟨T6.out.trans (Turn.set _ _ (fun _ => .inr rfl)), HT.out.trans (T6.out.trans (Turn.set _ _ (fun _ => .inr rfl))), ?_, ?_⟩
    ·rw [HAJ.out]; exact HQ5.out.far nb _
    ·rw [HSJ.out]; exact HQ6.out.set_ 0 _
   ·gi_wp2
    refine HavG.wpIn_region_stg (fun wv => Turn (fun x => x = b5) Xw wv) [(11,false),(0,true),(1,false),(2,false),(3,false),(4,false),(5,false),(6,false),(7,false),(8,false),(9,false),(10,false),(12,false),(13,false),(14,false),(15,false),(16,false),(17,false),(18,false),(19,false),(20,false),(21,false),(22,true)] [23] (fun _ _ => False) (by kernel_rfl) (by kernel_rfl) (by kernel_rfl) (by rintro ⟨_, _, h⟩; exact h) (fun _ _ _ _ h => h.elim) ((Turn.refl _ _).drew) ?_
    (apply HavG.stg_same (by exact ho rfl) (by kernel_rfl); (focus (intro wv hI; have t := hI; have q6 := (H6.out.turn t nb').cell 0; have m6 := (H6.out.turn t nb').lt; have q2 := (HZ2.out.turn t n25).cell 0; have m2 := (HZ2.out.turn t n25).lt; have x10 := (HZD.out.turn t nd5).cell 10; have x11 := (HZD.out.turn t nd5).cell 11; have xl := (HZD.out.turn t nd5).lt; (simp at q6 q2 x10 x11); (try go_simp); try rfl; done)); simp only [Act.put, List.setIfInBounds_toArray, List.set_cons_succ, List.set_cons_zero])
    refine HavG.stg_val (by simp only [List.getElem?_toArray, List.getElem?_cons_zero]; rfl) (by kernel_rfl) (by have q5 := (World.cell?_drew Xw ⟨b5, 0, none⟩).trans c5; go_simp; try rfl; done) ((Turn.refl _ _).drew) ?_
    simp only [Act.put, List.setIfInBounds_toArray, List.set_cons_succ, List.set_cons_zero]; (apply HavG.stg_same (by exact ho rfl) (by kernel_rfl); (focus (intro wv hI; have t := hI; have q6 := (H6.out.turn t nb').cell 0; have m6 := (H6.out.turn t nb').lt; have q2 := (HZ2.out.turn t n25).cell 0; have m2 := (HZ2.out.turn t n25).lt; have x10 := (HZD.out.turn t nd5).cell 10; have x11 := (HZD.out.turn t nd5).cell 11; have xl := (HZD.out.turn t nd5).lt; (simp at q6 q2 x10 x11); (try go_simp); try rfl; done)); simp only [Act.put, List.setIfInBounds_toArray, List.set_cons_succ, List.set_cons_zero])
    iterate 8 (refine HavG.stg_skip (by exact ho rfl) (by kernel_rfl) ?_; simp only [Act.put, List.setIfInBounds_toArray, List.set_cons_succ, List.set_cons_zero])
    iterate 2 (apply HavG.stg_same (by exact ho rfl) (by kernel_rfl); (focus (intro wv hI; have t := hI; have q6 := (H6.out.turn t nb').cell 0; have m6 := (H6.out.turn t nb').lt; have q2 := (HZ2.out.turn t n25).cell 0; have m2 := (HZ2.out.turn t n25).lt; have x10 := (HZD.out.turn t nd5).cell 10; have x11 := (HZD.out.turn t nd5).cell 11; have xl := (HZD.out.turn t nd5).lt; (simp at q6 q2 x10 x11); (try go_simp); try rfl; done)); simp only [Act.put, List.setIfInBounds_toArray, List.set_cons_succ, List.set_cons_zero])
    iterate 8 (refine HavG.stg_skip (by exact ho rfl) (by kernel_rfl) ?_; simp only [Act.put, List.setIfInBounds_toArray, List.set_cons_succ, List.set_cons_zero])
    (apply HavG.stg_same (by exact ho rfl) (by kernel_rfl); (focus (intro wv hI; have t := hI; have q6 := (H6.out.turn t nb').cell 0; have m6 := (H6.out.turn t nb').lt; have q2 := (HZ2.out.turn t n25).cell 0; have m2 := (HZ2.out.turn t n25).lt; have x10 := (HZD.out.turn t nd5).cell 10; have x11 := (HZD.out.turn t nd5).cell 11; have xl := (HZD.out.turn t nd5).lt; (simp at q6 q2 x10 x11); (try go_simp); try rfl; done)); simp only [Act.put, List.setIfInBounds_toArray, List.set_cons_succ, List.set_cons_zero])
    (try rw [tb_i64 S y HSB.out])
    (try rw [tb_i64 Q y HQB.out])
    have p5 := (World.cell?_drew Xw ⟨b5, 0, none⟩).trans c5; have p5f := (World.frozen?_drew Xw ⟨b5, 0, none⟩).trans f5
    apply HavG.stg_store (by exact ho rfl) rfl (by kernel_rfl)
    (focus (go_simp; try rfl; done))
    ·exact (Turn.set (S := fun x => x = b5) _ _ (fun _ => rfl)).drew
    simp only [HavG.wpStg, List.filterMap]
    have hq6 : ∀ v, Blk ((Xw.setCell ⟨b5, 0, none⟩ v).drew) b6 4 _ := fun v => H6.out.far (p := ⟨b5, 0, none⟩) nb' v
    have hq5 : ∀ v, Blk ((Xw.setCell ⟨b5, 0, none⟩ v).drew) b5 4 _ := fun v => H5.out.set_ 0 v
    have t6 : ∀ v, Turn (fun x => x = b5 ∨ x = b6) Xw ((Xw.setCell ⟨b5, 0, none⟩ v).drew) := fun v => (Turn.set _ _ (fun _ => .inl rfl)).drew
    obtain ⟨W9, hW9⟩ : ∃ W9, W9 = (Xw.setCell ⟨b5, 0, none⟩ (.bool false)).drew := ⟨_, rfl⟩; have HQ6 := Lib.hid (hq6 (.bool false)); have HQ5 := Lib.hid (hq5 (.bool false)); have T6 := Lib.hid (t6 (.bool false)); rw [← hW9] at HQ6 HQ5 T6 ⊢; clear hW9 hq6 hq5 t6 p5 p5f c5 c6 f5 f6 l5 l6 c2 l2 d4 d10 d11 ld; have g6 := HQ6.out.frozen 0; have e6 := HQ6.out.cell 0; have m6 := HQ6.out.lt; simp at e6; go_wp2
    refine ⟨T6.out.trans (Turn.set _ _ (fun _ => .inr rfl)), HT.out.trans (T6.out.trans (Turn.set _ _ (fun _ => .inr rfl))), ?_, ?_⟩
    ·rw [HAJ.out]; exact HQ5.out.far nb _
    ·rw [HSJ.out]; exact HQ6.out.set_ 0 _
   ·gi_wp2
    refine HavG.wpIn_region_stg (fun wv => Turn (fun x => x = b5) Xw wv) [(11,false),(0,true),(1,false),(2,false),(3,false),(4,false),(5,false),(6,false),(7,false),(8,false),(9,false),(10,false),(12,false),(13,false),(14,false),(15,false),(16,false),(17,false),(18,false),(19,false),(20,false),(21,false),(22,true)] [23] (fun _ _ => False) (by kernel_rfl) (by kernel_rfl) (by kernel_rfl) (by rintro ⟨_, _, h⟩; exact h) (fun _ _ _ _ h => h.elim) ((Turn.refl _ _).drew) ?_
    (apply HavG.stg_same (by exact ho rfl) (by kernel_rfl); (focus (intro wv hI; have t := hI; have q6 := (H6.out.turn t nb').cell 0; have m6 := (H6.out.turn t nb').lt; have q2 := (HZ2.out.turn t n25).cell 0; have m2 := (HZ2.out.turn t n25).lt; have x10 := (HZD.out.turn t nd5).cell 10; have x11 := (HZD.out.turn t nd5).cell 11; have xl := (HZD.out.turn t nd5).lt; (simp at q6 q2 x10 x11); (try go_simp); try rfl; done)); simp only [Act.put, List.setIfInBounds_toArray, List.set_cons_succ, List.set_cons_zero])
    refine HavG.stg_val (by simp only [List.getElem?_toArray, List.getElem?_cons_zero]; rfl) (by kernel_rfl) (by have q5 := (World.cell?_drew Xw ⟨b5, 0, none⟩).trans c5; go_simp; try rfl; done) ((Turn.refl _ _).drew) ?_
    simp only [Act.put, List.setIfInBounds_toArray, List.set_cons_succ, List.set_cons_zero]; (apply HavG.stg_same (by exact ho rfl) (by kernel_rfl); (focus (intro wv hI; have t := hI; have q6 := (H6.out.turn t nb').cell 0; have m6 := (H6.out.turn t nb').lt; have q2 := (HZ2.out.turn t n25).cell 0; have m2 := (HZ2.out.turn t n25).lt; have x10 := (HZD.out.turn t nd5).cell 10; have x11 := (HZD.out.turn t nd5).cell 11; have xl := (HZD.out.turn t nd5).lt; (simp at q6 q2 x10 x11); (try go_simp); try rfl; done)); simp only [Act.put, List.setIfInBounds_toArray, List.set_cons_succ, List.set_cons_zero])
    iterate 8 (apply HavG.stg_same (by exact ho rfl) (by kernel_rfl); (focus (intro wv hI; have t := hI; have q6 := (H6.out.turn t nb').cell 0; have m6 := (H6.out.turn t nb').lt; have q2 := (HZ2.out.turn t n25).cell 0; have m2 := (HZ2.out.turn t n25).lt; have x10 := (HZD.out.turn t nd5).cell 10; have x11 := (HZD.out.turn t nd5).cell 11; have xl := (HZD.out.turn t nd5).lt; (simp at q6 q2 x10 x11); (try go_simp); try rfl; done)); simp only [Act.put, List.setIfInBounds_toArray, List.set_cons_succ, List.set_cons_zero])
    iterate 2 (apply HavG.stg_same (by exact ho rfl) (by kernel_rfl); (focus (intro wv hI; have t := hI; have q6 := (H6.out.turn t nb').cell 0; have m6 := (H6.out.turn t nb').lt; have q2 := (HZ2.out.turn t n25).cell 0; have m2 := (HZ2.out.turn t n25).lt; have x10 := (HZD.out.turn t nd5).cell 10; have x11 := (HZD.out.turn t nd5).cell 11; have xl := (HZD.out.turn t nd5).lt; (simp at q6 q2 x10 x11); (try go_simp); try rfl; done)); simp only [Act.put, List.setIfInBounds_toArray, List.set_cons_succ, List.set_cons_zero])
    iterate 8 (apply HavG.stg_same (by exact ho rfl) (by kernel_rfl); (focus (intro wv hI; have t := hI; have q6 := (H6.out.turn t nb').cell 0; have m6 := (H6.out.turn t nb').lt; have q2 := (HZ2.out.turn t n25).cell 0; have m2 := (HZ2.out.turn t n25).lt; have x10 := (HZD.out.turn t nd5).cell 10; have x11 := (HZD.out.turn t nd5).cell 11; have xl := (HZD.out.turn t nd5).lt; (simp at q6 q2 x10 x11); (try go_simp); try rfl; done)); simp only [Act.put, List.setIfInBounds_toArray, List.set_cons_succ, List.set_cons_zero])
    (apply HavG.stg_same (by exact ho rfl) (by kernel_rfl); (focus (intro wv hI; have t := hI; have q6 := (H6.out.turn t nb').cell 0; have m6 := (H6.out.turn t nb').lt; have q2 := (HZ2.out.turn t n25).cell 0; have m2 := (HZ2.out.turn t n25).lt; have x10 := (HZD.out.turn t nd5).cell 10; have x11 := (HZD.out.turn t nd5).cell 11; have xl := (HZD.out.turn t nd5).lt; (simp at q6 q2 x10 x11); (try go_simp); try rfl; done)); simp only [Act.put, List.setIfInBounds_toArray, List.set_cons_succ, List.set_cons_zero])
    (try rw [tb_i64 S y HSB.out])
    (try rw [tb_i64 Q y HQB.out])
    have p5 := (World.cell?_drew Xw ⟨b5, 0, none⟩).trans c5; have p5f := (World.frozen?_drew Xw ⟨b5, 0, none⟩).trans f5
    apply HavG.stg_store (by exact ho rfl) rfl (by kernel_rfl)
    (focus (go_simp; try rfl; done))
    ·exact (Turn.set (S := fun x => x = b5) _ _ (fun _ => rfl)).drew
    simp only [HavG.wpStg, List.filterMap]
    have hq6 : ∀ v, Blk ((Xw.setCell ⟨b5, 0, none⟩ v).drew) b6 4 _ := fun v => H6.out.far (p := ⟨b5, 0, none⟩) nb' v
    have hq5 : ∀ v, Blk ((Xw.setCell ⟨b5, 0, none⟩ v).drew) b5 4 _ := fun v => H5.out.set_ 0 v
    have t6 : ∀ v, Turn (fun x => x = b5 ∨ x = b6) Xw ((Xw.setCell ⟨b5, 0, none⟩ v).drew) := fun v => (Turn.set _ _ (fun _ => .inl rfl)).drew
    obtain ⟨W9, hW9⟩ : ∃ W9, W9 = (Xw.setCell ⟨b5, 0, none⟩ (.bool (S.testBit y))).drew := ⟨_, rfl⟩; have HQ6 := Lib.hid (hq6 (.bool (S.testBit y))); have HQ5 := Lib.hid (hq5 (.bool (S.testBit y))); have T6 := Lib.hid (t6 (.bool (S.testBit y))); rw [← hW9] at HQ6 HQ5 T6 ⊢; clear hW9 hq6 hq5 t6 p5 p5f c5 c6 f5 f6 l5 l6 c2 l2 d4 d10 d11 ld; have g6 := HQ6.out.frozen 0; have e6 := HQ6.out.cell 0; have m6 := HQ6.out.lt; simp at e6; go_wp2
    refine ⟨T6.out.trans (Turn.set _ _ (fun _ => .inr rfl)), HT.out.trans (T6.out.trans (Turn.set _ _ (fun _ => .inr rfl))), ?_, ?_⟩
    ·rw [HAJ.out]; exact HQ5.out.far nb _
    ·rw [HSJ.out]; exact HQ6.out.set_ 0 _
   ·gi_wp2
    refine HavG.wpIn_region_stg (fun wv => Turn (fun x => x = b5) Xw wv) [(11,false),(0,true),(1,false),(2,false),(3,false),(4,false),(5,false),(6,false),(7,false),(8,false),(9,false),(10,false),(12,false),(13,false),(14,false),(15,false),(16,false),(17,false),(18,false),(19,false),(20,false),(21,false),(22,true)] [23] (fun _ _ => False) (by kernel_rfl) (by kernel_rfl) (by kernel_rfl) (by rintro ⟨_, _, h⟩; exact h) (fun _ _ _ _ h => h.elim) ((Turn.refl _ _).drew) ?_
    (apply HavG.stg_same (by exact ho rfl) (by kernel_rfl); (focus (intro wv hI; have t := hI; have q6 := (H6.out.turn t nb').cell 0; have m6 := (H6.out.turn t nb').lt; have q2 := (HZ2.out.turn t n25).cell 0; have m2 := (HZ2.out.turn t n25).lt; have x10 := (HZD.out.turn t nd5).cell 10; have x11 := (HZD.out.turn t nd5).cell 11; have xl := (HZD.out.turn t nd5).lt; (simp at q6 q2 x10 x11); (try go_simp); try rfl; done)); simp only [Act.put, List.setIfInBounds_toArray, List.set_cons_succ, List.set_cons_zero])
    refine HavG.stg_val (by simp only [List.getElem?_toArray, List.getElem?_cons_zero]; rfl) (by kernel_rfl) (by have q5 := (World.cell?_drew Xw ⟨b5, 0, none⟩).trans c5; go_simp; try rfl; done) ((Turn.refl _ _).drew) ?_
    simp only [Act.put, List.setIfInBounds_toArray, List.set_cons_succ, List.set_cons_zero]; (apply HavG.stg_same (by exact ho rfl) (by kernel_rfl); (focus (intro wv hI; have t := hI; have q6 := (H6.out.turn t nb').cell 0; have m6 := (H6.out.turn t nb').lt; have q2 := (HZ2.out.turn t n25).cell 0; have m2 := (HZ2.out.turn t n25).lt; have x10 := (HZD.out.turn t nd5).cell 10; have x11 := (HZD.out.turn t nd5).cell 11; have xl := (HZD.out.turn t nd5).lt; (simp at q6 q2 x10 x11); (try go_simp); try rfl; done)); simp only [Act.put, List.setIfInBounds_toArray, List.set_cons_succ, List.set_cons_zero])
    iterate 8 (apply HavG.stg_same (by exact ho rfl) (by kernel_rfl); (focus (intro wv hI; have t := hI; have q6 := (H6.out.turn t nb').cell 0; have m6 := (H6.out.turn t nb').lt; have q2 := (HZ2.out.turn t n25).cell 0; have m2 := (HZ2.out.turn t n25).lt; have x10 := (HZD.out.turn t nd5).cell 10; have x11 := (HZD.out.turn t nd5).cell 11; have xl := (HZD.out.turn t nd5).lt; (simp at q6 q2 x10 x11); (try go_simp); try rfl; done)); simp only [Act.put, List.setIfInBounds_toArray, List.set_cons_succ, List.set_cons_zero])
    iterate 2 (apply HavG.stg_same (by exact ho rfl) (by kernel_rfl); (focus (intro wv hI; have t := hI; have q6 := (H6.out.turn t nb').cell 0; have m6 := (H6.out.turn t nb').lt; have q2 := (HZ2.out.turn t n25).cell 0; have m2 := (HZ2.out.turn t n25).lt; have x10 := (HZD.out.turn t nd5).cell 10; have x11 := (HZD.out.turn t nd5).cell 11; have xl := (HZD.out.turn t nd5).lt; (simp at q6 q2 x10 x11); (try go_simp); try rfl; done)); simp only [Act.put, List.setIfInBounds_toArray, List.set_cons_succ, List.set_cons_zero])
    iterate 8 (refine HavG.stg_skip (by exact ho rfl) (by kernel_rfl) ?_; simp only [Act.put, List.setIfInBounds_toArray, List.set_cons_succ, List.set_cons_zero])
    (apply HavG.stg_same (by exact ho rfl) (by kernel_rfl); (focus (intro wv hI; have t := hI; have q6 := (H6.out.turn t nb').cell 0; have m6 := (H6.out.turn t nb').lt; have q2 := (HZ2.out.turn t n25).cell 0; have m2 := (HZ2.out.turn t n25).lt; have x10 := (HZD.out.turn t nd5).cell 10; have x11 := (HZD.out.turn t nd5).cell 11; have xl := (HZD.out.turn t nd5).lt; (simp at q6 q2 x10 x11); (try go_simp); try rfl; done)); simp only [Act.put, List.setIfInBounds_toArray, List.set_cons_succ, List.set_cons_zero])
    (try rw [tb_i64 S y HSB.out])
    (try rw [tb_i64 Q y HQB.out])
    have p5 := (World.cell?_drew Xw ⟨b5, 0, none⟩).trans c5; have p5f := (World.frozen?_drew Xw ⟨b5, 0, none⟩).trans f5
    apply HavG.stg_store (by exact ho rfl) rfl (by kernel_rfl)
    (focus (go_simp; try rfl; done))
    ·exact (Turn.set (S := fun x => x = b5) _ _ (fun _ => rfl)).drew
    simp only [HavG.wpStg, List.filterMap]
    have hq6 : ∀ v, Blk ((Xw.setCell ⟨b5, 0, none⟩ v).drew) b6 4 _ := fun v => H6.out.far (p := ⟨b5, 0, none⟩) nb' v
    have hq5 : ∀ v, Blk ((Xw.setCell ⟨b5, 0, none⟩ v).drew) b5 4 _ := fun v => H5.out.set_ 0 v
    have t6 : ∀ v, Turn (fun x => x = b5 ∨ x = b6) Xw ((Xw.setCell ⟨b5, 0, none⟩ v).drew) := fun v => (Turn.set _ _ (fun _ => .inl rfl)).drew
    obtain ⟨W9, hW9⟩ : ∃ W9, W9 = (Xw.setCell ⟨b5, 0, none⟩ (.bool (S.testBit y))).drew := ⟨_, rfl⟩; have HQ6 := Lib.hid (hq6 (.bool (S.testBit y))); have HQ5 := Lib.hid (hq5 (.bool (S.testBit y))); have T6 := Lib.hid (t6 (.bool (S.testBit y))); rw [← hW9] at HQ6 HQ5 T6 ⊢; clear hW9 hq6 hq5 t6 p5 p5f c5 c6 f5 f6 l5 l6 c2 l2 d4 d10 d11 ld; have g6 := HQ6.out.frozen 0; have e6 := HQ6.out.cell 0; have m6 := HQ6.out.lt; simp at e6; go_wp2
    refine ⟨T6.out.trans (Turn.set _ _ (fun _ => .inr rfl)), HT.out.trans (T6.out.trans (Turn.set _ _ (fun _ => .inr rfl))), ?_, ?_⟩
    ·rw [HAJ.out]; exact HQ5.out.far nb _
    ·rw [HSJ.out]; exact HQ6.out.set_ 0 _
 case done =>
  rintro D Xw hDe ⟨hT, h5, h6⟩ hDD; rw [List.length_map, daysN_len] at h5 h6; obtain ⟨A, hA⟩ : ∃ A, A = allT dn S (lv + lo) n := ⟨_, rfl⟩; obtain ⟨E, hE⟩ : ∃ E, E = someT dn Q (lv + lo) n := ⟨_, rfl⟩; rw [← hA, ← hE] at HTM; rw [← hA] at h5; rw [← hE] at h6; clear hA hE; have HT := Lib.hid hT; have H5 := Lib.hid h5; have H6 := Lib.hid h6; have HDD := Lib.hid hDD; have HDE := Lib.hid hDe; have f5 := h5.frozen 0; have c5 := h5.cell 0; have l5 := h5.lt; have f6 := h6.frozen 0; have c6 := h6.cell 0; have l6 := h6.lt; simp at c5 c6; clear hT h5 h6 hDD hDe; cases A
  ·cases E
   ·(go_wp2; (try go_wp2); refine ⟨by simp, .inl ⟨_, _, rfl, run_takeDeferred HDD.out, ?_⟩⟩; refine ⟨.int .i64 0, by simp [results, Tryz.results53, go_sem], by rw [HTM.out]; rfl, HFI.out _ _ HT.out HDE.out⟩)
   ·(go_wp2; (try go_wp2); refine ⟨by simp, .inl ⟨_, _, rfl, run_takeDeferred HDD.out, ?_⟩⟩; refine ⟨.int .i64 1, by simp [results, Tryz.results53, go_sem], by rw [HTM.out]; rfl, HFI.out _ _ HT.out HDE.out⟩)
  ·(go_wp2; (try go_wp2); refine ⟨by simp, .inl ⟨_, _, rfl, run_takeDeferred HDD.out, ?_⟩⟩; refine ⟨.int .i64 2, by simp [results, Tryz.results53, go_sem], by rw [HTM.out]; rfl, HFI.out _ _ HT.out HDE.out⟩)
 case stop =>
  rintro D cd Xw hDe ⟨hT, h5, h6, rfl, hF⟩ hDD; obtain ⟨E, hE⟩ : ∃ E, E = someT dn Q (lv + lo) n := ⟨_, rfl⟩; rw [hF, ← hE] at HTM; rw [← hE] at h6; clear hF hE; have HT := Lib.hid hT; have H5 := Lib.hid h5; have H6 := Lib.hid h6; have HDD := Lib.hid hDD; have HDE := Lib.hid hDe; have f5 := h5.frozen 0; have c5 := h5.cell 0; have l5 := h5.lt; have f6 := h6.frozen 0; have c6 := h6.cell 0; have l6 := h6.lt; simp at c5 c6; clear hT h5 h6 hDD hDe; cases E
  ·gi_wp2
   (go_wp2; (try go_wp2); refine ⟨by simp, .inl ⟨_, _, rfl, run_takeDeferred HDD.out, ?_⟩⟩; refine ⟨.int .i64 0, by simp [results, Tryz.results53, go_sem], by rw [HTM.out]; rfl, HFI.out _ _ HT.out HDE.out⟩)
  ·gi_wp2
   (go_wp2; (try go_wp2); refine ⟨by simp, .inl ⟨_, _, rfl, run_takeDeferred HDD.out, ?_⟩⟩; refine ⟨.int .i64 1, by simp [results, Tryz.results53, go_sem], by rw [HTM.out]; rfl, HFI.out _ _ HT.out HDE.out⟩)
end
def inI (x : Int) : List Value := [.int .i64 x]
theorem inI_len (x : Int) : (inI x).length = 1 := rfl
theorem rd_in {w : World} {B : Nat} {A : Option Addr} {l : List Int} (h : RdG inI 1 w B A l) (k : Nat) (c : Int) (hc : l[k]? = some c) : ∃ b off, A = some ⟨b, off, none⟩ ∧ b < B ∧ w.cell? ⟨b, off + k, none⟩ = some (.int .i64 c) := by
 obtain ⟨b, off, e, hb, hx⟩ := h k c hc; exact ⟨b, off, e, hb, by have := hx 0 _ rfl; simpa using this⟩
def placeV (l : ILot) (k : Int) (R : Int) : Value := .agg #[.int .i64 l.from_, .int .i64 l.bales, .int .i64 l.price, .int .i64 l.until_, .int .i64 l.less, .int .i64 k, .int .i64 R]
theorem bfits_any (a b : Int) (w : World) : Calls Tryz.prog 169 #[.int .i64 a, .int .i64 b] w fun e w' => e = .returned (.bool (decide (a ≤ b))) ∧ w' = w := by
 go_enter Tryz.func169, Tryz.ntmps169
 go_wp2; go_ret
 exact ⟨rfl, rfl⟩
theorem bless_any (a b : Int) (ha : 0 ≤ a ∧ a ≤ 1000) (hb : 0 ≤ b ∧ b ≤ 1000) (w : World) : Calls Tryz.prog 100 #[.int .i64 a, .int .i64 b] w fun e w' => e = .returned (.int .i64 (a - b)) ∧ w' = w := by
 have hw : IntKind.i64.wrap (a - b) = a - b := IntWalk.i64_in _ (by omega)
 go_enter Tryz.func100, Tryz.ntmps100
 go_wp2; go_ret
 exact ⟨ret_int (by simp), rfl⟩
theorem num171_any (e : Array Value) (w : World) : Calls Tryz.prog 171 #[.agg e] w fun x w' => x = .returned (.int .i64 1) ∧ Below w.heap.size w w' := by
 go_enter Tryz.func171, Tryz.ntmps171
 go_wp2; go_ret
 exact ⟨rfl, (Below.refl _ _).alloc (Nat.le_refl _) _⟩
theorem num173_any (e : Array Value) (w : World) : Calls Tryz.prog 173 #[.agg e] w fun x w' => x = .returned (.int .i64 2) ∧ Below w.heap.size w w' := by
 go_enter Tryz.func173, Tryz.ntmps173
 go_wp2; go_ret
 exact ⟨rfl, (Below.refl _ _).alloc (Nat.le_refl _) _⟩
def sumL (l : List Int) : Int := l.sum
theorem sumL_take {l : List Int} {j : Nat} {x : Int} (h : l[j]? = some x) : sumL (l.take (j + 1)) = sumL (l.take j) + x := by
 unfold sumL; rw [List.take_add_one, h]
 simp
theorem sumL_bd {l : List Int} (h : ∀ x ∈ l, 0 ≤ x ∧ x ≤ 1000000) (j : Nat) : 0 ≤ sumL (l.take j) ∧ sumL (l.take j) ≤ 1000000 * j := by
 induction j with
 | zero => simp [sumL]
 | succ j ih =>
  cases hx : l[j]? with
  | none =>
   rw [List.take_of_length_le (by have := List.getElem?_eq_none_iff.1 hx; omega)]
   rw [List.take_of_length_le (List.getElem?_eq_none_iff.1 hx)] at ih
   omega
  | some x =>
   have := h x (List.mem_of_getElem? hx); rw [sumL_take hx]
   omega
theorem sum_any {B : Nat} {A : Option Addr} {n cp : Nat} {l : List Int} (hl : l.length = n) (hn : n ≤ 1000) (hs : ∀ x ∈ l, 0 ≤ x ∧ x ≤ 1000000) (w : World) (hr : RdG inI 1 w B A l) (hB : B ≤ w.heap.size) :
  Calls Tryz.prog 67 #[.slice A n cp] w fun e w' => e = .returned (.int .i64 (sumL l)) ∧ Below w.heap.size w w' := by
 have HL := Lib.hid hl; have HS := Lib.hid hs; have HR := Lib.hid hr; clear hl hs hr
 go_enter Tryz.func67, Tryz.ntmps67
 go_wp2
 go_loopw [2, 7] (fun v i wr => ∃ j : Nat, j ≤ n ∧ i = .int .i64 j ∧ v = .int .i64 (sumL (l.take j)) ∧ Hid (Below w.heap.size w wr)) (fun _ i _ => n - (intOf i).toNat)
 case atStart => exact ⟨0, Nat.zero_le _, rfl, rfl, Below.refl _ _⟩
 case round =>
  obtain ⟨j, hj, rfl, rfl, HBR⟩ := hrel
  by_cases hlt : j < n
  ·obtain ⟨x, hx⟩ : ∃ x, l[j]? = some x := ⟨l[j]'(by have := HL.out; omega), by simp⟩
   obtain ⟨bk, off, rfl, hbl, H0⟩ := rd_in (HR.out.below (HBR.out.mono hB)) j x hx; have hbw : bk < wr.heap.size := by have := HBR.out.size; omega
   have hb1 := sumL_bd HS.out j; have hb2 := HS.out x (List.mem_of_getElem? hx); have HST := Lib.hid (sumL_take hx); obtain ⟨s, hs⟩ : ∃ s, s = sumL (l.take j) := ⟨_, rfl⟩; rw [← hs] at hb1 HST ⊢; have hww : IntKind.i64.wrap (s + x) = s + x := IntWalk.i64_in _ (by omega)
   clear hs hx hbl; go_wp2; go_roundw
   case rel => exact ⟨j + 1, by omega, by go_num, by rw [HST.out], HBR⟩
   case measure => simp [intOf]; omega
  ·obtain rfl : n = j := by omega
   have he : l.take n = l := List.take_of_length_le (by rw [HL.out]; exact Nat.le_refl _)
   rw [he]; go_wp2; go_ret
   exact ⟨rfl, HBR.out⟩
theorem brings_any (l : ILot) (day : Int) (hl : lotB l = true) (w : World) : Calls Tryz.prog 66 #[.agg #[.int .i64 l.from_, .int .i64 l.bales, .int .i64 l.price, .int .i64 l.until_, .int .i64 l.less], .int .i64 day] w fun e w' => e = .returned (.int .i64 (bringsP l day)) ∧ Below w.heap.size w w' := by
 have h := lotB_iff.1 hl; clear hl; obtain ⟨l0, l1, l2, l3, l4⟩ := l; simp only at h ⊢; have m1 : 0 ≤ l1 * l2 ∧ l1 * l2 ≤ 20 * 50 := ⟨Int.mul_nonneg (by omega) (by omega), Int.mul_le_mul (by omega) (by omega) (by omega) (by omega)⟩
 have m2 : 0 ≤ l1 * l4 ∧ l1 * l4 ≤ 20 * 50 := ⟨Int.mul_nonneg (by omega) (by omega), Int.mul_le_mul (by omega) (by omega) (by omega) (by omega)⟩
 have w1 : IntKind.i64.wrap (l1 * l2) = l1 * l2 := IntWalk.i64_in _ (by omega)
 have w2 : IntKind.i64.wrap (l1 * l4) = l1 * l4 := IntWalk.i64_in _ (by omega)
 by_cases hc : day ≤ l3
 ·have HV : Hid (bringsP ⟨l0, l1, l2, l3, l4⟩ day = l1 * l2) := if_pos hc; clear m1 m2 h; rw [HV.out]
  go_enter Tryz.func66, Tryz.ntmps66
  go_wp2; go_ret
  exact ⟨rfl, (Below.refl _ _).alloc (Nat.le_refl _) _⟩
 ·have HV : Hid (bringsP ⟨l0, l1, l2, l3, l4⟩ day = l1 * l4) := if_neg hc; clear m1 m2 h; rw [HV.out]
  go_enter Tryz.func66, Tryz.ntmps66
  go_wp2; go_ret
  exact ⟨rfl, (Below.refl _ _).alloc (Nat.le_refl _) _⟩
section
variable {fa la wa ta : Option Addr} {fl fc ll lc wn wc tn tc : Nat} {c : ICart}
variable {w w' : World} {B d : Nat}
theorem early_any (es : Array Value) (l : ILot) (k : Nat) (R : Int) (wg : IWag) (hk : c.wg[k]? = some wg) (hY : YdIn w B d fa fl fc la ll lc wa wn wc ta tn tc c) : Calls Tryz.prog 170 #[.agg es, .pointer (some ⟨d, 0, none⟩), placeV l k R] w fun e w' => e = .returned (.bool (decide (l.from_ > wg.leaves))) ∧ Below w.heap.size w w' := by
 obtain ⟨W, hW⟩ : ∃ W, W = (w.alloc (.cells es 145)).alloc (.cells #[.int .i64 l.from_, .int .i64 l.bales, .int .i64 l.price, .int .i64 l.until_, .int .i64 l.less, .int .i64 k, .int .i64 R] 110) := ⟨_, rfl⟩; obtain ⟨b5, hb5⟩ : ∃ b, b = w.heap.size + 1 := ⟨_, rfl⟩; have HB : Hid (Below w.heap.size w W) := by rw [hW]; exact ((Below.refl _ _).alloc (Nat.le_refl _) _).alloc (by simp) _
 have HX : Hid (Blk W b5 110 #[.int .i64 l.from_, .int .i64 l.bales, .int .i64 l.price, .int .i64 l.until_, .int .i64 l.less, .int .i64 k, .int .i64 R]) := by rw [hW, hb5]; exact Blk.new_ (by simp) 110 _
 have hYW := hY.grow HB.out; have hkw : k < wn := by have := (List.getElem?_eq_some_iff.1 hk).1; have := hY.ewn; omega
 have hw3 : wn ≤ 3 := by have := hY.ewn; have := (okC_parts hY.ok).2.2.1; omega
 obtain ⟨bk, off, rfl, hbl, H0, H1, H2, H3⟩ := rd_wg hYW.hwg k wg hk; have hbw : bk < W.heap.size := by have := hYW.hB; omega
 have y8 : W.cell? ⟨d, 8, none⟩ = some (.slice (some ⟨bk, off, none⟩) wn wc) := hYW.blk.cell 8; have yl := hYW.blk.lt; have x0 : W.cell? ⟨b5, 0, none⟩ = some (.int .i64 l.from_) := HX.out.cell 0; have x5 : W.cell? ⟨b5, 5, none⟩ = some (.int .i64 k) := HX.out.cell 5; have xl := HX.out.lt; clear hY hYW hbl hk; unfold placeV
 go_enter Tryz.func170, Tryz.ntmps170
 go_upto_region 1 with (fail); rw [← hb5, ← hW]; clear hW hb5
 refine wp_region_havoc [(0,false),(1,false),(2,false),(3,false),(4,false),(5,false),(6,false),(7,false),(8,false),(9,false),(10,false),(11,false),(12,false),(13,false),(14,false)] [] (fun _ _ => False) (by kernel_rfl) (by kernel_rfl) (fun _ _ _ _ h => h.elim) ?_
 (apply hav_same (by exact ho rfl) (by kernel_rfl); (focus (intro wv hgv _; have hcv := cvB hgv; (try go_simp); try rfl; done)); simp only [Act.put, List.setIfInBounds_toArray, List.set_cons_succ, List.set_cons_zero])
 iterate 14 (apply hav_same (by exact ho rfl) (by kernel_rfl); (focus (intro wv hgv _; have hcv := cvB hgv; (try go_simp); try rfl; done)); simp only [Act.put, List.setIfInBounds_toArray, List.set_cons_succ, List.set_cons_zero])
 refine hav_end (fun wz hgz _ => ?_)
 simp only [List.filterMap]; have HZ : Hid (Below w.heap.size w wz) := HB.out.trans (Below.mono hgz HB.out.size); clear hgz; go_wp2; go_ret
 exact ⟨rfl, HZ.out⟩
theorem full_any (es : Array Value) (l : ILot) (k : Int) (R : Int) (w : World) : Calls Tryz.prog 172 #[.agg es, .pointer (some ⟨d, 0, none⟩), placeV l k R] w fun e w' => e = .returned (.bool (!decide (l.bales ≤ R))) ∧ Below w.heap.size w w' := by
 obtain ⟨W, hW⟩ : ∃ W, W = (w.alloc (.cells es 146)).alloc (.cells #[.int .i64 l.from_, .int .i64 l.bales, .int .i64 l.price, .int .i64 l.until_, .int .i64 l.less, .int .i64 k, .int .i64 R] 110) := ⟨_, rfl⟩; obtain ⟨b5, hb5⟩ : ∃ b, b = w.heap.size + 1 := ⟨_, rfl⟩; have HB : Hid (Below w.heap.size w W) := by rw [hW]; exact ((Below.refl _ _).alloc (Nat.le_refl _) _).alloc (by simp) _
 have HX : Hid (Blk W b5 110 #[.int .i64 l.from_, .int .i64 l.bales, .int .i64 l.price, .int .i64 l.until_, .int .i64 l.less, .int .i64 k, .int .i64 R]) := by rw [hW, hb5]; exact Blk.new_ (by simp) 110 _
 have x1 : W.cell? ⟨b5, 1, none⟩ = some (.int .i64 l.bales) := HX.out.cell 1; have x6 : W.cell? ⟨b5, 6, none⟩ = some (.int .i64 R) := HX.out.cell 6; have xl := HX.out.lt; unfold placeV
 go_enter Tryz.func172, Tryz.ntmps172
 go_upto_region 1 with (fail); rw [← hb5, ← hW]; clear hW hb5; go_wp2_with fail; refine (bfits_any _ _ _).mono ?_; rintro e w1 ⟨rfl, rfl⟩; go_wp2; go_ret
 exact ⟨ret_bool (by simp), HB.out⟩
theorem late_any (es : Array Value) (l : ILot) (k : Nat) (R : Int) (wg : IWag) (hk : c.wg[k]? = some wg) (hY : YdIn w B d fa fl fc la ll lc wa wn wc ta tn tc c) : Calls Tryz.prog 174 #[.agg es, .pointer (some ⟨d, 0, none⟩), placeV l k R] w fun e w' => e = .returned (.bool (decide (c.tm wg ≠ 2))) ∧ Below w.heap.size w w' := by
 obtain ⟨W, hW⟩ : ∃ W, W = (w.alloc (.cells es 148)).alloc (.cells #[.int .i64 l.from_, .int .i64 l.bales, .int .i64 l.price, .int .i64 l.until_, .int .i64 l.less, .int .i64 k, .int .i64 R] 110) := ⟨_, rfl⟩; obtain ⟨b5, hb5⟩ : ∃ b, b = w.heap.size + 1 := ⟨_, rfl⟩; have HB : Hid (Below w.heap.size w W) := by rw [hW]; exact ((Below.refl _ _).alloc (Nat.le_refl _) _).alloc (by simp) _
 have HX : Hid (Blk W b5 110 #[.int .i64 l.from_, .int .i64 l.bales, .int .i64 l.price, .int .i64 l.until_, .int .i64 l.less, .int .i64 k, .int .i64 R]) := by rw [hW, hb5]; exact Blk.new_ (by simp) 110 _
 have HYW := Lib.hid (hY.grow HB.out); have HK := Lib.hid hk; have x5 : W.cell? ⟨b5, 5, none⟩ = some (.int .i64 k) := HX.out.cell 5; have xl := HX.out.lt; clear hY hk; unfold placeV
 go_enter Tryz.func174, Tryz.ntmps174
 go_upto_region 1 with (fail); rw [← hb5, ← hW]; clear hW hb5; go_wp2_with fail; refine (inTime_any (fa := fa) (fl := fl) (fc := fc) (la := la) (ll := ll) (lc := lc) (wa := wa) (wc := wc) (ta := ta) (tn := tn) (tc := tc) k wg HK.out HYW.out).mono ?_; rintro e w1 ⟨rfl, hb⟩; have HB1 : Hid (Below w.heap.size w w1) := HB.out.trans (hb.mono HB.out.size); clear hb; go_wp2; go_ret
 exact ⟨ret_bool (Bool.eq_iff_iff.2 (by simp; omega)), HB1.out⟩
end
section
variable {fa la wa ta : Option Addr} {fl fc ll lc wn wc tn tc : Nat} {c : ICart}
variable {w : World}
theorem own_slice {w : World} {B n size : Nat} {e : TypeId} {v : Value} {xs : List Value} (h : w.ownsRow B e size v n xs) : ∃ A cp, v = .slice A n cp := by
 rcases h.2 with ⟨rfl, rfl⟩ | ⟨g, cap, cur, rfl, _⟩
 ·exact ⟨_, _, rfl⟩
 ·exact ⟨_, _, rfl⟩
end
theorem part148 (W : World) (b : Nat) (cs : Array Value) (h : Blk W b 148 cs) : (partAt ⟨b, 0, none⟩ 0 0).run Tryz.prog W = .ok ⟨b, 0, none⟩ W := by
 have h0 : Tryz.prog.cellsOf 148 = 0 := by kernel_rfl
 have h1 : W.shape? b = some (148, cs.size) := by unfold World.shape?; rw [show W.heap[b]? = _ from h]
 have hs : ∀ {α : Type} (k : Option (TypeId × Nat) → Sem α), (Sem.shape b k).run Tryz.prog W = (k (some (148, cs.size))).run Tryz.prog W := fun k => by rw [Sem.run, h1]
 unfold partAt byteOf
 simp [go_sem, noView, shape, viewAt, hs, h0, Result.andThen]
theorem num175_any (w : World) : Calls Tryz.prog 175 #[.agg #[]] w fun x w' => x = .returned (.int .i64 3) ∧ Below w.heap.size w w' := by
 obtain ⟨W, hW⟩ : ∃ W, W = w.alloc (.cells #[] 148) := ⟨_, rfl⟩; obtain ⟨b1, hb1⟩ : ∃ b, b = w.heap.size := ⟨_, rfl⟩; have HX : Hid (Blk W b1 148 #[]) := by rw [hW, hb1]; exact Blk.new w 148 _
 have HB : Hid (Below w.heap.size w W) := by rw [hW]; exact (Below.refl _ _).alloc (Nat.le_refl _) _
 go_enter Tryz.func175, Tryz.ntmps175
 go_upto_region 1 with (fail); rw [← hb1, ← hW]; clear hW hb1; have hpa := part148 W b1 _ HX.out; have xl := HX.out.lt; go_wp2_with fail; refine (num173_any _ _).mono ?_; rintro e w1 ⟨rfl, hb⟩; have HB1 : Hid (Below w.heap.size w w1) := HB.out.trans (hb.mono HB.out.size); clear hb; obtain ⟨W2, hW2⟩ : ∃ W2, W2 = w1.alloc (.cells #[.int .i64 2, .int .i64 1] 3) := ⟨_, rfl⟩; obtain ⟨b6, hb6⟩ : ∃ b, b = w1.heap.size := ⟨_, rfl⟩; have HB2 : Hid (Below w.heap.size w W2) := by rw [hW2]; exact HB1.out.alloc HB1.out.size _
 have HX2 : Hid (Blk W2 b6 3 #[.int .i64 2, .int .i64 1]) := by rw [hW2, hb6]; exact Blk.new w1 3 _
 go_wp2_with fail; rw [← hW2, ← hb6]
 clear hW2 hb6 hpa xl
 refine (sum_any (n := 2) (l := [2, 1]) rfl (by omega) (by simp) W2 (B := W2.heap.size) (fun i x hx => ?_) (Nat.le_refl _)).mono ?_
 ·refine ⟨b6, 0, rfl, HX2.out.lt, fun j v hv => ?_⟩
  match i, hx with
  | 0, hx => cases hx; match j, hv with | 0, hv => cases hv; exact HX2.out.cell 0
  | 1, hx => cases hx; match j, hv with | 0, hv => cases hv; exact HX2.out.cell 1
 rintro e w3 ⟨rfl, hb⟩; have HB3 : Hid (Below w.heap.size w w3) := HB2.out.trans (hb.mono HB2.out.size); clear hb; go_wp2; go_ret
 exact ⟨rfl, HB3.out⟩
section
variable {fa la wa ta : Option Addr} {fl fc ll lc wn wc tn tc : Nat} {c : ICart}
variable {w w' : World} {B d : Nat}
theorem broken_any (l : ILot) (k : Nat) (R : Int) (wg : IWag) (hk : c.wg[k]? = some wg) (hY : YdIn w B d fa fl fc la ll lc wa wn wc ta tn tc c) : Calls Tryz.prog 82 #[.pointer (some ⟨d, 0, none⟩), placeV l k R] w fun e w' => e = .returned (.int .i64 (brokenW (c.tm wg) l wg R : Nat)) ∧ Below w.heap.size w w' := by
 obtain ⟨W, hW⟩ : ∃ W, W = (w.alloc (.cells #[.int .i64 l.from_, .int .i64 l.bales, .int .i64 l.price, .int .i64 l.until_, .int .i64 l.less, .int .i64 k, .int .i64 R] 110)).alloc (.cells #[.iface 145 (.agg #[]), .iface 146 (.agg #[]), .iface 148 (.agg #[])] 151) := ⟨_, rfl⟩; obtain ⟨b3, hb3⟩ : ∃ b, b = w.heap.size := ⟨_, rfl⟩; obtain ⟨b13, hb13⟩ : ∃ b, b = w.heap.size + 1 := ⟨_, rfl⟩; have HB : Hid (Below w.heap.size w W) := by rw [hW]; exact ((Below.refl _ _).alloc (Nat.le_refl _) _).alloc (by simp) _
 have HX3 : Hid (Blk W b3 110 #[.int .i64 l.from_, .int .i64 l.bales, .int .i64 l.price, .int .i64 l.until_, .int .i64 l.less, .int .i64 k, .int .i64 R]) := by rw [hW, hb3]; exact (Blk.new w 110 _).alloc _
 have HX13 : Hid (Blk W b13 151 #[.iface 145 (.agg #[]), .iface 146 (.agg #[]), .iface 148 (.agg #[])]) := by rw [hW, hb13]; exact Blk.new_ (by simp) 151 _
 have HYW := Lib.hid (hY.grow HB.out); have HK := Lib.hid hk; clear hY hk; unfold placeV
 go_enter Tryz.func82, Tryz.ntmps82
 go_wp2; rw [← hb13, ← hb3, ← hW]
 clear hW hb13 hb3
 go_loopw [15] (fun i wr => ∃ j : Nat, j ≤ 3 ∧ i = .int .i64 j ∧ Hid (Below W.heap.size W wr) ∧ Hid ((1 ≤ j → l.from_ ≤ wg.leaves) ∧ (2 ≤ j → l.bales ≤ R) ∧ (3 ≤ j → c.tm wg = 2))) (fun i _ => 3 - (intOf i).toNat)
 case atStart => exact ⟨0, Nat.zero_le _, rfl, Below.refl _ _, by omega, by omega, by omega⟩
 case round =>
  obtain ⟨j, hj, rfl, HBR, HF⟩ := hrel; have HBW : Hid (Below w.heap.size w wr) := HB.out.trans (HBR.out.mono HB.out.size); have HYR := Lib.hid (HYW.out.grow HBR.out); have HR3 := Lib.hid (HX3.out.below HBR.out HX3.out.lt); have HR13 := Lib.hid (HX13.out.below HBR.out HX13.out.lt); have x0 := HR3.out.cell 0; have x1 := HR3.out.cell 1; have x2 := HR3.out.cell 2; have x3 := HR3.out.cell 3; have x4 := HR3.out.cell 4; have x5 := HR3.out.cell 5; have x6 := HR3.out.cell 6; have xl := HR3.out.lt; have yl := HR13.out.lt; simp at x0 x1 x2 x3 x4 x5 x6
  by_cases h0 : j = 0
  ·subst h0; have y0 : wr.cell? ⟨b13, 0, none⟩ = some (.iface 145 (.agg #[])) := HR13.out.cell 0; go_wp2_with fail; refine (early_any (fa := fa) (fl := fl) (fc := fc) (la := la) (ll := ll) (lc := lc) (wa := wa) (wn := wn) (wc := wc) (ta := ta) (tn := tn) (tc := tc) #[] l k R wg HK.out HYR.out).mono ?_; rintro e w1 ⟨rfl, hb⟩; have HB1 : Hid (Below w.heap.size w w1) := HBW.out.trans (hb.mono HBW.out.size); have HBX : Hid (Below W.heap.size W w1) := HBR.out.trans (hb.mono HBR.out.size); clear hb x0 x1 x2 x3 x4 x5 x6 xl y0 yl
   by_cases hq : l.from_ > wg.leaves
   ·have HV : Hid (brokenW (c.tm wg) l wg R = 1) := by show _ = _; unfold brokenW; rw [if_pos hq]
    rw [show decide (l.from_ > wg.leaves) = true from decide_eq_true hq]
    clear hq; go_wp2_with fail; refine (num171_any #[] _).mono ?_; rintro e w2 ⟨rfl, hb⟩; have HB2 : Hid (Below w.heap.size w w2) := HB1.out.trans (hb.mono HB1.out.size); clear hb; go_wp2; go_ret
    exact ⟨by rw [HV.out]; rfl, HB2.out⟩
   ·have HQ : Hid (l.from_ ≤ wg.leaves) := by show l.from_ ≤ wg.leaves; omega
    rw [show decide (l.from_ > wg.leaves) = false from decide_eq_false hq]
    clear hq; go_wp2; go_roundw
    case rel => exact ⟨1, by omega, by go_num, HBX, fun _ => HQ.out, by omega, by omega⟩
    case measure => simp [intOf]
  ·by_cases h1 : j = 1
   ·subst h1; have y0 : wr.cell? ⟨b13, 1, none⟩ = some (.iface 146 (.agg #[])) := HR13.out.cell 1; go_wp2_with fail; refine (full_any (d := d) #[] l k R wr).mono ?_; rintro e w1 ⟨rfl, hb⟩; have HB1 : Hid (Below w.heap.size w w1) := HBW.out.trans (hb.mono HBW.out.size); have HBX : Hid (Below W.heap.size W w1) := HBR.out.trans (hb.mono HBR.out.size); clear hb x0 x1 x2 x3 x4 x5 x6 xl y0 yl
    by_cases hq : l.bales > R
    ·have HV : Hid (brokenW (c.tm wg) l wg R = 2) := by show _ = _; unfold brokenW; rw [if_neg (by have := HF.out.1 (by omega); omega), if_pos hq]
     rw [show (!decide (l.bales ≤ R)) = true by rw [decide_eq_false (by omega)]; rfl]
     clear hq; go_wp2_with fail; refine (num173_any #[] _).mono ?_; rintro e w2 ⟨rfl, hb⟩; have HB2 : Hid (Below w.heap.size w w2) := HB1.out.trans (hb.mono HB1.out.size); clear hb; go_wp2; go_ret
     exact ⟨by rw [HV.out]; rfl, HB2.out⟩
    ·have HQ : Hid (l.bales ≤ R) := by show l.bales ≤ R; omega
     rw [show (!decide (l.bales ≤ R)) = false by rw [decide_eq_true (by omega)]; rfl]
     clear hq; go_wp2; go_roundw
     case rel => exact ⟨2, by omega, by go_num, HBX, fun _ => HF.out.1 (by omega), fun _ => HQ.out, by omega⟩
     case measure => simp [intOf]
   ·by_cases h2 : j = 2
    ·subst h2; have y0 : wr.cell? ⟨b13, 2, none⟩ = some (.iface 148 (.agg #[])) := HR13.out.cell 2; go_wp2_with fail; refine (late_any (fa := fa) (fl := fl) (fc := fc) (la := la) (ll := ll) (lc := lc) (wa := wa) (wn := wn) (wc := wc) (ta := ta) (tn := tn) (tc := tc) #[] l k R wg HK.out HYR.out).mono ?_; rintro e w1 ⟨rfl, hb⟩; have HB1 : Hid (Below w.heap.size w w1) := HBW.out.trans (hb.mono HBW.out.size); have HBX : Hid (Below W.heap.size W w1) := HBR.out.trans (hb.mono HBR.out.size); clear hb x0 x1 x2 x3 x4 x5 x6 xl y0 yl
     by_cases hq : c.tm wg ≠ 2
     ·have HV : Hid (brokenW (c.tm wg) l wg R = 3) := by show _ = _; unfold brokenW; rw [if_neg (by have := HF.out.1 (by omega); omega), if_neg (by have := HF.out.2.1 (by omega); omega), if_pos hq]
      rw [show decide (c.tm wg ≠ 2) = true from decide_eq_true hq]
      clear hq; go_wp2_with fail; refine (num175_any _).mono ?_; rintro e w2 ⟨rfl, hb⟩; have HB2 : Hid (Below w.heap.size w w2) := HB1.out.trans (hb.mono HB1.out.size); clear hb; go_wp2; go_ret
      exact ⟨by rw [HV.out]; rfl, HB2.out⟩
     ·have HQ : Hid (c.tm wg = 2) := by show c.tm wg = 2; omega
      rw [show decide (c.tm wg ≠ 2) = false from decide_eq_false hq]
      clear hq; go_wp2; go_roundw
      case rel => exact ⟨3, by omega, by go_num, HBX, fun _ => HF.out.1 (by omega), fun _ => HF.out.2.1 (by omega), fun _ => HQ.out⟩
      case measure => simp [intOf]
    ·obtain rfl : j = 3 := by omega
     have HV : Hid (brokenW (c.tm wg) l wg R = 0) := by show _ = _; unfold brokenW; rw [if_neg (by have := HF.out.1 (by omega); omega), if_neg (by have := HF.out.2.1 (by omega); omega), if_neg (by have := HF.out.2.2 (by omega); omega)]
     clear x0 x1 x2 x3 x4 x5 x6 xl yl; go_wp2; go_ret
     exact ⟨by rw [HV.out]; rfl, HBW.out⟩
end
end Go.Proofs.YtgmfhngcehkibaaGreat
