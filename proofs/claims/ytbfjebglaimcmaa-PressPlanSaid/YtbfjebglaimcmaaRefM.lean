/- The walks of the reference's Sure, pressings; conditions: the press is valid and has a truth, it has few fleeces, numbers are small. -/
import Derived.Test.YtbfjebglaimcmaaRefL
import Derived.Test.YtbfjebglaimcmaaPlain5
namespace Go.Proofs.Ytbfjebglaimcmaa
open Go.RowKit Go.Hav
def nV (n : Nat) : Value := .int .i64 n
theorem rd_row {w : World} {A : Option Addr} {l : List Nat} (h : RowN nV 3 w A l) (i : Nat) (s : Nat) (hs : l[i]? = some s) : ∃ b off, A = some ⟨b, off, none⟩ ∧ b < w.heap.size ∧ w.cell? ⟨b, off + i, none⟩ = some (.int .i64 s) := by
  obtain ⟨b, off, e, hb, hc⟩ := h.rd i s hs
  have := hc 0 _ rfl
  rw [Nat.mul_one, Nat.add_zero] at this
  exact ⟨b, off, e, hb, this⟩
/-- The sets of the first k numbers that always fit. -/
def setsK (p : PressD) (k : Nat) : List Nat := ((List.range k).map (· + 1)).filter p.sure
theorem setsK_next (p : PressD) (k : Nat) : setsK p (k + 1) = if p.sure (k + 1) = true then setsK p k ++ [k + 1] else setsK p k := by
  unfold setsK
  rw [List.range_succ, List.map_append, List.filter_append]
  cases h : p.sure (k + 1) <;> simp [h]
theorem setsK_len (p : PressD) (k : Nat) : (setsK p k).length ≤ k := by
  unfold setsK
  have h := List.length_filter_le p.sure ((List.range k).map (· + 1))
  simpa using h
section
variable {low top bales : Int} {fa wa lA bA : Option Addr} {fl fc wl wc m lc n bc : Nat} {p : PressD} {l : List Nat}
def RowR (L : List Nat) (w : World) (e : Ending) (w' : World) : Prop := ∃ A c, e = .returned (.slice A L.length c) ∧ RowN nV 3 w' A L ∧ Below w.heap.size w w'
set_option maxRecDepth 100000 in
set_option maxHeartbeats 6400000 in
theorem sure_any' (hv : p.ok = true) (hw : p.wrong = 0) (h7 : p.n ≤ 7) (w : World) (hP : PressIn w w.heap.size fa fl low top bales wa wl p) :
    Calls Try.prog 121 #[pressV fa fl fc low top bales wa wl wc] w (RowR p.sets w) := by
  have HP := Lib.hid hP
  have HV := Lib.hid hv
  have HWR := Lib.hid hw
  have H7 := Lib.hid h7
  have HEN : Hid (p.n = fl) := hP.efl
  have hf7 : fl ≤ 7 := by rw [← HEN.out]; exact h7
  have hfull : full fl ≤ 127 := by
    unfold full
    have h := Nat.pow_le_pow_right (n := 2) (by omega) hf7
    omega
  have HSL : Hid (p.sets = setsK p (full fl)) := by show _ = _; rw [PressD.sets, HEN.out]; rfl
  obtain ⟨i0, hi, hz0, hz1, hz2⟩ := info_parts Try.infoE3
  have HI := Lib.hid hi
  have HI0 := Lib.hid hz0
  have HI1 := Lib.hid hz1
  have HI2 := Lib.hid hz2
  clear hi hz0 hz1 hz2 hP hv hw h7
  unfold pressV
  go_enter Try.func121, Try.ntmps121
  go_wp2
  obtain ⟨W, hW⟩ : ∃ W, W = w.alloc (Obj.cells #[Value.slice fa fl fc, Value.int IntKind.i64 low, Value.int IntKind.i64 top, Value.int IntKind.i64 bales, Value.slice wa wl wc] 25) := ⟨_, rfl⟩
  have HX : Hid (Blk W w.heap.size 25 #[Value.slice fa fl fc, Value.int IntKind.i64 low, Value.int IntKind.i64 top, Value.int IntKind.i64 bales, Value.slice wa wl wc]) := by rw [hW]; exact Blk.new w 25 _
  have HBW : Hid (Below w.heap.size w W) := by rw [hW]; exact (Below.refl _ _).alloc (Nat.le_refl _) _
  rw [← hW]
  clear hW
  go_loopw [3, 4] (fun ov i wr => ∃ (k : Nat) (v : Value), v = ov ∧ k ≤ full fl ∧ i = .int .i64 ((k + 1 : Nat) : Int) ∧ wr.ownsRow W.heap.size 3 1 v (setsK p k).length ((setsK p k).flatMap fun x => [nV x]) ∧ Below W.heap.size W wr) (fun _ i _ => full fl + 1 - (intOf i).toNat)
  case atStart => exact ⟨0, _, rfl, Nat.zero_le _, rfl, own_nil _ _ _ _, Below.refl _ _⟩
  case round =>
    obtain ⟨k, v, hov, hk, rfl, hown, hb⟩ := hrel
    subst hov
    have HO := Lib.hid hown
    have HB := Lib.hid hb
    clear hown hb
    obtain ⟨x0, x1, x2, x3, x4, xl⟩ := blk5 (HX.out.below HB.out HX.out.lt)
    have hln := setsK_len p k
    obtain ⟨N, hN⟩ : ∃ N, (setsK p k).length = N := ⟨_, rfl⟩
    rw [hN] at hln
    have HN := Lib.hid hN
    clear hN
    go_wp2_with fail
    refine (revery_any (low := low) (top := top) (bales := bales) (fa := fa) (wa := wa) (fc := fc) (wl := wl) (wc := wc) (by omega) wr).mono ?_
    rintro e w1 ⟨rfl, hb1⟩
    have HB1 : Hid (Below W.heap.size W w1) := HB.out.trans (hb1.mono HB.out.size)
    have HO1 := Lib.hid (own_below HO.out hb1)
    clear hb1 x0 x1 x2 x3 x4 xl
    obtain ⟨x0, x1, x2, x3, x4, xl⟩ := blk5 (HX.out.below HB1.out HX.out.lt)
    by_cases hlt : k < full fl
    · obtain ⟨F, hF⟩ : ∃ F, p.fits (k + 1) = F := ⟨_, rfl⟩
      have hf2 := fits_sure p (k + 1)
      rw [hF] at hf2
      have HF := Lib.hid hF
      have HF2 := Lib.hid hf2
      have HZ : Hid (k + 1 < 2 ^ p.n) := by show _ < _; rw [HEN.out]; exact le_full.1 (by omega)
      clear hF hf2
      have hle : ((k + 1 : Nat) : Int) ≤ ((full fl : Nat) : Int) := by omega
      go_wp2_with fail
      refine (rfits_any (p := p) HV.out HWR.out H7.out (k + 1) HZ.out w1 (by exact (HP.out.grow HBW.out).grow HB1.out)).mono ?_
      rw [HF.out]
      rintro e w2 ⟨rfl, hb2⟩
      have HB2 : Hid (Below W.heap.size W w2) := HB1.out.trans (hb2.mono HB1.out.size)
      have HO2 := Lib.hid (own_below HO1.out hb2)
      have hs2 := HB2.out.size
      clear hb2 x0 x1 x2 x3 x4 xl
      cases h2 : F == 2
      · have HNX : Hid (setsK p (k + 1) = setsK p k) := by
          show _ = _
          have h := HF2.out
          rw [h2] at h
          rw [setsK_next, if_neg (by rw [← h]; simp)]
        go_wp2
        go_roundw
        case rel => exact ⟨k + 1, _, rfl, by omega, by go_num, by rw [HNX.out]; exact HO2.out, HB2.out⟩
        case measure => simp [intOf]; omega
      · have HNX : Hid (setsK p (k + 1) = setsK p k ++ [k + 1]) := by
          show _ = _
          have h := HF2.out
          rw [h2] at h
          rw [setsK_next, if_pos h.symm]
        have HOWN := Lib.hid (own_below (w' := w2.alloc (.cells #[nV (k + 1)] 3)) HO2.out ((Below.refl w2.heap.size w2).alloc (Nat.le_refl _) _))
        rw [HN.out] at HOWN
        have hB3 : W.heap.size ≤ (w2.alloc (.cells #[nV (k + 1)] 3)).heap.size := by simp; omega
        go_wp2_with (at_builtin; refine wpList_append_own _ rfl _ _ 38 rfl W.heap.size 3 i0 _ 1 8 Try.underlying38 HI.out HI0.out HI1.out HI2.out rfl (by decide) _ _ _ rfl HOWN.out ⟨w2.heap.size, 0, none⟩ 1 1 [nV (k + 1)] rfl rfl (news_block (Blk.new w2 3 _)) (by simp [nV, Value.oneCell']) (by unfold maxLen; omega) (by omega) hB3 ?_)
        intro v' w5 hown5 hgrow5 _
        have HO5 := Lib.hid hown5
        have HG5 : Hid (Below W.heap.size W w5) := Below.grown (HB2.out.alloc hs2 _) hgrow5 hB3 (fun k' hk' => (HOWN.out.lt k' hk').1)
        clear hown5 hgrow5
        go_wp2
        go_roundw
        case rel => exact ⟨k + 1, _, rfl, by omega, by go_num, by rw [HNX.out, List.flatMap_append, List.length_append, HN.out]; exact HO5.out, HG5.out⟩
        case measure => simp [intOf]; omega
    · obtain rfl : full fl = k := by omega
      have hgt : ¬ ((full fl + 1 : Nat) : Int) ≤ ((full fl : Nat) : Int) := by omega
      have hown := HO1.out
      rw [← HSL.out] at hown
      obtain ⟨A, c, hv', hr, -⟩ := RowN.of_own hown rfl
      subst hv'
      have HR := Lib.hid hr
      clear hown hr
      go_wp2
      go_ret
      exact ⟨A, c, rfl, HR.out, HBW.out.trans (HB1.out.mono HBW.out.size)⟩
/-- What a call of pressings leaves. -/
def PressR (B : Nat) (l : List Nat) (b k used : Nat) (beg : List Nat) (Ls : List (List Nat)) (w : World) (e : Ending) (w' : World) : Prop :=
  ∃ v' N xs, e = .returned v' ∧ w'.ownsRow B 38 1 v' N xs ∧ Rows nV 3 w' xs (Ls ++ pressF l b k used beg) ∧ xs.length = N ∧ KT B 38 w w'
/-- What the operations of the region of pressings leave that makes a longer list. -/
def pressT (lv : Value) (i b used z s : Nat) (pv : Value) (B : Nat) (bv : Value) (n : Nat) (beg : List Nat) (ov : Value) (j : Nat) (v : Value) (w : World) : Prop :=
  match j with
  | 0 => v = lv
  | 1 => v = .int .i64 i
  | 2 => v = .int .i64 ((i + 1 : Nat) : Int)
  | 3 => v = .int .i64 ((b + 1 : Nat) : Int)
  | 4 => v = .int .i64 b
  | 5 => v = .int .i64 used
  | 6 => v = lv
  | 7 => v = .int .i64 i
  | 8 => v = pv
  | 9 => v = .int .i64 s
  | 10 => v = .int .i64 z
  | 11 => ∃ g, v = .slice (some ⟨g, 0, none⟩) 0 0 ∧ w.ownsRow B 3 1 (.slice (some ⟨g, 0, none⟩) 0 0) 0 []
  | 12 => v = bv
  | 13 => w.ownsRow B 3 1 v n (beg.flatMap fun x => [nV x])
  | 14 => v = lv
  | 15 => v = .int .i64 i
  | 16 => v = pv
  | 17 => v = .int .i64 s
  | 18 => ∃ g, v = .slice (some ⟨g, 0, none⟩) 1 1 ∧ B ≤ g ∧ Blk w g 3 #[nV s]
  | 19 => w.ownsRow B 3 1 v (n + 1) ((beg ++ [s]).flatMap fun x => [nV x])
  | _ => v = ov
theorem pressT_keep {lv : Value} {i b used z s : Nat} {pv : Value} {B : Nat} {bv : Value} {n : Nat} {beg : List Nat} {ov : Value} (hn : beg.length = n) {j : Nat} {v : Value} {w w' : World} (h : pressT lv i b used z s pv B bv n beg ov j v w) (hG : (GL B 3 n (nV s)).G w w') : pressT lv i b used z s pv B bv n beg ov j v w' := by
  unfold pressT at h ⊢
  split at h
  case h_12 =>
    obtain ⟨g, e, h⟩ := h
    exact ⟨g, e, GL.own (u := nV s) (n := n) hG h (.inl (Nat.zero_le _))⟩
  case h_14 => exact GL.own (u := nV s) (n := n) hG h (.inl (Nat.le_refl _))
  case h_19 =>
    obtain ⟨g, e, hg, h⟩ := h
    exact ⟨g, e, hg, GL.one (u := nV s) (n := n) hG hg h⟩
  case h_20 => exact GL.own (u := nV s) (n := n) hG h (.inr ⟨rfl, by rw [flat_one, List.getElem?_map, List.getElem?_append_right (by rw [hn]; exact Nat.le_refl _), hn, Nat.sub_self]; rfl⟩)
  all_goals exact h
/-- What the sets from the k-th on bring, the first j of them. -/
def preP (l : List Nat) (b used : Nat) (beg : List Nat) (k j : Nat) : List (List Nat) := (List.range' k j).flatMap (pressAt l b used beg)
theorem preP_next (l : List Nat) (b used : Nat) (beg : List Nat) (k j : Nat) : preP l b used beg k (j + 1) = preP l b used beg k j ++ pressAt l b used beg (k + j) := by
  unfold preP
  rw [List.range'_concat, List.flatMap_append]
  simp
set_option maxRecDepth 100000 in
set_option maxHeartbeats 6400000 in
theorem pressings_any (B : Nat) : ∀ (b : Nat) (beg : List Nat) (bA : Option Addr) (n bc N k used : Nat) (v : Value) (xs : List Value) (Ls : List (List Nat)) (w : World), B ≤ w.heap.size → RowN nV 3 w lA l → l.length = m → m ≤ 63 → (∀ s ∈ l, s < 1024) →
    beg.length = n → n + b ≤ 100 → RowN nV 3 w bA beg → w.ownsRow B 38 1 v N xs → Rows nV 3 w xs Ls → xs.length = N → N + 64 ^ b ≤ 2000000000 → k ≤ m → used < 1024 →
    Calls Try.prog 120 #[.slice lA m lc, .int .i64 k, .int .i64 b, .int .i64 used, .slice bA n bc, v] w (PressR B l b k used beg Ls w) := by
  intro b
  induction b with
  | zero =>
    intro beg bA n bc N k used v xs Ls w hB hL hll hm63 hlb hn hnb hR hO hX hxl hN hk hu
    have ih : True := trivial
    have HIH := Lib.hid ih
    have HL := Lib.hid hL
    have HLL := Lib.hid hll
    have HLB := Lib.hid hlb
    have HR := Lib.hid hR
    have HX := Lib.hid hX
    have HO := Lib.hid hO
    have HN := Lib.hid hn
    have HXL := Lib.hid hxl
    have HNB := Lib.hid hN
    obtain ⟨i0, hi, hz0, hz1, hz2⟩ := info_parts Try.infoE38
    have HI := Lib.hid hi
    have HI0 := Lib.hid hz0
    have HI1 := Lib.hid hz1
    have HI2 := Lib.hid hz2
    clear hi hz0 hz1 hz2
    obtain ⟨i3, hi, hz0, hz1, hz2⟩ := info_parts Try.infoE3
    have HJ := Lib.hid hi
    have HJ0 := Lib.hid hz0
    have HJ1 := Lib.hid hz1
    have HJ2 := Lib.hid hz2
    clear hi hz0 hz1 hz2
    clear ih hL hll hlb hR hX hO hn hxl
    have hN2 : N + 1 ≤ 2000000000 := by have := Nat.pow_pos (n := 0) (show 0 < 64 by omega); omega
    clear hN
    have HBA : Hid (Below w.heap.size w (w.alloc (.cells #[.slice bA n bc] 38))) := (Below.refl _ _).alloc (Nat.le_refl _) _
    have HOWN := Lib.hid (own_below HO.out HBA.out)
    have hB1 : B ≤ (w.alloc (.cells #[.slice bA n bc] 38)).heap.size := by simp; omega
    go_enter Try.func120, Try.ntmps120
    go_wp2_with (at_builtin; refine wpList_append_own _ rfl _ _ 153 rfl B 38 i0 _ 1 24 Try.underlying153 HI.out HI0.out HI1.out HI2.out rfl (by decide) _ _ _ rfl HOWN.out ⟨w.heap.size, 0, none⟩ 1 1 [.slice bA n bc] rfl rfl (news_block (Blk.new w 38 _)) (by simp [Value.oneCell']) (by unfold maxLen; omega) (by omega) hB1 ?_)
    intro v1 W hown5 hgrow5 _
    have HKW := Lib.hid ((KT.below hB HBA.out).trans (KT.own hB1 HOWN.out hgrow5))
    have HO5 := Lib.hid hown5
    have hXX : Rows nV 3 W (xs ++ [Value.slice bA n bc]) (Ls ++ [beg]) := by
      have h := (HX.out.kt HKW.out (by decide)).snoc (c := bc) (HR.out.kt HKW.out (by decide))
      rw [HN.out] at h
      exact h
    have HX5 := Lib.hid hXX
    have HXL5 : Hid ((xs ++ [Value.slice bA n bc]).length = N + 1) := by show _ = _; rw [List.length_append, HXL.out]; rfl
    have HL5 := Lib.hid (HL.out.kt HKW.out (by decide))
    have HR5 := Lib.hid (HR.out.kt HKW.out (by decide))
    clear hown5 hgrow5 hXX
    go_wp2
    go_loopw [5, 13] (fun o i wr => v1 = o ∧ i = .int .i64 k ∧ wr = W) (fun _ _ _ => 0)
    case atStart => exact ⟨rfl, rfl, rfl⟩
    case round =>
      obtain ⟨ho, rfl, rfl⟩ := hrel
      subst ho
      by_cases hlt : k < m
      all_goals
        go_wp2
        go_ret
        exact ⟨v1, N + 1, xs ++ [Value.slice bA n bc], rfl, HO5.out, by rw [pressF]; exact HX5.out, HXL5.out, HKW.out⟩
  | succ b ih =>
    intro beg bA n bc N k used v xs Ls w hB hL hll hm63 hlb hn hnb hR hO hX hxl hN hk hu
    have HIH := Lib.hid ih
    have HL := Lib.hid hL
    have HLL := Lib.hid hll
    have HLB := Lib.hid hlb
    have HR := Lib.hid hR
    have HX := Lib.hid hX
    have HO := Lib.hid hO
    have HN := Lib.hid hn
    have HXL := Lib.hid hxl
    have HNB := Lib.hid hN
    obtain ⟨i0, hi, hz0, hz1, hz2⟩ := info_parts Try.infoE38
    have HI := Lib.hid hi
    have HI0 := Lib.hid hz0
    have HI1 := Lib.hid hz1
    have HI2 := Lib.hid hz2
    clear hi hz0 hz1 hz2
    obtain ⟨i3, hi, hz0, hz1, hz2⟩ := info_parts Try.infoE3
    have HJ := Lib.hid hi
    have HJ0 := Lib.hid hz0
    have HJ1 := Lib.hid hz1
    have HJ2 := Lib.hid hz2
    clear hi hz0 hz1 hz2
    clear ih hL hll hlb hR hX hO hn hxl
    have hN2 : N + 1 ≤ 2000000000 := by have := Nat.pow_pos (n := b + 1) (show 0 < 64 by omega); omega
    clear hN
    have HBA : Hid (Below w.heap.size w (w.alloc (.cells #[.slice bA n bc] 38))) := (Below.refl _ _).alloc (Nat.le_refl _) _
    have HOWN := Lib.hid (own_below HO.out HBA.out)
    have hB1 : B ≤ (w.alloc (.cells #[.slice bA n bc] 38)).heap.size := by simp; omega
    go_enter Try.func120, Try.ntmps120
    go_wp2_with (at_builtin; refine wpList_append_own _ rfl _ _ 153 rfl B 38 i0 _ 1 24 Try.underlying153 HI.out HI0.out HI1.out HI2.out rfl (by decide) _ _ _ rfl HOWN.out ⟨w.heap.size, 0, none⟩ 1 1 [.slice bA n bc] rfl rfl (news_block (Blk.new w 38 _)) (by simp [Value.oneCell']) (by unfold maxLen; omega) (by omega) hB1 ?_)
    intro v1 W hown5 hgrow5 _
    have HKW := Lib.hid ((KT.below hB HBA.out).trans (KT.own hB1 HOWN.out hgrow5))
    have HO5 := Lib.hid hown5
    have hXX : Rows nV 3 W (xs ++ [Value.slice bA n bc]) (Ls ++ [beg]) := by
      have h := (HX.out.kt HKW.out (by decide)).snoc (c := bc) (HR.out.kt HKW.out (by decide))
      rw [HN.out] at h
      exact h
    have HX5 := Lib.hid hXX
    have HXL5 : Hid ((xs ++ [Value.slice bA n bc]).length = N + 1) := by show _ = _; rw [List.length_append, HXL.out]; rfl
    have HL5 := Lib.hid (HL.out.kt HKW.out (by decide))
    have HR5 := Lib.hid (HR.out.kt HKW.out (by decide))
    clear hown5 hgrow5 hXX
    have hbp : (0 : Int) < ((b + 1 : Nat) : Int) := by omega
    have hsW : B ≤ W.heap.size := Nat.le_trans hB HKW.out.size
    go_wp2
    go_loopw [5, 13] (fun o i wr => ∃ (j N' : Nat) (xs' : List Value) (ov : Value), ov = o ∧ k + j ≤ m ∧ i = .int .i64 ((k + j : Nat) : Int) ∧ wr.ownsRow B 38 1 ov N' xs' ∧ Rows nV 3 wr xs' (Ls ++ [beg] ++ preP l b used beg k j) ∧ xs'.length = N' ∧ N' ≤ N + 1 + j * 64 ^ b ∧ KT B 38 W wr) (fun _ i _ => m - (intOf i).toNat)
    case atStart => exact ⟨0, N + 1, _, _, rfl, hk, rfl, HO5.out, by simpa [preP] using HX5.out, HXL5.out, by omega, KT.refl⟩
    case round =>
      obtain ⟨j, N', xs', ov, hov, hj, rfl, hown, hrows, hxl, hnj, hkt⟩ := hrel
      subst hov
      have HOW := Lib.hid hown
      have HRW := Lib.hid hrows
      have HXL2 := Lib.hid hxl
      have HNJ := Lib.hid hnj
      have HKT := Lib.hid hkt
      clear hown hrows hxl hnj hkt
      obtain ⟨i, hi⟩ : ∃ i, k + j = i := ⟨_, rfl⟩
      rw [hi] at hj ⊢
      have HIJ := Lib.hid hi
      have hji : j ≤ i := by omega
      clear hi
      have hBr : B ≤ wr.heap.size := Nat.le_trans hsW HKT.out.size
      have HRB := Lib.hid (HR5.out.kt HKT.out (by decide))
      have HLR := Lib.hid (HL5.out.kt HKT.out (by decide))
      by_cases hlt : i < m
      · obtain ⟨s, hs⟩ : ∃ s, l[i]? = some s := ⟨_, List.getElem?_eq_getElem (by rw [HLL.out]; exact hlt)⟩
        have hs10 := HLB.out s (List.mem_of_getElem? hs)
        obtain ⟨lb, lo, rfl, hlb2, H0⟩ := rd_row HLR.out i s hs
        have HS := Lib.hid hs
        have HLEN : Hid (N' + 64 ^ b ≤ 2000000000 ∧ N' + 64 ^ b ≤ N + 1 + (j + 1) * 64 ^ b) := by
          have h1 := HNJ.out
          have h2 := HNB.out
          have h3 : (j + 1) * 64 ^ b ≤ 63 * 64 ^ b := Nat.mul_le_mul (by omega) (Nat.le_refl _)
          rw [Nat.pow_succ, Nat.mul_comm] at h2
          have h4 : (j + 1) * 64 ^ b = j * 64 ^ b + 64 ^ b := Nat.succ_mul _ _
          have h5 : 0 < 64 ^ b := Nat.pow_pos (by omega)
          exact ⟨by omega, by omega⟩
        clear hs
        go_wp2_with fail
        refine (apart_any s used hs10 hu wr).mono ?_
        cases hap : (s &&& used == 0)
        · have HPN : Hid (preP l b used beg k (j + 1) = preP l b used beg k j) := by
            show _ = _
            rw [preP_next, HIJ.out, pressAt, HS.out]
            simp only
            rw [if_neg (by simpa using hap), List.append_nil]
          have HNJ2 : Hid (N' ≤ N + 1 + (j + 1) * 64 ^ b) := Nat.le_trans (Nat.le_add_right _ _) HLEN.out.2
          have HKJ : Hid (((i : Int) + 1) = ((k + (j + 1) : Nat) : Int)) := by have := HIJ.out; show _ = _; omega
          clear hap
          rintro e w5 ⟨rfl, rfl⟩
          go_wp2
          go_roundw
          case rel => exact ⟨j + 1, N', xs', _, rfl, by have := HIJ.out; omega, by rw [HKJ.out], HOW.out, by rw [HPN.out]; exact HRW.out, HXL2.out, HNJ2.out, HKT.out⟩
          case measure => simp [intOf]; omega
        · have hz0 : s &&& used = 0 := by simpa using hap
          obtain ⟨z, hz⟩ : ∃ z, used ||| s = z := ⟨_, rfl⟩
          have hz10 : z < 1024 := by rw [← hz]; exact Nat.or_lt_two_pow (n := 10) hu hs10
          have hsum : used + s = z := by rw [← hz, or_add (by rw [Nat.and_comm]; exact hz0) (by omega) (by omega)]
          have HPN : Hid (preP l b used beg k (j + 1) = preP l b used beg k j ++ pressF l b (i + 1) z (beg ++ [s])) := by
            show _ = _
            rw [preP_next, HIJ.out, pressAt, HS.out]
            simp only
            rw [if_pos hz0, hz]
          have q1 : IntKind.i64.wrap ((i : Int) + 1) = ((i + 1 : Nat) : Int) := by rw [wrap_i64 (by omega) (by omega)]; simp
          have q2 : IntKind.i64.wrap (b : Int) = (b : Int) := wrap_i64 (by omega) (by omega)
          have q3 : IntKind.i64.wrap ((used : Int) + (s : Int)) = (z : Int) := by rw [wrap_i64 (by omega) (by omega)]; omega
          clear hap hz0 hz hsum
          rintro e w5 ⟨rfl, rfl⟩
          obtain ⟨wr, hwr⟩ : ∃ wr, wr = w5 := ⟨_, rfl⟩
          subst hwr
          have hil : (i : Int) < (m : Int) := by omega
          have hi0 : (0 : Int) ≤ (i : Int) := by omega
          go_upto_region 6 with fail
          refine HavG.wp_region_tab (R := GL wr.heap.size 3 n (nV s)) (pressT (.slice (some ⟨lb, lo, none⟩) m lc) i b used z s (.pointer (some ⟨lb, lo + i, none⟩)) wr.heap.size (.slice bA n bc) n beg ov) [35,36,37,38,39,40,41,42,43,44,45,46,47,48,49,50,51,52,53,54,55] [21,22] (by kernel_rfl) (by kernel_rfl) (by rfl) (fun i v w w' => pressT_keep HN.out) ?_ ?_
          · intro jj hjj oo a' w' ho hag hg hd
            have hcv : ∀ b o, b < _ → w'.cell? ⟨b, o, none⟩ = _ := fun b o hb => Below.cell hg.1 (p := ⟨b, o, none⟩) hb
            match jj, hjj, ho, hd with
        | 0, _, ho, hd =>
          (simp only [List.getElem?_toArray, List.getElem?_cons_zero, Option.some.injEq] at ho; subst ho)
          have s0 : a'.tmps.getD 0 undef = .slice (some ⟨lb, lo, none⟩) m lc := hag.slot 0 (by kernel_rfl)
          refine HavG.tab_val rfl ⟨_, w', ?_, (GL _ _ _ _).refl _, rfl⟩
          go_simp
        | 1, _, ho, hd =>
          (simp only [List.getElem?_toArray, List.getElem?_cons_succ, List.getElem?_cons_zero, Option.some.injEq] at ho; subst ho)
          have s13 : a'.tmps.getD 13 undef = .int .i64 i := hag.slot 13 (by kernel_rfl)
          refine HavG.tab_val rfl ⟨_, w', ?_, (GL _ _ _ _).refl _, rfl⟩
          go_simp
        | 2, _, ho, hd =>
          (simp only [List.getElem?_toArray, List.getElem?_cons_succ, List.getElem?_cons_zero, Option.some.injEq] at ho; subst ho)
          have s36 : a'.tmps.getD 36 undef = .int .i64 i := hd 1 36 (by kernel_rfl) rfl
          refine HavG.tab_val rfl ⟨_, w', ?_, (GL _ _ _ _).refl _, rfl⟩
          go_simp
        | 3, _, ho, hd =>
          (simp only [List.getElem?_toArray, List.getElem?_cons_succ, List.getElem?_cons_zero, Option.some.injEq] at ho; subst ho)
          have s2 : a'.tmps.getD 2 undef = .int .i64 ((b + 1 : Nat) : Int) := hag.slot 2 (by kernel_rfl)
          refine HavG.tab_val rfl ⟨_, w', ?_, (GL _ _ _ _).refl _, rfl⟩
          go_simp
        | 4, _, ho, hd =>
          (simp only [List.getElem?_toArray, List.getElem?_cons_succ, List.getElem?_cons_zero, Option.some.injEq] at ho; subst ho)
          have s38 : a'.tmps.getD 38 undef = .int .i64 ((b + 1 : Nat) : Int) := hd 3 38 (by kernel_rfl) rfl
          refine HavG.tab_val rfl ⟨_, w', ?_, (GL _ _ _ _).refl _, rfl⟩
          go_simp
        | 5, _, ho, hd =>
          (simp only [List.getElem?_toArray, List.getElem?_cons_succ, List.getElem?_cons_zero, Option.some.injEq] at ho; subst ho)
          have s3 : a'.tmps.getD 3 undef = .int .i64 used := hag.slot 3 (by kernel_rfl)
          refine HavG.tab_val rfl ⟨_, w', ?_, (GL _ _ _ _).refl _, rfl⟩
          go_simp
        | 6, _, ho, hd =>
          (simp only [List.getElem?_toArray, List.getElem?_cons_succ, List.getElem?_cons_zero, Option.some.injEq] at ho; subst ho)
          have s0 : a'.tmps.getD 0 undef = .slice (some ⟨lb, lo, none⟩) m lc := hag.slot 0 (by kernel_rfl)
          refine HavG.tab_val rfl ⟨_, w', ?_, (GL _ _ _ _).refl _, rfl⟩
          go_simp
        | 7, _, ho, hd =>
          (simp only [List.getElem?_toArray, List.getElem?_cons_succ, List.getElem?_cons_zero, Option.some.injEq] at ho; subst ho)
          have s13 : a'.tmps.getD 13 undef = .int .i64 i := hag.slot 13 (by kernel_rfl)
          refine HavG.tab_val rfl ⟨_, w', ?_, (GL _ _ _ _).refl _, rfl⟩
          go_simp
        | 8, _, ho, hd =>
          (simp only [List.getElem?_toArray, List.getElem?_cons_succ, List.getElem?_cons_zero, Option.some.injEq] at ho; subst ho)
          have s41 : a'.tmps.getD 41 undef = .slice (some ⟨lb, lo, none⟩) m lc := hd 6 41 (by kernel_rfl) rfl
          have s42 : a'.tmps.getD 42 undef = .int .i64 i := hd 7 42 (by kernel_rfl) rfl
          refine HavG.tab_val rfl ⟨_, w', ?_, (GL _ _ _ _).refl _, rfl⟩
          go_simp
        | 9, _, ho, hd =>
          (simp only [List.getElem?_toArray, List.getElem?_cons_succ, List.getElem?_cons_zero, Option.some.injEq] at ho; subst ho)
          have s43 : a'.tmps.getD 43 undef = .pointer (some ⟨lb, lo + i, none⟩) := hd 8 43 (by kernel_rfl) rfl
          refine HavG.tab_val rfl ⟨_, w', ?_, (GL _ _ _ _).refl _, rfl⟩
          go_simp
        | 10, _, ho, hd =>
          (simp only [List.getElem?_toArray, List.getElem?_cons_succ, List.getElem?_cons_zero, Option.some.injEq] at ho; subst ho)
          have s40 : a'.tmps.getD 40 undef = .int .i64 used := hd 5 40 (by kernel_rfl) rfl
          have s44 : a'.tmps.getD 44 undef = .int .i64 s := hd 9 44 (by kernel_rfl) rfl
          refine HavG.tab_val rfl ⟨_, w', ?_, (GL _ _ _ _).refl _, rfl⟩
          go_simp
        | 11, _, ho, hd =>
          (simp only [List.getElem?_toArray, List.getElem?_cons_succ, List.getElem?_cons_zero, Option.some.injEq] at ho; subst ho)
          refine HavG.tab_val rfl ⟨.slice (some ⟨w'.heap.size, 0, none⟩) 0 0, w'.alloc (.cells #[] 3), ?_, GL.below hg.1.size ((Below.refl _ _).alloc (Nat.le_refl _) _), w'.heap.size, rfl, own_base (ownsRow_empty rfl 3 1) hg.1.size⟩
          go_simp
        | 12, _, ho, hd =>
          (simp only [List.getElem?_toArray, List.getElem?_cons_succ, List.getElem?_cons_zero, Option.some.injEq] at ho; subst ho)
          have s4 : a'.tmps.getD 4 undef = .slice bA n bc := hag.slot 4 (by kernel_rfl)
          refine HavG.tab_val rfl ⟨_, w', ?_, (GL _ _ _ _).refl _, rfl⟩
          go_simp
        | 13, _, ho, hd =>
          (simp only [List.getElem?_toArray, List.getElem?_cons_succ, List.getElem?_cons_zero, Option.some.injEq] at ho; subst ho)
          obtain ⟨g, e3, h3⟩ := hd 11 46 (by kernel_rfl) rfl
          have e4 : HavG.slot a' 47 = .slice bA n bc := hd 12 47 (by kernel_rfl) rfl
          obtain ⟨v', w2, hrun, -, hown, hG⟩ := append_empty (P := Try.prog) (B := wr.heap.size) (t := 3) (u := nV s) (n := n) (c := bc) (f := fun x => [nV x]) 38 38 i3 _ 8 Try.underlying38 HJ.out HJ0.out HJ1.out HJ2.out rfl (fun _ => rfl) (fun x u hu => by simp at hu; subst hu; rfl) HN.out (HRB.out.below hg.1).rd (by omega) (by omega) hg.1.size h3
          exact HavG.tab_val rfl ⟨v', w2, append_oper rfl e3 e4 hrun, hG, hown⟩
        | 14, _, ho, hd =>
          (simp only [List.getElem?_toArray, List.getElem?_cons_succ, List.getElem?_cons_zero, Option.some.injEq] at ho; subst ho)
          have s0 : a'.tmps.getD 0 undef = .slice (some ⟨lb, lo, none⟩) m lc := hag.slot 0 (by kernel_rfl)
          refine HavG.tab_val rfl ⟨_, w', ?_, (GL _ _ _ _).refl _, rfl⟩
          go_simp
        | 15, _, ho, hd =>
          (simp only [List.getElem?_toArray, List.getElem?_cons_succ, List.getElem?_cons_zero, Option.some.injEq] at ho; subst ho)
          have s13 : a'.tmps.getD 13 undef = .int .i64 i := hag.slot 13 (by kernel_rfl)
          refine HavG.tab_val rfl ⟨_, w', ?_, (GL _ _ _ _).refl _, rfl⟩
          go_simp
        | 16, _, ho, hd =>
          (simp only [List.getElem?_toArray, List.getElem?_cons_succ, List.getElem?_cons_zero, Option.some.injEq] at ho; subst ho)
          have s49 : a'.tmps.getD 49 undef = .slice (some ⟨lb, lo, none⟩) m lc := hd 14 49 (by kernel_rfl) rfl
          have s50 : a'.tmps.getD 50 undef = .int .i64 i := hd 15 50 (by kernel_rfl) rfl
          refine HavG.tab_val rfl ⟨_, w', ?_, (GL _ _ _ _).refl _, rfl⟩
          go_simp
        | 17, _, ho, hd =>
          (simp only [List.getElem?_toArray, List.getElem?_cons_succ, List.getElem?_cons_zero, Option.some.injEq] at ho; subst ho)
          have s51 : a'.tmps.getD 51 undef = .pointer (some ⟨lb, lo + i, none⟩) := hd 16 51 (by kernel_rfl) rfl
          refine HavG.tab_val rfl ⟨_, w', ?_, (GL _ _ _ _).refl _, rfl⟩
          go_simp
        | 18, _, ho, hd =>
          (simp only [List.getElem?_toArray, List.getElem?_cons_succ, List.getElem?_cons_zero, Option.some.injEq] at ho; subst ho)
          have s52 : a'.tmps[52]?.getD undef = .int .i64 s := by rw [← Array.getD_eq_getD_getElem?]; exact hd 17 52 (by kernel_rfl) rfl
          refine HavG.tab_val rfl ⟨.slice (some ⟨w'.heap.size, 0, none⟩) 1 1, w'.alloc (.cells #[nV s] 3), ?_, GL.below hg.1.size ((Below.refl _ _).alloc (Nat.le_refl _) _), w'.heap.size, rfl, hg.1.size, Blk.new w' 3 _⟩
          go_simp
          rfl
        | 19, _, ho, hd =>
          (simp only [List.getElem?_toArray, List.getElem?_cons_succ, List.getElem?_cons_zero, Option.some.injEq] at ho; subst ho)
          have h5 := hd 13 48 (by kernel_rfl) rfl
          obtain ⟨g, e7, hgB, h7⟩ := hd 18 53 (by kernel_rfl) rfl
          obtain ⟨v', w2, hrun, hown, hG⟩ := append_next (P := Try.prog) (B := wr.heap.size) (t := 3) (u := nV s) (n := n) 38 38 i3 _ 8 Try.underlying38 HJ.out HJ0.out HJ1.out HJ2.out rfl (by rfl) (by omega) (by omega) hg.1.size h5 h7
          exact HavG.tab_val rfl ⟨v', w2, append_oper rfl rfl e7 hrun, hG, by unfold pressT; rw [List.flatMap_append]; exact hown⟩
        | 20, _, ho, hd =>
          (simp only [List.getElem?_toArray, List.getElem?_cons_succ, List.getElem?_cons_zero, Option.some.injEq] at ho; subst ho)
          have s5 : a'.tmps.getD 5 undef = ov := hag.slot 5 (by kernel_rfl)
          refine HavG.tab_val rfl ⟨_, w', ?_, (GL _ _ _ _).refl _, rfl⟩
          go_simp
            | j + 21, hjj, _, _ => exact absurd hjj (by show ¬ j + 21 < 21; omega)
          intro f w2 hg2 hf
          have h0 : f 35 = _ := hf 0 35 rfl
          have h1 : f 37 = _ := hf 2 37 rfl
          have h2 : f 39 = _ := hf 4 39 rfl
          have h3 : f 45 = _ := hf 10 45 rfl
          have h8 := hf 19 54 rfl
          have h9 : f 55 = _ := hf 20 55 rfl
          obtain ⟨A8, c8, e8, hr8, -⟩ := RowN.of_own h8 (by rw [List.length_append, HN.out]; rfl)
          simp only [List.filterMap, HavG.puts, List.foldl_cons, List.foldl_nil, Act.put, List.setIfInBounds_toArray, List.set_cons_succ, List.set_cons_zero]
          rw [h0, h1, h2, h3, e8, h9]
          clear h0 h1 h2 h3 h8 e8 h9 hf q1 q2 q3
          have HR8 := Lib.hid hr8
          have HG2 := Lib.hid hg2.1
          clear hr8 hg2 H0 hlb2
          go_wp2_with fail
          refine (HIH.out (beg ++ [s]) A8 (n + 1) c8 N' (i + 1) z _ xs' (Ls ++ [beg] ++ preP l b used beg k j) w2 (Nat.le_trans hBr HG2.out.size) (HLR.out.below HG2.out) HLL.out hm63 HLB.out (by rw [List.length_append, HN.out]; rfl) (by omega) HR8.out (own_below HOW.out HG2.out) (HRW.out.below HG2.out) HXL2.out HLEN.out.1 (by omega) hz10).mono ?_
          rintro e w3 ⟨v3, N3, xs3, rfl, hown3, hrows3, hxl3, hkt3⟩
          have hn3 : N3 ≤ N' + 64 ^ b := by
            have h1 := hrows3.1
            have h2 := HRW.out.1
            have h3 : (pressF l b (i + 1) z (beg ++ [s])).length ≤ 64 ^ b := pressF_len (m := 63) (l := l) (by rw [HLL.out]; exact hm63) b (i + 1) z (beg ++ [s])
            rw [List.length_append] at h1
            have := HXL2.out
            omega
          rw [List.append_assoc, ← HPN.out] at hrows3
          have HO3 := Lib.hid hown3
          have HR3 := Lib.hid hrows3
          have HX3 := Lib.hid hxl3
          have HK3 := Lib.hid ((HKT.out.trans (KT.below hBr HG2.out)).trans hkt3)
          have HN3 : Hid (N3 ≤ N + 1 + (j + 1) * 64 ^ b) := by
            have h1 := HLEN.out.2
            show _ ≤ _
            omega
          have HKJ : Hid (((i : Int) + 1) = ((k + (j + 1) : Nat) : Int)) := by have := HIJ.out; show _ = _; omega
          clear hown3 hrows3 hxl3 hkt3 hn3
          go_wp2
          go_roundw
          case rel => exact ⟨j + 1, N3, xs3, _, rfl, by have := HIJ.out; omega, by rw [HKJ.out], HO3.out, HR3.out, HX3.out, HN3.out, HK3.out⟩
          case measure => simp [intOf]; omega
      · have hge : decide (i < m) = false := by simp; omega
        have HALL : Hid (Ls ++ [beg] ++ preP l b used beg k j = Ls ++ pressF l (b + 1) k used beg) := by
          show _ = _
          rw [pressF_succ, HLL.out, show m - k = j by have := HIJ.out; omega, List.append_assoc]
          rfl
        go_wp2
        go_ret
        exact ⟨_, N', xs', rfl, HOW.out, by rw [← HALL.out]; exact HRW.out, HXL2.out, HKW.out.trans HKT.out⟩
end
end Go.Proofs.Ytbfjebglaimcmaa
