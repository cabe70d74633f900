/- The walk of the reference's lists: all weights of the fleeces of a bale; conditions: the press is valid, it has few fleeces, numbers are small. -/
import Derived.Test.YtbfjebglaimcmaaRefG
import Derived.Test.YtbfjebglaimcmaaPlain3
import Derived.Test.YtbfjebglaimcmaaHavTab
namespace Go.Proofs.Ytbfjebglaimcmaa
open Go.RowKit Go.Hav
theorem Try.infoE38 : (Try.prog.info? 38).map (fun i => (i.zero, i.size, i.bytes)) = some (some (.slice none 0 0), 1, 24) := by kernel_rfl
theorem ofB_bd {p : PressD} (hv : p.ok = true) (s i : Nat) (hi : i < p.n) : 0 ≤ (p.ofB s i).lo ∧ (p.ofB s i).lo ≤ (p.ofB s i).hi ∧ (p.ofB s i).hi ≤ 20 ∧ (p.ofB s i).hi - (p.ofB s i).lo ≤ 3 := by
  have h := PressD.ok_fl hv hi
  unfold PressD.ofB
  split
  · omega
  · exact ⟨by simp, by simp, by simp, by simp⟩
theorem spanL_len (lo hi : Int) : (spanL lo hi).length = (hi + 1 - lo).toNat := by unfold spanL; rw [List.length_map, List.length_range]
theorem spanL_at {lo hi : Int} {j : Nat} (h : j < (hi + 1 - lo).toNat) : (spanL lo hi)[j]? = some (lo + j) := by
  unfold spanL
  rw [List.getElem?_map, List.getElem?_range h]
  rfl
theorem listsF_len {p : PressD} (hv : p.ok = true) (b : Nat) (all : Sp) : ∀ (k : Nat) (beg : List Int), beg.length + k = p.n → (p.listsF b all k beg).length ≤ 4 ^ k := by
  intro k
  induction k with
  | zero => intro beg _; rw [PressD.listsF]; split <;> simp
  | succ k ih =>
    intro beg hb
    have hl := ofB_bd hv b beg.length (by omega)
    rw [PressD.listsF]
    have key : ∀ (l : List Int), (l.flatMap fun x => p.listsF b all k (beg ++ [x])).length ≤ l.length * 4 ^ k := by
      intro l
      induction l with
      | nil => simp
      | cons x l ihl =>
        rw [List.flatMap_cons, List.length_append, List.length_cons, Nat.succ_mul]
        have := ih (beg ++ [x]) (by simp; omega)
        omega
    refine Nat.le_trans (key _) ?_
    rw [spanL_len, Nat.pow_succ, Nat.mul_comm (4 ^ k)]
    exact Nat.mul_le_mul (by omega) (Nat.le_refl _)
/-- What the first j numbers of a span bring. -/
def preL (p : PressD) (b : Nat) (all : Sp) (k : Nat) (beg : List Int) (j : Nat) : List (List Int) := ((spanL (p.ofB b beg.length).lo (p.ofB b beg.length).hi).take j).flatMap fun x => p.listsF b all k (beg ++ [x])
theorem preL_next {p : PressD} {b : Nat} {all : Sp} {k : Nat} {beg : List Int} {j : Nat} (h : j < ((p.ofB b beg.length).hi + 1 - (p.ofB b beg.length).lo).toNat) :
    preL p b all k beg (j + 1) = preL p b all k beg j ++ p.listsF b all k (beg ++ [(p.ofB b beg.length).lo + j]) := by
  unfold preL
  rw [List.take_add_one, spanL_at h, List.flatMap_append]
  simp
theorem preL_all {p : PressD} {b : Nat} {all : Sp} {k : Nat} {beg : List Int} : preL p b all k beg ((p.ofB b beg.length).hi + 1 - (p.ofB b beg.length).lo).toNat = p.listsF b all (k + 1) beg := by
  unfold preL
  rw [List.take_of_length_le (by rw [spanL_len]; exact Nat.le_refl _)]
  rfl
def iV (n : Int) : Value := .int .i64 n
theorem sum_take {l : List Int} {j : Nat} {x : Int} (h : l[j]? = some x) : (l.take (j + 1)).sum = (l.take j).sum + x := by
  rw [List.take_add_one, h]
  simp
theorem sum_bd {l : List Int} (h : ∀ x ∈ l, 0 ≤ x ∧ x ≤ 20) : 0 ≤ l.sum ∧ l.sum ≤ 20 * l.length := by
  induction l with
  | nil => simp
  | cons x l ih =>
    have h1 := h x (by simp)
    have h2 := ih (fun y hy => h y (by simp [hy]))
    simp only [List.sum_cons, List.length_cons]
    omega
/-- What the operations of the region of lists leave that makes a longer list. -/
def listsT (pv : Value) (s : Nat) (av : Value) (B : Nat) (bv : Value) (n : Nat) (beg : List Int) (q : Int) (ov : Value) (i : Nat) (v : Value) (w : World) : Prop :=
  match i with
  | 0 => v = pv
  | 1 => v = .int .i64 s
  | 2 => v = av
  | 3 => ∃ g, v = .slice (some ⟨g, 0, none⟩) 0 0 ∧ w.ownsRow B 3 1 (.slice (some ⟨g, 0, none⟩) 0 0) 0 []
  | 4 => v = bv
  | 5 => w.ownsRow B 3 1 v n (beg.flatMap fun x => [iV x])
  | 6 => v = .int .i64 q
  | 7 => ∃ g, v = .slice (some ⟨g, 0, none⟩) 1 1 ∧ B ≤ g ∧ Blk w g 3 #[iV q]
  | 8 => w.ownsRow B 3 1 v (n + 1) ((beg ++ [q]).flatMap fun x => [iV x])
  | _ => v = ov
theorem listsT_keep {pv : Value} {s : Nat} {av : Value} {B : Nat} {bv : Value} {n : Nat} {beg : List Int} {q : Int} {ov : Value} (hn : beg.length = n) {i : Nat} {v : Value} {w w' : World} (h : listsT pv s av B bv n beg q ov i v w) (hG : (GL B 3 n (iV q)).G w w') : listsT pv s av B bv n beg q ov i v w' := by
  unfold listsT at h ⊢
  split at h
  · exact h
  · exact h
  · exact h
  · obtain ⟨g, e, h⟩ := h
    exact ⟨g, e, GL.own (u := iV q) (n := n) hG h (.inl (Nat.zero_le _))⟩
  · exact h
  · exact GL.own (u := iV q) (n := n) hG h (.inl (Nat.le_refl _))
  · exact h
  · obtain ⟨g, e, hg, h⟩ := h
    exact ⟨g, e, hg, GL.one (u := iV q) (n := n) hG hg h⟩
  · exact GL.own (u := iV q) (n := n) hG h (.inr ⟨rfl, by rw [flat_one, List.getElem?_map, List.getElem?_append_right (by rw [hn]; exact Nat.le_refl _), hn, Nat.sub_self]; rfl⟩)
  · exact h
section
variable {low top bales : Int} {fa wa bA : Option Addr} {fl fc wl wc n bc : Nat} {p : PressD}
/-- What a call of lists leaves. -/
def ListsR (B : Nat) (p : PressD) (s : Nat) (all : Sp) (k : Nat) (beg : List Int) (Ls : List (List Int)) (w : World) (e : Ending) (w' : World) : Prop :=
  ∃ v' N xs, e = .returned v' ∧ w'.ownsRow B 38 1 v' N xs ∧ Rows iV 3 w' xs (Ls ++ p.listsF s all k beg) ∧ xs.length = N ∧ KT B 38 w w'
set_option maxRecDepth 100000 in
set_option maxHeartbeats 6400000 in
theorem lists_zero (hv : p.ok = true) (s : Nat) (all : Sp) (B : Nat) (beg : List Int) (N : Nat) (v : Value) (xs : List Value) (Ls : List (List Int)) (w : World) (hB : B ≤ w.heap.size) (hP : PressIn w B fa fl low top bales wa wl p)
    (hn : beg.length = n) (hk : n = fl) (hbg : ∀ x ∈ beg, 0 ≤ x ∧ x ≤ 20) (hR : RowN iV 3 w bA beg) (hO : w.ownsRow B 38 1 v N xs) (hX : Rows iV 3 w xs Ls) (hN : N + 1 ≤ 20000) :
    Calls Try.prog 139 #[pressV fa fl fc low top bales wa wl wc, .int .i64 s, spV all, .slice bA n bc, v] w (ListsR B p s all 0 beg Ls w) := by
  have HP := Lib.hid hP
  have HR := Lib.hid hR
  have HX := Lib.hid hX
  have HO := Lib.hid hO
  have HN := Lib.hid hn
  have HBG := Lib.hid hbg
  have hn10 : fl ≤ 10 := by have := (PressD.ok_head hv).1; rw [show p.n = fl from hP.efl] at this; exact this
  obtain ⟨al, ah⟩ := all
  unfold pressV spV
  clear hP hR hX hO hn hbg hv
  go_enter Try.func139, Try.ntmps139
  subst hk
  go_wp2
  obtain ⟨i0, hi, hz0, hz1, hz2⟩ := info_parts Try.infoE38
  have HI := Lib.hid hi
  have HI0 := Lib.hid hz0
  have HI1 := Lib.hid hz1
  have HI2 := Lib.hid hz2
  clear hi hz0 hz1 hz2
  obtain ⟨W, hW⟩ : ∃ W, W = (w.alloc (Obj.cells #[Value.slice fa n fc, Value.int IntKind.i64 low, Value.int IntKind.i64 top, Value.int IntKind.i64 bales, Value.slice wa wl wc] 25)).alloc (Obj.cells #[Value.int IntKind.i64 al, Value.int IntKind.i64 ah] 29) := ⟨_, rfl⟩
  have HK7 : Hid (Blk W (w.heap.size + 1) 29 #[.int .i64 al, .int .i64 ah]) := by rw [hW]; exact Blk.new_ (by simp) 29 _
  have HBW : Hid (Below w.heap.size w W) := by rw [hW]; exact ((Below.refl _ _).alloc (Nat.le_refl _) _).alloc (by simp) _
  have hsW : w.heap.size + 1 < W.heap.size := HK7.out.lt
  rw [← hW]
  clear hW
  have HRW := Lib.hid (HR.out.below HBW.out)
  go_loopw [12, 13] (fun sv i wr => ∃ (j : Nat) (t : Int), j ≤ n ∧ i = .int .i64 j ∧ sv = .int .i64 t ∧ Hid ((beg.take j).sum = t) ∧ 0 ≤ t ∧ t ≤ 20 * j ∧ wr = W) (fun _ i _ => n - (intOf i).toNat)
  case atStart => exact ⟨0, 0, Nat.zero_le _, rfl, rfl, rfl, by omega, by omega, rfl⟩
  case round =>
    obtain ⟨j, t, hj, rfl, rfl, HT, ht0, ht1, rfl⟩ := hrel
    by_cases hlt : j < n
    · obtain ⟨x, hx⟩ : ∃ x, beg[j]? = some x := ⟨_, List.getElem?_eq_getElem (by rw [HN.out]; exact hlt)⟩
      obtain ⟨x0, x1⟩ := HBG.out x (List.mem_of_getElem? hx)
      have HT1 : Hid ((beg.take (j + 1)).sum = t + x) := by show _ = _; rw [sum_take hx, HT.out]
      obtain ⟨b, off, rfl, hb, H0⟩ := rd_in (l := beg) HRW.out.rd j x hx
      clear hx
      go_wp2
      go_roundw
      case rel => exact ⟨j + 1, t + x, by omega, by go_num, rfl, HT1, by omega, by omega, trivial⟩
      case measure => simp [intOf]; omega
    · obtain rfl : n = j := by omega
      have HS : Hid (beg.sum = t) := by
        show _ = _
        rw [← HT.out, List.take_of_length_le (by rw [HN.out]; exact Nat.le_refl _)]
      have hk := HK7.out
      have y0 := hk.cell 0
      have y1 := hk.cell 1
      simp at y0 y1
      clear hk
      go_wp2_with fail
      refine (rin_any t al ah _).mono ?_
      cases hin : inB t al ah
      · rintro e w1 ⟨rfl, rfl⟩
        go_wp2
        go_ret
        refine ⟨v, N, xs, rfl, own_below HO.out HBW.out, ?_, by have := HO.out.1; omega, KT.below hB HBW.out⟩
        rw [PressD.listsF, HS.out, if_neg (by rw [hin]; simp), List.append_nil]
        exact HX.out.below HBW.out
      · rintro e w1 ⟨rfl, rfl⟩
        have HBA : Hid (Below w1.heap.size w1 (w1.alloc (.cells #[.slice bA n bc] 38))) := (Below.refl _ _).alloc (Nat.le_refl _) _
        have HOWN := Lib.hid (own_below (own_below HO.out HBW.out) HBA.out)
        have hB1 : B ≤ (w1.alloc (.cells #[.slice bA n bc] 38)).heap.size := by simp; omega
        clear y0 y1
        go_wp2_with (at_builtin; refine wpList_append_own _ rfl _ _ 153 rfl B 38 i0 _ 1 24 Try.underlying153 HI.out HI0.out HI1.out HI2.out rfl (by decide) _ _ _ rfl HOWN.out ⟨w1.heap.size, 0, none⟩ 1 1 [.slice bA n bc] rfl rfl (news_block (Blk.new w1 38 _)) (by simp [Value.oneCell']) (by unfold maxLen; omega) (by omega) hB1 ?_)
        intro v' w5 hown5 hgrow5 _
        have HO5 := Lib.hid hown5
        have HG5 := Lib.hid (KT.own hB1 HOWN.out hgrow5)
        clear hown5 hgrow5
        go_wp2
        go_ret
        have hk : KT B 38 w w5 := (KT.below hB HBW.out).trans ((KT.below (by omega) HBA.out).trans HG5.out)
        refine ⟨v', N + 1, xs ++ [.slice bA n bc], rfl, HO5.out, ?_, by have := HO5.out.1; omega, hk⟩
        rw [PressD.listsF, HS.out, if_pos hin]
        have h := (HX.out.kt hk (by decide)).snoc (c := bc) (HR.out.kt hk (by decide))
        rw [HN.out] at h
        exact h
set_option maxRecDepth 100000 in
set_option maxHeartbeats 6400000 in
theorem lists_any (hv : p.ok = true) (s : Nat) (hs : s < 1024) (all : Sp) (B : Nat) : ∀ (k : Nat) (beg : List Int) (bA : Option Addr) (n bc N : Nat) (v : Value) (xs : List Value) (Ls : List (List Int)) (w : World), B ≤ w.heap.size → PressIn w B fa fl low top bales wa wl p →
    beg.length = n → n + k = fl → (∀ x ∈ beg, 0 ≤ x ∧ x ≤ 20) → RowN iV 3 w bA beg → w.ownsRow B 38 1 v N xs → Rows iV 3 w xs Ls → xs.length = N → N + 4 ^ k ≤ 20000 →
    Calls Try.prog 139 #[pressV fa fl fc low top bales wa wl wc, .int .i64 s, spV all, .slice bA n bc, v] w (ListsR B p s all k beg Ls w) := by
  intro k
  induction k with
  | zero =>
    intro beg bA n bc N v xs Ls w hB hP hn hk hbg hR hO hX _ hN
    exact lists_zero hv s all B beg N v xs Ls w hB hP hn (by omega) hbg hR hO hX (by simpa using hN)
  | succ k ih =>
    intro beg bA n bc N v xs Ls w hB hP hn hk hbg hR hO hX hxl hN
    have HIH := Lib.hid ih
    have HV := Lib.hid hv
    have HP := Lib.hid hP
    have HR := Lib.hid hR
    have HX := Lib.hid hX
    have HO := Lib.hid hO
    have HN := Lib.hid hn
    have HBG := Lib.hid hbg
    have HXL := Lib.hid hxl
    have HNB := Lib.hid hN
    have HEN : Hid (p.n = fl) := hP.efl
    have hn10 : fl ≤ 10 := by have := (PressD.ok_head hv).1; rw [HEN.out] at this; exact this
    have hlt : n < fl := by omega
    have HK := Lib.hid hk
    obtain ⟨al, ah⟩ := all
    have hbd := ofB_bd hv s beg.length (by rw [HN.out, HEN.out]; exact hlt)
    obtain ⟨⟨lo, hi⟩, hof⟩ : ∃ v, p.ofB s n = v := ⟨_, rfl⟩
    rw [hn, hof] at hbd
    simp only at hbd
    obtain ⟨hb0, hb1, hb2, hb3⟩ := hbd
    have HOF := Lib.hid hof
    obtain ⟨m, hm⟩ : ∃ m, (hi + 1 - lo).toNat = m := ⟨_, rfl⟩
    have hm4 : m ≤ 4 := by omega
    have hml : lo + m = hi + 1 := by omega
    have HM := Lib.hid hm
    have hne : ¬ n = fl := by omega
    unfold pressV spV
    clear hP hR hX hO hn hbg hv ih hxl hN hof hm hk
    go_enter Try.func139, Try.ntmps139
    go_wp2_with fail
    obtain ⟨W, hW⟩ : ∃ W, W = ((w.alloc (Obj.cells #[Value.slice fa fl fc, Value.int IntKind.i64 low, Value.int IntKind.i64 top, Value.int IntKind.i64 bales, Value.slice wa wl wc] 25)).alloc (Obj.cells #[Value.int IntKind.i64 al, Value.int IntKind.i64 ah] 29)).alloc (Obj.cells #[Value.int IntKind.i64 0, Value.int IntKind.i64 0] 29) := ⟨_, rfl⟩
    have HK5 : Hid (Blk W w.heap.size 25 #[Value.slice fa fl fc, Value.int IntKind.i64 low, Value.int IntKind.i64 top, Value.int IntKind.i64 bales, Value.slice wa wl wc]) := by rw [hW]; exact ((Blk.new w 25 _).alloc _).alloc _
    have HK7 : Hid (Blk W (w.heap.size + 1) 29 #[.int .i64 al, .int .i64 ah]) := by rw [hW]; exact (Blk.new_ (by simp) 29 _).alloc _
    have HK14 : Hid (Blk W (w.heap.size + 1 + 1) 29 #[.int .i64 0, .int .i64 0]) := by rw [hW]; exact Blk.new_ (by simp) 29 _
    have HBW : Hid (Below w.heap.size w W) := by rw [hW]; exact (((Below.refl _ _).alloc (Nat.le_refl _) _).alloc (by simp) _).alloc (by simp; omega) _
    rw [← hW]
    clear hW
    refine (has_any s n (by omega) (by omega) W).mono ?_
    obtain ⟨i3, hi, hz0, hz1, hz2⟩ := info_parts Try.infoE3
    have HJ := Lib.hid hi
    have HJ0 := Lib.hid hz0
    have HJ1 := Lib.hid hz1
    have HJ2 := Lib.hid hz2
    clear hi hz0 hz1 hz2
    cases hbit : s.testBit n
    · have hz : lo = 0 ∧ hi = 0 := by
        have h := HOF.out
        rw [PressD.ofB, if_neg (by rw [hbit]; simp)] at h
        injection h with h1 h2
        exact ⟨h1.symm, h2.symm⟩
      have HK14X : Hid (Blk W (w.heap.size + 1 + 1) 29 #[.int .i64 lo, .int .i64 hi]) := by rw [hz.1, hz.2]; exact HK14.out
      clear hz
      have x0 := HK5.out.cell 0
      have y0 := HK14X.out.cell 0
      have y1 := HK14X.out.cell 1
      have l14 := HK14.out.lt
      have l5 := HK5.out.lt
      simp at x0 y0 y1
      rintro e X ⟨rfl, rfl⟩
      have HBX := HBW
      have HK5X := HK5
      have HK7X := HK7
      go_wp2
      clear x0 y0 y1 l5 l14
      have hsX : w.heap.size ≤ X.heap.size := HBX.out.size
      go_loopw [4, 15] (fun o i wr => ∃ (j N' : Nat) (xs' : List Value) (ov : Value), ov = o ∧ j ≤ m ∧ i = .int .i64 (lo + j) ∧ wr.ownsRow B 38 1 ov N' xs' ∧ Rows iV 3 wr xs' (Ls ++ preL p s ⟨al, ah⟩ k beg j) ∧ xs'.length = N' ∧ N' ≤ N + j * 4 ^ k ∧ KT B 38 X wr) (fun _ i _ => m - (intOf i - lo).toNat)
      case atStart => exact ⟨0, N, xs, _, rfl, Nat.zero_le _, by simp, own_below HO.out HBX.out, by simp only [preL, List.take_zero, List.flatMap_nil, List.append_nil]; exact HX.out.below HBX.out, HXL.out, by simp, KT.refl⟩
      case round =>
        obtain ⟨j, N', xs', ov, hov, hj, rfl, hown, hrows, hxl, hnj, hkt⟩ := hrel
        subst hov
        have HOW := Lib.hid hown
        have HRW := Lib.hid hrows
        have HXL2 := Lib.hid hxl
        have HNJ := Lib.hid hnj
        have HKT := Lib.hid hkt
        clear hown hrows hxl hnj hkt
        have hBr : B ≤ wr.heap.size := Nat.le_trans (Nat.le_trans hB hsX) HKT.out.size
        have HQ5 := Lib.hid (HKT.out.2 _ _ _ (by decide) HK5X.out)
        have HQ7 := Lib.hid (HKT.out.2 _ _ _ (by decide) HK7X.out)
        have HQ14 := Lib.hid (HKT.out.2 _ _ _ (by decide) HK14X.out)
        have HRB := Lib.hid ((HR.out.below HBX.out).kt HKT.out (by decide))
        have HPR : Hid (PressIn wr B fa fl low top bales wa wl p) := HP.out.below ((HBX.out.mono hB).trans HKT.out.1)
        have x0 := HQ5.out.cell 0
        have x1 := HQ5.out.cell 1
        have x2 := HQ5.out.cell 2
        have x3 := HQ5.out.cell 3
        have x4 := HQ5.out.cell 4
        have l5 := HQ5.out.lt
        have y0 := HQ7.out.cell 0
        have y1 := HQ7.out.cell 1
        have l7 := HQ7.out.lt
        have z0 := HQ14.out.cell 0
        have z1 := HQ14.out.cell 1
        have l14 := HQ14.out.lt
        simp at x0 x1 x2 x3 x4 y0 y1 z0 z1
        by_cases hlt2 : j < m
        · have hle : lo + (j : Int) ≤ hi := by omega
          obtain ⟨q, hq⟩ : ∃ q, lo + (j : Int) = q := ⟨_, rfl⟩
          have HQ := Lib.hid hq
          have hq0 : 0 ≤ q ∧ q ≤ 20 := by omega
          rw [hq] at hle ⊢
          clear hq
          go_upto_region 17 with fail
          refine HavG.wp_region_tab (R := GL wr.heap.size 3 n (iV q)) (listsT (.agg #[.slice fa fl fc, .int .i64 low, .int .i64 top, .int .i64 bales, .slice wa wl wc]) s (.agg #[.int .i64 al, .int .i64 ah]) wr.heap.size (.slice bA n bc) n beg q ov) [63,64,65,66,67,68,69,70,71,72] [10,11] (by kernel_rfl) (by kernel_rfl) (by rfl) (fun i v w w' => listsT_keep HN.out) ?_ ?_
          · intro i hi oo a' w' ho hag hg hd
            have hcv : ∀ b o, b < _ → w'.cell? ⟨b, o, none⟩ = _ := fun b o hb => Below.cell hg.1 (p := ⟨b, o, none⟩) hb
            match i, hi, ho, hd with
            | 0, _, ho, hd =>
              (simp only [List.getElem?_toArray, List.getElem?_cons_zero, Option.some.injEq] at ho; subst ho)
              have s5 : a'.tmps.getD 5 undef = .pointer (some ⟨w.heap.size, 0, none⟩) := hag.slot 5 (by kernel_rfl)
              refine HavG.tab_val rfl ⟨_, w', ?_, (GL _ _ _ _).refl _, rfl⟩
              go_simp
            | 1, _, ho, hd =>
              (simp only [List.getElem?_toArray, List.getElem?_cons_succ, List.getElem?_cons_zero, Option.some.injEq] at ho; subst ho)
              have s1 : a'.tmps.getD 1 undef = .int .i64 s := hag.slot 1 (by kernel_rfl)
              refine HavG.tab_val rfl ⟨_, w', ?_, (GL _ _ _ _).refl _, rfl⟩
              go_simp
            | 2, _, ho, hd =>
              (simp only [List.getElem?_toArray, List.getElem?_cons_succ, List.getElem?_cons_zero, Option.some.injEq] at ho; subst ho)
              have s7 : a'.tmps.getD 7 undef = .pointer (some ⟨w.heap.size + 1, 0, none⟩) := hag.slot 7 (by kernel_rfl)
              refine HavG.tab_val rfl ⟨_, w', ?_, (GL _ _ _ _).refl _, rfl⟩
              go_simp
            | 3, _, ho, hd =>
              (simp only [List.getElem?_toArray, List.getElem?_cons_succ, List.getElem?_cons_zero, Option.some.injEq] at ho; subst ho)
              refine HavG.tab_val rfl ⟨.slice (some ⟨w'.heap.size, 0, none⟩) 0 0, w'.alloc (.cells #[] 3), ?_, GL.below hg.1.size ((Below.refl _ _).alloc (Nat.le_refl _) _), w'.heap.size, rfl, own_base (ownsRow_empty rfl 3 1) hg.1.size⟩
              go_simp
            | 4, _, ho, hd =>
              (simp only [List.getElem?_toArray, List.getElem?_cons_succ, List.getElem?_cons_zero, Option.some.injEq] at ho; subst ho)
              have s3 : a'.tmps.getD 3 undef = .slice bA n bc := hag.slot 3 (by kernel_rfl)
              refine HavG.tab_val rfl ⟨_, w', ?_, (GL _ _ _ _).refl _, rfl⟩
              go_simp
            | 5, _, ho, hd =>
              (simp only [List.getElem?_toArray, List.getElem?_cons_succ, List.getElem?_cons_zero, Option.some.injEq] at ho; subst ho)
              obtain ⟨g, e3, h3⟩ := hd 3 66 (by kernel_rfl) rfl
              have e4 : HavG.slot a' 67 = .slice bA n bc := hd 4 67 (by kernel_rfl) rfl
              obtain ⟨v', w2, hrun, -, hown, hG⟩ := append_empty (P := Try.prog) (B := wr.heap.size) (t := 3) (u := iV q) (n := n) (c := bc) (f := fun x => [iV x]) 38 38 i3 _ 8 Try.underlying38 HJ.out HJ0.out HJ1.out HJ2.out rfl (fun _ => rfl) (fun x u hu => by simp at hu; subst hu; rfl) HN.out (HRB.out.below hg.1).rd (by omega) (by omega) hg.1.size h3
              exact HavG.tab_val rfl ⟨v', w2, append_oper rfl e3 e4 hrun, hG, hown⟩
            | 6, _, ho, hd =>
              (simp only [List.getElem?_toArray, List.getElem?_cons_succ, List.getElem?_cons_zero, Option.some.injEq] at ho; subst ho)
              have s15 : a'.tmps.getD 15 undef = .int .i64 q := hag.slot 15 (by kernel_rfl)
              refine HavG.tab_val rfl ⟨_, w', ?_, (GL _ _ _ _).refl _, rfl⟩
              go_simp
            | 7, _, ho, hd =>
              (simp only [List.getElem?_toArray, List.getElem?_cons_succ, List.getElem?_cons_zero, Option.some.injEq] at ho; subst ho)
              have s69 : a'.tmps[69]?.getD undef = .int .i64 q := by rw [← Array.getD_eq_getD_getElem?]; exact hd 6 69 (by kernel_rfl) rfl
              refine HavG.tab_val rfl ⟨.slice (some ⟨w'.heap.size, 0, none⟩) 1 1, w'.alloc (.cells #[iV q] 3), ?_, GL.below hg.1.size ((Below.refl _ _).alloc (Nat.le_refl _) _), w'.heap.size, rfl, hg.1.size, Blk.new w' 3 _⟩
              go_simp
              rfl
            | 8, _, ho, hd =>
              (simp only [List.getElem?_toArray, List.getElem?_cons_succ, List.getElem?_cons_zero, Option.some.injEq] at ho; subst ho)
              have h5 := hd 5 68 (by kernel_rfl) rfl
              obtain ⟨g, e7, hgB, h7⟩ := hd 7 70 (by kernel_rfl) rfl
              obtain ⟨v', w2, hrun, hown, hG⟩ := append_next (P := Try.prog) (B := wr.heap.size) (t := 3) (u := iV q) (n := n) 38 38 i3 _ 8 Try.underlying38 HJ.out HJ0.out HJ1.out HJ2.out rfl (by rfl) (by omega) (by omega) hg.1.size h5 h7
              exact HavG.tab_val rfl ⟨v', w2, append_oper rfl rfl e7 hrun, hG, by unfold listsT; rw [List.flatMap_append]; exact hown⟩
            | 9, _, ho, hd =>
              (simp only [List.getElem?_toArray, List.getElem?_cons_succ, List.getElem?_cons_zero, Option.some.injEq] at ho; subst ho)
              have s4 : a'.tmps.getD 4 undef = ov := hag.slot 4 (by kernel_rfl)
              refine HavG.tab_val rfl ⟨_, w', ?_, (GL _ _ _ _).refl _, rfl⟩
              go_simp
          intro f w2 hg2 hf
          have h0 : f 63 = _ := hf 0 63 rfl
          have h1 : f 64 = _ := hf 1 64 rfl
          have h2 : f 65 = _ := hf 2 65 rfl
          have h8 := hf 8 71 rfl
          have h9 : f 72 = _ := hf 9 72 rfl
          obtain ⟨A8, c8, e8, hr8, -⟩ := RowN.of_own h8 (by rw [List.length_append, HN.out]; rfl)
          simp only [List.filterMap, HavG.puts, List.foldl_cons, List.foldl_nil, Act.put, List.setIfInBounds_toArray, List.set_cons_succ, List.set_cons_zero]
          rw [h0, h1, h2, e8, h9]
          clear h0 h1 h2 h8 e8 h9 hf
          have HR8 := Lib.hid hr8
          have HG2 := Lib.hid hg2.1
          clear hr8 hg2 x0 x1 x2 x3 x4 l5 y0 y1 l7 z0 z1 l14
          have HPRE : Hid (Ls ++ preL p s ⟨al, ah⟩ k beg (j + 1) = Ls ++ preL p s ⟨al, ah⟩ k beg j ++ p.listsF s ⟨al, ah⟩ k (beg ++ [q])) := by
            have h := @preL_next p s ⟨al, ah⟩ k beg j (by rw [HN.out, HOF.out]; show j < (hi + 1 - lo).toNat; rw [HM.out]; exact hlt2)
            rw [HN.out, HOF.out, show (Sp.mk lo hi).lo + (j : Int) = q from HQ.out] at h
            show _ = _
            rw [h, List.append_assoc]
          have HLEN : Hid (N' + 4 ^ k ≤ 20000 ∧ (Ls ++ preL p s ⟨al, ah⟩ k beg (j + 1)).length ≤ N + (j + 1) * 4 ^ k) := by
            have h1 := HNJ.out
            have h2 := HNB.out
            have h3 : (j + 1) * 4 ^ k ≤ 4 * 4 ^ k := Nat.mul_le_mul (by omega) (Nat.le_refl _)
            rw [Nat.pow_succ, Nat.mul_comm] at h2
            have h4 : (j + 1) * 4 ^ k = j * 4 ^ k + 4 ^ k := Nat.succ_mul _ _
            refine ⟨by omega, ?_⟩
            have h5 := HRW.out.1
            have h6 := HXL2.out
            have h7 := listsF_len HV.out s ⟨al, ah⟩ k (beg ++ [q]) (by rw [List.length_append, HN.out, HEN.out]; have := HK.out; simp; omega)
            rw [HPRE.out, List.length_append]
            omega
          go_wp2_with fail
          refine (HIH.out (beg ++ [q]) A8 (n + 1) c8 N' _ xs' (Ls ++ preL p s ⟨al, ah⟩ k beg j) w2 (Nat.le_trans hBr HG2.out.size) (HPR.out.below (HG2.out.mono hBr)) (by rw [List.length_append, HN.out]; rfl) (by have := HK.out; omega) (fun x hx => by
            rcases List.mem_append.1 hx with h | h
            · exact HBG.out x h
            · obtain rfl : x = q := by simpa using h
              exact hq0) HR8.out (own_below HOW.out HG2.out) (HRW.out.below HG2.out) HXL2.out HLEN.out.1).mono ?_
          rintro e w3 ⟨v3, N3, xs3, rfl, hown3, hrows3, hxl3, hkt3⟩
          rw [← HPRE.out] at hrows3
          have HO3 := Lib.hid hown3
          have HR3 := Lib.hid hrows3
          have HX3 := Lib.hid hxl3
          have HK3 := Lib.hid ((HKT.out.trans (KT.below hBr HG2.out)).trans hkt3)
          have HN3 : Hid (N3 ≤ N + (j + 1) * 4 ^ k) := by
            have h1 := HLEN.out.2
            have h2 := HR3.out.1
            rw [HX3.out] at h2
            show _ ≤ _
            omega
          clear hown3 hrows3 hxl3 hkt3
          have hq1 : q + 1 = lo + ((j + 1 : Nat) : Int) := by have := HQ.out; omega
          have HQ1 := Lib.hid hq1
          clear hq1
          go_wp2
          go_roundw
          case rel => exact ⟨j + 1, N3, xs3, _, rfl, by omega, by rw [← HQ1.out], HO3.out, HR3.out, HX3.out, HN3.out, HK3.out⟩
          case measure => have := HQ.out; simp [intOf]; omega
        · have hgt : ¬ lo + (j : Int) ≤ hi := by omega
          obtain rfl : m = j := by omega
          have HALL : Hid (preL p s ⟨al, ah⟩ k beg m = p.listsF s ⟨al, ah⟩ (k + 1) beg) := by
            have h := @preL_all p s ⟨al, ah⟩ k beg
            rw [HN.out, HOF.out] at h
            rw [← HM.out]
            exact h
          have hdd : decide (lo + (m : Int) ≤ hi) = false := by simpa using hgt
          go_wp2
          go_ret
          exact ⟨_, N', xs', rfl, HOW.out, by rw [← HALL.out]; exact HRW.out, HXL2.out, (KT.below hB HBX.out).trans HKT.out⟩
    · have HFW : Hid (p.fw n = ⟨lo, hi⟩) := by
        have h := HOF.out
        rw [PressD.ofB, if_pos hbit] at h
        exact h
      obtain ⟨⟨⟨c0, c1⟩, cl⟩, hc⟩ : ∃ c, p.fl[n]? = some c := ⟨_, List.getElem?_eq_getElem (by have := HEN.out; unfold PressD.n at this; omega)⟩
      have hfc := (fw_of hc).1
      rw [HFW.out] at hfc
      injection hfc with e1 e2
      subst e1 e2
      obtain ⟨b, off, rfl, hbl, H0, H1, -⟩ := rd_fl ((HP.out.below (HBW.out.mono hB)).hfl) n _ hc
      have hb14 : b < w.heap.size + 1 + 1 := by omega
      simp only at H0 H1
      have f0 := HK14.out.frozen 0
      have f1 := HK14.out.frozen 1
      have l14 := HK14.out.lt
      have x0 := HK5.out.cell 0
      have y0 := HK14.out.cell 0
      have y1 := HK14.out.cell 1
      have l5 := HK5.out.lt
      simp at x0 y0 y1
      clear hc
      rintro e w1 ⟨rfl, rfl⟩
      go_wp2
      obtain ⟨X, hX⟩ : ∃ X, X = (w1.setCell ⟨w.heap.size + 1 + 1, 0, none⟩ (.int .i64 lo)).setCell ⟨w.heap.size + 1 + 1, 1, none⟩ (.int .i64 hi) := ⟨_, rfl⟩
      have HBX : Hid (Below w.heap.size w X) := by rw [hX]; exact setCell_below (setCell_below HBW.out (by omega) 0 _) (by omega) 1 _
      have HK5X : Hid (Blk X w.heap.size 25 #[Value.slice (some ⟨b, off, none⟩) fl fc, Value.int IntKind.i64 low, Value.int IntKind.i64 top, Value.int IntKind.i64 bales, Value.slice wa wl wc]) := by
        rw [hX]
        exact (HK5.out.far (p := ⟨w.heap.size + 1 + 1, 0, none⟩) (by show w.heap.size ≠ w.heap.size + 1 + 1; omega) _).far (p := ⟨w.heap.size + 1 + 1, 1, none⟩) (by show w.heap.size ≠ w.heap.size + 1 + 1; omega) _
      have HK7X : Hid (Blk X (w.heap.size + 1) 29 #[.int .i64 al, .int .i64 ah]) := by
        rw [hX]
        exact (HK7.out.far (p := ⟨w.heap.size + 1 + 1, 0, none⟩) (by show w.heap.size + 1 ≠ w.heap.size + 1 + 1; omega) _).far (p := ⟨w.heap.size + 1 + 1, 1, none⟩) (by show w.heap.size + 1 ≠ w.heap.size + 1 + 1; omega) _
      have HK14X : Hid (Blk X (w.heap.size + 1 + 1) 29 #[.int .i64 lo, .int .i64 hi]) := by
        rw [hX]
        exact (HK14.out.set_ 0 (.int .i64 lo)).set_ 1 (.int .i64 hi)
      rw [← hX]
      clear hX f0 f1 H0 H1
      clear x0 y0 y1 l5 l14
      have hsX : w.heap.size ≤ X.heap.size := HBX.out.size
      go_loopw [4, 15] (fun o i wr => ∃ (j N' : Nat) (xs' : List Value) (ov : Value), ov = o ∧ j ≤ m ∧ i = .int .i64 (lo + j) ∧ wr.ownsRow B 38 1 ov N' xs' ∧ Rows iV 3 wr xs' (Ls ++ preL p s ⟨al, ah⟩ k beg j) ∧ xs'.length = N' ∧ N' ≤ N + j * 4 ^ k ∧ KT B 38 X wr) (fun _ i _ => m - (intOf i - lo).toNat)
      case atStart => exact ⟨0, N, xs, _, rfl, Nat.zero_le _, by simp, own_below HO.out HBX.out, by simp only [preL, List.take_zero, List.flatMap_nil, List.append_nil]; exact HX.out.below HBX.out, HXL.out, by simp, KT.refl⟩
      case round =>
        obtain ⟨j, N', xs', ov, hov, hj, rfl, hown, hrows, hxl, hnj, hkt⟩ := hrel
        subst hov
        have HOW := Lib.hid hown
        have HRW := Lib.hid hrows
        have HXL2 := Lib.hid hxl
        have HNJ := Lib.hid hnj
        have HKT := Lib.hid hkt
        clear hown hrows hxl hnj hkt
        have hBr : B ≤ wr.heap.size := Nat.le_trans (Nat.le_trans hB hsX) HKT.out.size
        have HQ5 := Lib.hid (HKT.out.2 _ _ _ (by decide) HK5X.out)
        have HQ7 := Lib.hid (HKT.out.2 _ _ _ (by decide) HK7X.out)
        have HQ14 := Lib.hid (HKT.out.2 _ _ _ (by decide) HK14X.out)
        have HRB := Lib.hid ((HR.out.below HBX.out).kt HKT.out (by decide))
        have HPR : Hid (PressIn wr B (some ⟨b, off, none⟩) fl low top bales wa wl p) := HP.out.below ((HBX.out.mono hB).trans HKT.out.1)
        have x0 := HQ5.out.cell 0
        have x1 := HQ5.out.cell 1
        have x2 := HQ5.out.cell 2
        have x3 := HQ5.out.cell 3
        have x4 := HQ5.out.cell 4
        have l5 := HQ5.out.lt
        have y0 := HQ7.out.cell 0
        have y1 := HQ7.out.cell 1
        have l7 := HQ7.out.lt
        have z0 := HQ14.out.cell 0
        have z1 := HQ14.out.cell 1
        have l14 := HQ14.out.lt
        simp at x0 x1 x2 x3 x4 y0 y1 z0 z1
        by_cases hlt2 : j < m
        · have hle : lo + (j : Int) ≤ hi := by omega
          obtain ⟨q, hq⟩ : ∃ q, lo + (j : Int) = q := ⟨_, rfl⟩
          have HQ := Lib.hid hq
          have hq0 : 0 ≤ q ∧ q ≤ 20 := by omega
          rw [hq] at hle ⊢
          clear hq
          go_upto_region 17 with fail
          refine HavG.wp_region_tab (R := GL wr.heap.size 3 n (iV q)) (listsT (.agg #[.slice (some ⟨b, off, none⟩) fl fc, .int .i64 low, .int .i64 top, .int .i64 bales, .slice wa wl wc]) s (.agg #[.int .i64 al, .int .i64 ah]) wr.heap.size (.slice bA n bc) n beg q ov) [63,64,65,66,67,68,69,70,71,72] [10,11] (by kernel_rfl) (by kernel_rfl) (by rfl) (fun i v w w' => listsT_keep HN.out) ?_ ?_
          · intro i hi oo a' w' ho hag hg hd
            have hcv : ∀ b o, b < _ → w'.cell? ⟨b, o, none⟩ = _ := fun b o hb => Below.cell hg.1 (p := ⟨b, o, none⟩) hb
            match i, hi, ho, hd with
            | 0, _, ho, hd =>
              (simp only [List.getElem?_toArray, List.getElem?_cons_zero, Option.some.injEq] at ho; subst ho)
              have s5 : a'.tmps.getD 5 undef = .pointer (some ⟨w.heap.size, 0, none⟩) := hag.slot 5 (by kernel_rfl)
              refine HavG.tab_val rfl ⟨_, w', ?_, (GL _ _ _ _).refl _, rfl⟩
              go_simp
            | 1, _, ho, hd =>
              (simp only [List.getElem?_toArray, List.getElem?_cons_succ, List.getElem?_cons_zero, Option.some.injEq] at ho; subst ho)
              have s1 : a'.tmps.getD 1 undef = .int .i64 s := hag.slot 1 (by kernel_rfl)
              refine HavG.tab_val rfl ⟨_, w', ?_, (GL _ _ _ _).refl _, rfl⟩
              go_simp
            | 2, _, ho, hd =>
              (simp only [List.getElem?_toArray, List.getElem?_cons_succ, List.getElem?_cons_zero, Option.some.injEq] at ho; subst ho)
              have s7 : a'.tmps.getD 7 undef = .pointer (some ⟨w.heap.size + 1, 0, none⟩) := hag.slot 7 (by kernel_rfl)
              refine HavG.tab_val rfl ⟨_, w', ?_, (GL _ _ _ _).refl _, rfl⟩
              go_simp
            | 3, _, ho, hd =>
              (simp only [List.getElem?_toArray, List.getElem?_cons_succ, List.getElem?_cons_zero, Option.some.injEq] at ho; subst ho)
              refine HavG.tab_val rfl ⟨.slice (some ⟨w'.heap.size, 0, none⟩) 0 0, w'.alloc (.cells #[] 3), ?_, GL.below hg.1.size ((Below.refl _ _).alloc (Nat.le_refl _) _), w'.heap.size, rfl, own_base (ownsRow_empty rfl 3 1) hg.1.size⟩
              go_simp
            | 4, _, ho, hd =>
              (simp only [List.getElem?_toArray, List.getElem?_cons_succ, List.getElem?_cons_zero, Option.some.injEq] at ho; subst ho)
              have s3 : a'.tmps.getD 3 undef = .slice bA n bc := hag.slot 3 (by kernel_rfl)
              refine HavG.tab_val rfl ⟨_, w', ?_, (GL _ _ _ _).refl _, rfl⟩
              go_simp
            | 5, _, ho, hd =>
              (simp only [List.getElem?_toArray, List.getElem?_cons_succ, List.getElem?_cons_zero, Option.some.injEq] at ho; subst ho)
              obtain ⟨g, e3, h3⟩ := hd 3 66 (by kernel_rfl) rfl
              have e4 : HavG.slot a' 67 = .slice bA n bc := hd 4 67 (by kernel_rfl) rfl
              obtain ⟨v', w2, hrun, -, hown, hG⟩ := append_empty (P := Try.prog) (B := wr.heap.size) (t := 3) (u := iV q) (n := n) (c := bc) (f := fun x => [iV x]) 38 38 i3 _ 8 Try.underlying38 HJ.out HJ0.out HJ1.out HJ2.out rfl (fun _ => rfl) (fun x u hu => by simp at hu; subst hu; rfl) HN.out (HRB.out.below hg.1).rd (by omega) (by omega) hg.1.size h3
              exact HavG.tab_val rfl ⟨v', w2, append_oper rfl e3 e4 hrun, hG, hown⟩
            | 6, _, ho, hd =>
              (simp only [List.getElem?_toArray, List.getElem?_cons_succ, List.getElem?_cons_zero, Option.some.injEq] at ho; subst ho)
              have s15 : a'.tmps.getD 15 undef = .int .i64 q := hag.slot 15 (by kernel_rfl)
              refine HavG.tab_val rfl ⟨_, w', ?_, (GL _ _ _ _).refl _, rfl⟩
              go_simp
            | 7, _, ho, hd =>
              (simp only [List.getElem?_toArray, List.getElem?_cons_succ, List.getElem?_cons_zero, Option.some.injEq] at ho; subst ho)
              have s69 : a'.tmps[69]?.getD undef = .int .i64 q := by rw [← Array.getD_eq_getD_getElem?]; exact hd 6 69 (by kernel_rfl) rfl
              refine HavG.tab_val rfl ⟨.slice (some ⟨w'.heap.size, 0, none⟩) 1 1, w'.alloc (.cells #[iV q] 3), ?_, GL.below hg.1.size ((Below.refl _ _).alloc (Nat.le_refl _) _), w'.heap.size, rfl, hg.1.size, Blk.new w' 3 _⟩
              go_simp
              rfl
            | 8, _, ho, hd =>
              (simp only [List.getElem?_toArray, List.getElem?_cons_succ, List.getElem?_cons_zero, Option.some.injEq] at ho; subst ho)
              have h5 := hd 5 68 (by kernel_rfl) rfl
              obtain ⟨g, e7, hgB, h7⟩ := hd 7 70 (by kernel_rfl) rfl
              obtain ⟨v', w2, hrun, hown, hG⟩ := append_next (P := Try.prog) (B := wr.heap.size) (t := 3) (u := iV q) (n := n) 38 38 i3 _ 8 Try.underlying38 HJ.out HJ0.out HJ1.out HJ2.out rfl (by rfl) (by omega) (by omega) hg.1.size h5 h7
              exact HavG.tab_val rfl ⟨v', w2, append_oper rfl rfl e7 hrun, hG, by unfold listsT; rw [List.flatMap_append]; exact hown⟩
            | 9, _, ho, hd =>
              (simp only [List.getElem?_toArray, List.getElem?_cons_succ, List.getElem?_cons_zero, Option.some.injEq] at ho; subst ho)
              have s4 : a'.tmps.getD 4 undef = ov := hag.slot 4 (by kernel_rfl)
              refine HavG.tab_val rfl ⟨_, w', ?_, (GL _ _ _ _).refl _, rfl⟩
              go_simp
          intro f w2 hg2 hf
          have h0 : f 63 = _ := hf 0 63 rfl
          have h1 : f 64 = _ := hf 1 64 rfl
          have h2 : f 65 = _ := hf 2 65 rfl
          have h8 := hf 8 71 rfl
          have h9 : f 72 = _ := hf 9 72 rfl
          obtain ⟨A8, c8, e8, hr8, -⟩ := RowN.of_own h8 (by rw [List.length_append, HN.out]; rfl)
          simp only [List.filterMap, HavG.puts, List.foldl_cons, List.foldl_nil, Act.put, List.setIfInBounds_toArray, List.set_cons_succ, List.set_cons_zero]
          rw [h0, h1, h2, e8, h9]
          clear h0 h1 h2 h8 e8 h9 hf
          have HR8 := Lib.hid hr8
          have HG2 := Lib.hid hg2.1
          clear hr8 hg2 x0 x1 x2 x3 x4 l5 y0 y1 l7 z0 z1 l14
          have HPRE : Hid (Ls ++ preL p s ⟨al, ah⟩ k beg (j + 1) = Ls ++ preL p s ⟨al, ah⟩ k beg j ++ p.listsF s ⟨al, ah⟩ k (beg ++ [q])) := by
            have h := @preL_next p s ⟨al, ah⟩ k beg j (by rw [HN.out, HOF.out]; show j < (hi + 1 - lo).toNat; rw [HM.out]; exact hlt2)
            rw [HN.out, HOF.out, show (Sp.mk lo hi).lo + (j : Int) = q from HQ.out] at h
            show _ = _
            rw [h, List.append_assoc]
          have HLEN : Hid (N' + 4 ^ k ≤ 20000 ∧ (Ls ++ preL p s ⟨al, ah⟩ k beg (j + 1)).length ≤ N + (j + 1) * 4 ^ k) := by
            have h1 := HNJ.out
            have h2 := HNB.out
            have h3 : (j + 1) * 4 ^ k ≤ 4 * 4 ^ k := Nat.mul_le_mul (by omega) (Nat.le_refl _)
            rw [Nat.pow_succ, Nat.mul_comm] at h2
            have h4 : (j + 1) * 4 ^ k = j * 4 ^ k + 4 ^ k := Nat.succ_mul _ _
            refine ⟨by omega, ?_⟩
            have h5 := HRW.out.1
            have h6 := HXL2.out
            have h7 := listsF_len HV.out s ⟨al, ah⟩ k (beg ++ [q]) (by rw [List.length_append, HN.out, HEN.out]; have := HK.out; simp; omega)
            rw [HPRE.out, List.length_append]
            omega
          go_wp2_with fail
          refine (HIH.out (beg ++ [q]) A8 (n + 1) c8 N' _ xs' (Ls ++ preL p s ⟨al, ah⟩ k beg j) w2 (Nat.le_trans hBr HG2.out.size) (HPR.out.below (HG2.out.mono hBr)) (by rw [List.length_append, HN.out]; rfl) (by have := HK.out; omega) (fun x hx => by
            rcases List.mem_append.1 hx with h | h
            · exact HBG.out x h
            · obtain rfl : x = q := by simpa using h
              exact hq0) HR8.out (own_below HOW.out HG2.out) (HRW.out.below HG2.out) HXL2.out HLEN.out.1).mono ?_
          rintro e w3 ⟨v3, N3, xs3, rfl, hown3, hrows3, hxl3, hkt3⟩
          rw [← HPRE.out] at hrows3
          have HO3 := Lib.hid hown3
          have HR3 := Lib.hid hrows3
          have HX3 := Lib.hid hxl3
          have HK3 := Lib.hid ((HKT.out.trans (KT.below hBr HG2.out)).trans hkt3)
          have HN3 : Hid (N3 ≤ N + (j + 1) * 4 ^ k) := by
            have h1 := HLEN.out.2
            have h2 := HR3.out.1
            rw [HX3.out] at h2
            show _ ≤ _
            omega
          clear hown3 hrows3 hxl3 hkt3
          have hq1 : q + 1 = lo + ((j + 1 : Nat) : Int) := by have := HQ.out; omega
          have HQ1 := Lib.hid hq1
          clear hq1
          go_wp2
          go_roundw
          case rel => exact ⟨j + 1, N3, xs3, _, rfl, by omega, by rw [← HQ1.out], HO3.out, HR3.out, HX3.out, HN3.out, HK3.out⟩
          case measure => have := HQ.out; simp [intOf]; omega
        · have hgt : ¬ lo + (j : Int) ≤ hi := by omega
          obtain rfl : m = j := by omega
          have HALL : Hid (preL p s ⟨al, ah⟩ k beg m = p.listsF s ⟨al, ah⟩ (k + 1) beg) := by
            have h := @preL_all p s ⟨al, ah⟩ k beg
            rw [HN.out, HOF.out] at h
            rw [← HM.out]
            exact h
          have hdd : decide (lo + (m : Int) ≤ hi) = false := by simpa using hgt
          go_wp2
          go_ret
          exact ⟨_, N', xs', rfl, HOW.out, by rw [← HALL.out]; exact HRW.out, HXL2.out, (KT.below hB HBX.out).trans HKT.out⟩
end
end Go.Proofs.Ytbfjebglaimcmaa
