/- The walk of the reference's lists: all lists with a number of each span; conditions: there are few spans, and they are narrow. -/
import Derived.Test.YtiodmkokpfgkkaaRowsR
import Derived.Test.YtiodmkokpfgkkaaRefB
namespace Go.Proofs.Ytiodmkokpfgkkaa
open Go.RowKit Go.Hav Go.Shelf Go.Sq
attribute [local go_sem] Oper.semAt_some
theorem Try.infoE3 : (Try.prog.info? 3).map (fun i => (i.zero, i.size, i.bytes)) = some (some (.int .i64 0), 1, 8) := by kernel_rfl
theorem Try.infoE47 : (Try.prog.info? 47).map (fun i => (i.zero, i.size, i.bytes)) = some (some (.slice none 0 0), 1, 24) := by kernel_rfl
def nV (n : Nat) : Value := .int .i64 n
/-- Spans that lie in a block of their type. -/
def SpR (w : World) (A : Option Addr) (l : List NSp) : Prop := ∀ (k : Nat) (s : NSp), l[k]? = some s → ∃ b off cur, A = some ⟨b, off, none⟩ ∧ Blk w b 23 cur ∧ cur[off + k * 2]? = some (nV s.lo) ∧ cur[off + k * 2 + 1]? = some (nV s.hi)
theorem SpR.below {w w' : World} {A : Option Addr} {l : List NSp} (h : SpR w A l) (hb : Below w.heap.size w w') : SpR w' A l := fun k s hs => by
  obtain ⟨b, off, cur, h1, h2, h3⟩ := h k s hs
  exact ⟨b, off, cur, h1, h2.below hb h2.lt, h3⟩
theorem SpR.kt {w w' : World} {A : Option Addr} {l : List NSp} {B : Nat} {t : TypeId} (h : SpR w A l) (hk : KT B t w w') (hne : 23 ≠ t) : SpR w' A l := fun k s hs => by
  obtain ⟨b, off, cur, h1, h2, h3⟩ := h k s hs
  exact ⟨b, off, cur, h1, hk.2 _ _ _ hne h2, h3⟩
theorem SpR.at_ {w : World} {A : Option Addr} {l : List NSp} (h : SpR w A l) {k : Nat} {s : NSp} (hs : l[k]? = some s) : ∃ b off, A = some ⟨b, off, none⟩ ∧ b < w.heap.size ∧ w.cell? ⟨b, off + k * 2, none⟩ = some (.int .i64 s.lo) ∧ w.cell? ⟨b, off + k * 2 + 1, none⟩ = some (.int .i64 s.hi) := by
  obtain ⟨b, off, cur, h1, h2, h3, h4⟩ := h k s hs
  exact ⟨b, off, h1, h2.lt, by rw [h2.cell]; exact h3, by rw [h2.cell]; exact h4⟩
/-- Spans that are narrow. -/
def SmallS (l : List NSp) : Prop := ∀ s ∈ l, s.lo ≤ s.hi ∧ s.hi ≤ 60 ∧ s.hi ≤ s.lo + 4
theorem listsP_len : ∀ {l : List NSp}, SmallS l → (listsP l).length ≤ 5 ^ l.length
  | [], _ => by simp [listsP]
  | s :: l, h => by
    have ih := listsP_len (l := l) fun x hx => h x (by simp [hx])
    have hs := h s (by simp)
    rw [listsP, List.length_cons, Nat.pow_succ, Nat.mul_comm]
    have key : ∀ m : List Nat, (m.flatMap fun k => (listsP l).map ((s.lo + k) :: ·)).length ≤ m.length * 5 ^ l.length := by
      intro m
      induction m with
      | nil => simp
      | cons x m ihm =>
        rw [List.flatMap_cons, List.length_append, List.length_cons, Nat.succ_mul, List.length_map]
        omega
    refine Nat.le_trans (key _) ?_
    rw [List.length_range]
    exact Nat.mul_le_mul (by omega) (Nat.le_refl _)
/-- What the first j numbers of a span bring. -/
def preN (s : NSp) (l : List NSp) (beg : List Nat) (j : Nat) : List (List Nat) := (List.range j).flatMap fun k => (listsP l).map ((beg ++ [s.lo + k]) ++ ·)
theorem preN_zero {s : NSp} {l : List NSp} {beg : List Nat} : preN s l beg 0 = [] := rfl
theorem preN_next {s : NSp} {l : List NSp} {beg : List Nat} {j : Nat} : preN s l beg (j + 1) = preN s l beg j ++ (listsP l).map ((beg ++ [s.lo + j]) ++ ·) := by
  unfold preN
  rw [List.range_succ, List.flatMap_append]
  simp
theorem preN_all {s : NSp} {l : List NSp} {beg : List Nat} : preN s l beg (s.hi + 1 - s.lo) = (listsP (s :: l)).map (beg ++ ·) := by
  unfold preN
  rw [listsP, List.map_flatMap]
  congr 1
  funext k
  rw [List.map_map]
  congr 1
  funext x
  simp
/-- What a call of lists leaves. -/
def ListsR (B : Nat) (l : List NSp) (beg : List Nat) (Ls : List (List Nat)) (w : World) (e : Ending) (w' : World) : Prop :=
  ∃ v' N xs, e = .returned v' ∧ w'.ownsRow B 47 1 v' N xs ∧ Rows nV 3 w' xs (Ls ++ (listsP l).map (beg ++ ·)) ∧ xs.length = N ∧ KT B 47 w w'
section
variable {sA bA : Option Addr} {sl sc n bc : Nat} {sps : List NSp}
set_option maxRecDepth 100000 in
set_option maxHeartbeats 6400000 in
theorem lists_zero (B : Nat) (beg : List Nat) (N : Nat) (v : Value) (xs : List Value) (Ls : List (List Nat)) (w : World) (hB : B ≤ w.heap.size) (hn : beg.length = n) (hbc : n ≤ bc) (hk : n = sl) (hR : RowN nV 3 w bA beg) (hO : w.ownsRow B 47 1 v N xs) (hX : Rows nV 3 w xs Ls) (hN : N + 1 ≤ 400000) :
    Calls Try.prog 111 #[.slice sA sl sc, .slice bA n bc, v] w (ListsR B [] beg Ls w) := by
  have HR := Lib.hid hR
  have HX := Lib.hid hX
  have HO := Lib.hid hO
  have HN := Lib.hid hn
  clear hR hX hO hn
  subst hk
  obtain ⟨i0, hi, hz0, hz1, hz2⟩ := info_parts Try.infoE47
  have HI := Lib.hid hi
  have HI0 := Lib.hid hz0
  have HI1 := Lib.hid hz1
  have HI2 := Lib.hid hz2
  clear hi hz0 hz1 hz2
  have HBA : Hid (Below w.heap.size w (w.alloc (.cells #[.slice bA n bc] 47))) := (Below.refl _ _).alloc (Nat.le_refl _) _
  have HOWN := Lib.hid (own_below HO.out HBA.out)
  have hB1 : B ≤ (w.alloc (.cells #[.slice bA n bc] 47)).heap.size := by simp; omega
  go_enter Try.func111, Try.ntmps111
  go_wp2_with (at_builtin; refine wpList_append_own _ rfl _ _ 143 rfl B 47 i0 _ 1 24 Try.underlying143 HI.out HI0.out HI1.out HI2.out rfl (by decide) _ _ _ rfl HOWN.out ⟨w.heap.size, 0, none⟩ 1 1 [.slice bA n bc] rfl rfl (news_block (Blk.new w 47 _)) (by simp [Value.oneCell']) (by unfold maxLen; omega) (by omega) hB1 ?_)
  intro v' w5 hown5 hgrow5 _
  have HO5 := Lib.hid hown5
  have HG5 := Lib.hid (KT.own hB1 HOWN.out hgrow5)
  clear hown5 hgrow5
  go_wp2
  go_ret
  have hk : KT B 47 w w5 := (KT.below hB HBA.out).trans HG5.out
  refine ⟨v', N + 1, xs ++ [.slice bA n bc], rfl, HO5.out, ?_, by have := HO5.out.1; omega, hk⟩
  have h := (HX.out.kt hk (by decide)).snoc (c := bc) (by rw [HN.out]; exact hbc) (HR.out.kt hk (by decide))
  rw [HN.out] at h
  simpa [listsP] using h
set_option maxRecDepth 100000 in
set_option maxHeartbeats 6400000 in
theorem lists_any (hs : SmallS sps) (hsl : sps.length = sl) (h8 : sl ≤ 8) (B : Nat) : ∀ (k : Nat) (beg : List Nat) (bA : Option Addr) (n bc N : Nat) (v : Value) (xs : List Value) (Ls : List (List Nat)) (w : World), B ≤ w.heap.size → SpR w sA sps →
    beg.length = n → n ≤ bc → n + k = sl → RowN nV 3 w bA beg → w.ownsRow B 47 1 v N xs → Rows nV 3 w xs Ls → xs.length = N → N + 5 ^ k ≤ 400000 →
    Calls Try.prog 111 #[.slice sA sl sc, .slice bA n bc, v] w (ListsR B (sps.drop n) beg Ls w) := by
  intro k
  induction k with
  | zero =>
    intro beg bA n bc N v xs Ls w hB hP hn hbc hk hR hO hX _ hN
    rw [List.drop_of_length_le (by omega)]
    exact lists_zero B beg N v xs Ls w hB hn hbc (by omega) hR hO hX (by simpa using hN)
  | succ k ih =>
    intro beg bA n bc N v xs Ls w hB hP hn hbc hk hR hO hX hxl hN
    have HIH := Lib.hid ih
    have HP := Lib.hid hP
    have HR := Lib.hid hR
    have HX := Lib.hid hX
    have HO := Lib.hid hO
    have HN := Lib.hid hn
    have HXL := Lib.hid hxl
    have HNB := Lib.hid hN
    have HK := Lib.hid hk
    have HSL := Lib.hid hsl
    have hlt : n < sl := by omega
    obtain ⟨⟨lo, hi⟩, hof⟩ : ∃ v, sps[n]? = some v := ⟨_, List.getElem?_eq_getElem (by omega)⟩
    obtain ⟨hb1, hb2, hb3⟩ := hs _ (List.mem_of_getElem? hof)
    simp only at hb1 hb2 hb3
    have HOF := Lib.hid hof
    have HDR : Hid (sps.drop n = ⟨lo, hi⟩ :: sps.drop (n + 1)) := by
      show _ = _
      rw [List.drop_eq_getElem_cons (by omega)]
      congr 1
      have := List.getElem?_eq_getElem (show n < sps.length by omega)
      rw [hof] at this
      injection this with this
      exact this.symm
    have HSM : Hid (SmallS (sps.drop (n + 1)) ∧ (sps.drop (n + 1)).length = k) := ⟨fun s hx => hs s (List.mem_of_mem_drop hx), by rw [List.length_drop]; omega⟩
    obtain ⟨m, hm⟩ : ∃ m, hi + 1 - lo = m := ⟨_, rfl⟩
    have hm5 : m ≤ 5 := by omega
    have hml : lo + m = hi + 1 := by omega
    have HM := Lib.hid hm
    have hne : ((n : Int) == sl) = false := by simp; omega
    obtain ⟨b0, o0, rfl, hb0, H0, H1⟩ := HP.out.at_ hof
    simp only at H0 H1
    clear hP hR hX hO hn hs ih hxl hN hof hm hk hsl
    obtain ⟨i3, hi3, hz0, hz1, hz2⟩ := info_parts Try.infoE3
    have HJ := Lib.hid hi3
    have HJ0 := Lib.hid hz0
    have HJ1 := Lib.hid hz1
    have HJ2 := Lib.hid hz2
    clear hi3 hz0 hz1 hz2
    go_enter Try.func111, Try.ntmps111
    go_wp2
    go_loopw [2, 8] (fun o i wr => ∃ (j N' : Nat) (xs' : List Value) (ov : Value), ov = o ∧ j ≤ m ∧ i = .int .i64 ((lo + j : Nat) : Int) ∧ wr.ownsRow B 47 1 ov N' xs' ∧ Rows nV 3 wr xs' (Ls ++ preN ⟨lo, hi⟩ (sps.drop (n + 1)) beg j) ∧ xs'.length = N' ∧ N' ≤ N + j * 5 ^ k ∧ KT B 47 w wr) (fun _ i _ => m - ((intOf i).toNat - lo))
    case atStart => exact ⟨0, N, xs, _, rfl, Nat.zero_le _, by simp, HO.out, by rw [preN_zero, List.append_nil]; exact HX.out, HXL.out, by simp, KT.refl⟩
    case round =>
      obtain ⟨j, N', xs', ov, hov, hj, rfl, hown, hrows, hxl, hnj, hkt⟩ := hrel
      subst hov
      have HOW := Lib.hid hown
      have HRW := Lib.hid hrows
      have HXL2 := Lib.hid hxl
      have HNJ := Lib.hid hnj
      have HKT := Lib.hid hkt
      clear hown hrows hxl hnj hkt H0 H1 hb0
      have hBr : B ≤ wr.heap.size := Nat.le_trans hB HKT.out.size
      have HRB := Lib.hid (HR.out.kt HKT.out (by decide))
      have HPR := Lib.hid (HP.out.kt HKT.out (by decide))
      obtain ⟨b1, o1, e1, hb0, H0, H1⟩ := HPR.out.at_ HOF.out
      injection e1 with e1
      injection e1 with e1 e2
      subst e1 e2
      simp only at H0 H1
      by_cases hlt2 : j < m
      · have hle : lo + j ≤ hi := by omega
        obtain ⟨q, hq⟩ : ∃ q, lo + j = q := ⟨_, rfl⟩
        have HQ := Lib.hid hq
        have hq0 : q ≤ 60 := by omega
        rw [hq] at hle ⊢
        clear hq
        go_upto_region 7 with (fail)
        obtain ⟨w1, hw1⟩ : ∃ w1, w1 = wr.alloc (.cells #[] 3) := ⟨_, rfl⟩
        have hB1 : Below wr.heap.size wr w1 := by rw [hw1]; exact (Below.refl _ _).alloc (Nat.le_refl _) _
        have ho1 : w1.ownsRow wr.heap.size 3 1 (.slice (some ⟨wr.heap.size, 0, none⟩) 0 0) 0 [] := by rw [hw1]; exact own_base (ownsRow_empty rfl 3 1) (Nat.le_refl _)
        obtain ⟨v1, w2, hrun1, ⟨g1, c1, rfl⟩, hown1, hG1⟩ := append_empty (P := Try.prog) (B := wr.heap.size) (t := 3) (u := nV q) (n := n) (c := bc) (f := fun x => [nV x]) 47 47 i3 _ 8 Try.underlying47 HJ.out HJ0.out HJ1.out HJ2.out rfl (fun _ => rfl) (fun x u hu => by simp at hu; subst hu; rfl) HN.out (HRB.out.below hB1).rd (by omega) (by omega) hB1.size ho1
        obtain ⟨w3, hw3⟩ : ∃ w3, w3 = w2.alloc (.cells #[nV q] 3) := ⟨_, rfl⟩
        have hs2 : wr.heap.size ≤ w2.heap.size := Nat.le_trans hB1.size hG1.1.size
        have hB3 : Below w2.heap.size w2 w3 := by rw [hw3]; exact (Below.refl _ _).alloc (Nat.le_refl _) _
        have hk3 : Blk w3 w2.heap.size 3 #[nV q] := by rw [hw3]; exact Blk.new w2 3 _
        have hs3 : wr.heap.size ≤ w3.heap.size := Nat.le_trans hs2 hB3.size
        obtain ⟨v4, w4, hrun2, hown4, hG4⟩ := append_next (P := Try.prog) (B := wr.heap.size) (t := 3) (u := nV q) (n := n) 47 47 i3 _ 8 Try.underlying47 HJ.out HJ0.out HJ1.out HJ2.out rfl (by rfl) (by omega) (by omega) hs3 (own_below hown1 hB3) hk3
        have HB4 : Hid (Below wr.heap.size wr w4) := ((hB1.trans hG1.1).trans (hB3.mono hs2)).trans hG4.1
        obtain ⟨A8, c8, hc8, rfl, hr8, -⟩ := RowN.of_own (L := beg ++ [q]) (e := nV) (by rw [List.flatMap_append]; exact hown4) (by rw [List.length_append, HN.out]; rfl)
        rw [hw1] at hrun1
        rw [hw3] at hrun2
        rw [show nV q = Value.int .i64 q from rfl] at hrun2
        have HR8 := Lib.hid hr8
        clear hown1 hown4 hG1 hG4 hB1 hB3 hk3 hs2 hs3 ho1 hw1 hw3 hr8
        have HG2 := HB4
        have HPRE : Hid (Ls ++ preN ⟨lo, hi⟩ (sps.drop (n + 1)) beg (j + 1) = Ls ++ preN ⟨lo, hi⟩ (sps.drop (n + 1)) beg j ++ (listsP (sps.drop (n + 1))).map ((beg ++ [q]) ++ ·)) := by
          show _ = _
          rw [preN_next, List.append_assoc]
          congr 2
          rw [show (NSp.mk lo hi).lo + j = q from HQ.out]
        have HLEN : Hid (N' + 5 ^ k ≤ 400000 ∧ (Ls ++ preN ⟨lo, hi⟩ (sps.drop (n + 1)) beg (j + 1)).length ≤ N + (j + 1) * 5 ^ k) := by
          have h1 := HNJ.out
          have h2 := HNB.out
          have h3 : (j + 1) * 5 ^ k ≤ 5 * 5 ^ k := Nat.mul_le_mul (by omega) (Nat.le_refl _)
          rw [Nat.pow_succ, Nat.mul_comm] at h2
          have h4 : (j + 1) * 5 ^ k = j * 5 ^ k + 5 ^ k := Nat.succ_mul _ _
          refine ⟨by omega, ?_⟩
          have h5 := HRW.out.1
          have h6 := HXL2.out
          have h7 := listsP_len HSM.out.1
          rw [HSM.out.2] at h7
          rw [HPRE.out, List.length_append, List.length_map]
          omega
        have hr1 := hrun1
        clear hrun1
        go_wp2_with (at_builtin; first | refine wpList_append_run rfl _ _ 47 rfl rfl rfl hr1 ?_ | refine wpList_append_run rfl _ _ 47 rfl rfl rfl hrun2 ?_)
        refine (HIH.out (beg ++ [q]) A8 (n + 1) c8 N' _ xs' (Ls ++ preN ⟨lo, hi⟩ (sps.drop (n + 1)) beg j) w4 (Nat.le_trans hBr HG2.out.size) (HPR.out.below HG2.out) (by rw [List.length_append, HN.out]; rfl) hc8 (by have := HK.out; omega) HR8.out (own_below HOW.out HG2.out) (HRW.out.below HG2.out) HXL2.out HLEN.out.1).mono ?_
        rintro e w3 ⟨v3, N3, xs3, rfl, hown3, hrows3, hxl3, hkt3⟩
        rw [← HPRE.out] at hrows3
        have HO3 := Lib.hid hown3
        have HR3 := Lib.hid hrows3
        have HX3 := Lib.hid hxl3
        have HK3 := Lib.hid ((HKT.out.trans (KT.below hBr HG2.out)).trans hkt3)
        have HN3 : Hid (N3 ≤ N + (j + 1) * 5 ^ k) := by
          have h1 := HLEN.out.2
          have h2 := HR3.out.1
          rw [HX3.out] at h2
          show _ ≤ _
          omega
        clear hown3 hrows3 hxl3 hkt3
        have hq1 : q + 1 = lo + (j + 1) := by have := HQ.out; omega
        have HQ1 := Lib.hid hq1
        clear hq1
        go_wp2
        go_roundw
        case rel => exact ⟨j + 1, N3, xs3, _, rfl, by omega, by rw [← HQ1.out]; go_num, HO3.out, HR3.out, HX3.out, HN3.out, HK3.out⟩
        case measure => have := HQ.out; simp [intOf]; omega
      · have hgt : ¬ lo + j ≤ hi := by omega
        obtain rfl : m = j := by omega
        have HALL : Hid (preN ⟨lo, hi⟩ (sps.drop (n + 1)) beg m = (listsP (sps.drop n)).map (beg ++ ·)) := by
          show _ = _
          rw [HDR.out, ← preN_all]
          show _ = preN _ _ _ (hi + 1 - lo)
          rw [HM.out]
        have hdd : decide (((lo + m : Nat) : Int) ≤ (hi : Int)) = false := by simp; omega
        go_wp2
        go_ret
        exact ⟨_, N', xs', rfl, HOW.out, by rw [← HALL.out]; exact HRW.out, HXL2.out, HKT.out⟩
end
end Go.Proofs.Ytiodmkokpfgkkaa
