/- The walks of the classer's Line, and of what Proof and More lean on: numbers, IndexFunc, first. Conditions: the line is valid, it can be. The walks of the classer's numbers, IndexFunc, first. Conditions: few numbers; what is asked answers, and keeps them. The walk of the classer's Proof. Conditions: the line is valid, it can be. The walk of the classer's More at the line that the laws awake with. Condition: the line is in memory. -/
import Derived.Test.YtbfjebglaimcmaaClsT
import Derived.Test.YtbfjebglaimcmaaClsQR
namespace Go.Proofs.Ytbfjebglaimcmaa
open Go.RowKit Go.Hav Go.Sq
attribute [local go_sem] Oper.semAt_some
theorem tolds_at {c : Cls} {k : Nat} {b : Bl} (h : c.bl[k]? = some b) : (toldsC c)[k]? = some (toldC c.may (wrongC c k b)) := by
  unfold toldsC
  rw [List.getElem?_map, List.getElem?_zipIdx, h]
  show some (toldC c.may (wrongC c (0 + k) b)) = _
  rw [Nat.zero_add]
theorem tolds_len (c : Cls) : (toldsC c).length = c.bl.length := by unfold toldsC; simp
theorem told_small (may : Nat) (s : Nat × Nat) : toldC may s ≤ 2 := by
  unfold toldC
  split
  · exact Nat.le_refl _
  · split <;> omega
theorem foldMin_step (L : List Nat) {k t : Nat} (h : L[k]? = some t) : (L.take (k + 1)).foldl min 2 = min ((L.take k).foldl min 2) t := by
  rw [List.take_add_one, h]
  simp
section
variable {w : World} {bc : Nat} {ba : Option Addr} {c : Cls} {n : Nat}
set_option maxRecDepth 100000 in
set_option maxHeartbeats 6400000 in
theorem CLine_any (w : World) (hC : ClsIn w w.heap.size ba c) (hcan : mistakenC c (fun _ => true) ≤ c.mis) :
    Calls Try.prog 48 #[.agg (clsC ba bc c)] w fun e w' => e = .returned (.tuple #[.int .i64 (lineC c : Nat), .int .i64 0]) ∧ Below w.heap.size w w' := by
  have HC := Lib.hid hC
  have HCAN := Lib.hid hcan
  have EG := Lib.hid (enters_of Try.func89 (by kernel_rfl) rfl)
  obtain ⟨W, hW⟩ : ∃ W, W = (w.alloc (.cells (clsC ba bc c) 75)).alloc (.cells #[.int .i64 0] 30) := ⟨_, rfl⟩
  have HX0 : Hid (Blk W w.heap.size 75 (clsC ba bc c)) := by rw [hW]; exact (Blk.new_ rfl _ _).alloc _
  have HX3 : Hid (Blk W (w.heap.size + 1) 30 #[.int .i64 0]) := by rw [hW]; exact Blk.new_ (by simp) _ _
  have HB : Hid (Below w.heap.size w W) := by rw [hW]; exact ((Below.refl w.heap.size w).alloc (by simp) _).alloc (by simp) _
  have hs := HX3.out.lt
  obtain ⟨x0, x1, x2, x3, xl⟩ := clsC_cells HX0.out
  have h6 := hC.ok.l6
  obtain ⟨len, hlen⟩ : ∃ x, c.bl.length = x := ⟨_, rfl⟩
  have HLEN := Lib.hid hlen
  rw [hlen] at h6
  clear hC hcan hlen
  go_enter_defers Try.func48, Try.ntmps48
  go_upto_region 2 with fail
  rw [← hW]
  clear hW
  go_wp2_with fail
  refine (openC_any 89 #[] EG.out (isTab89 (w := W)) (HC.out.grow HB.out)).mono ?_
  rintro e w1 ⟨d, r, rfl, hT, hb1⟩
  have HB1 := Lib.hid hb1
  have HT := Lib.hid hT
  clear hT hb1 x0 x1 x2 x3 xl
  obtain ⟨x0, x1, x2, x3, xl⟩ := clsC_cells (HX0.out.below HB1.out HX0.out.lt)
  rw [HLEN.out] at x0
  clear x1 x2 x3
  go_upto_region 5 with fail
  go_loopw [5, 12] (fun m i wr => ∃ k : Nat, k ≤ len ∧ i = .int .i64 k ∧ m = .int .i64 (((toldsC c).take k).foldl min 2 : Nat) ∧ (GK r (kF c)).G w1 wr) (fun _ i _ => len - (intOf i).toNat)
  case atStart => exact ⟨0, Nat.zero_le _, rfl, rfl, (GK r (kF c)).refl _⟩
  case round =>
    obtain ⟨k, hk, rfl, rfl, hg⟩ := hrel
    have HG := Lib.hid hg
    clear hg
    by_cases hlt : k < len
    · have hki : (k : Int) < len := by omega
      obtain ⟨b, hbk⟩ : ∃ b, c.bl[k]? = some b := ⟨c.bl[k]'(by rw [HLEN.out]; exact hlt), by simp⟩
      have HBL := Lib.hid hbk
      have HST := Lib.hid (foldMin_step (toldsC c) (tolds_at hbk))
      obtain ⟨t, htt⟩ : ∃ t, toldC c.may (wrongC c k b) = t := ⟨_, rfl⟩
      have HTT := Lib.hid htt
      rw [htt] at HST
      obtain ⟨m0, hm0⟩ : ∃ t, ((toldsC c).take k).foldl min 2 = t := ⟨_, rfl⟩
      rw [hm0] at HST ⊢
      have hmn : ∀ w, (Builtin.min_ #[3, 3] 3 #[.int .i64 (m0 : Nat), .int .i64 (t : Nat)]).run Try.prog w = .ok (.int .i64 ((min m0 t : Nat) : Int)) w := fun w => by
        rw [minC_run, show min (m0 : Int) (t : Int) = ((min m0 t : Nat) : Int) by omega]
      clear hbk htt hm0
      go_wp2_with fail
      refine (wrongC_any wr (HT.out.keep HG.out) HBL.out HCAN.out).mono ?_
      rintro e w2 ⟨rfl, hg2⟩
      have HG2 : Hid ((GK r (kF c)).G w1 w2) := (GK r (kF c)).trans HG.out hg2
      clear hg2
      go_wp2_with fail
      refine (toldC_any w2 (HT.out.keep HG2.out) _).mono ?_
      rw [HTT.out]
      rintro e w3 ⟨rfl, hb3⟩
      have HG3 : Hid ((GK r (kF c)).G w1 w3) := (GK r (kF c)).trans HG2.out (GK.below hb3)
      clear hb3
      go_wp2_with fail
      go_roundw
      case rel => exact ⟨k + 1, by omega, by go_num, by rw [HST.out], HG3.out⟩
      case measure => simp [intOf]; omega
    · obtain rfl : k = len := by omega
      rw [List.take_of_length_le (by rw [tolds_len, HLEN.out]; exact Nat.le_refl _)]
      obtain ⟨m0, hm0⟩ : ∃ t, (toldsC c).foldl min 2 = t := ⟨_, rfl⟩
      have HLC : Hid (lineC c = if m0 = 2 then 2 else if keepsC c then 1 else 0) := by show _ = _; unfold lineC; rw [hm0]
      rw [hm0]
      have HBR : Hid (Below W.heap.size W wr) := GK.under HB1.out HB1.out.size HT.out.hr HG.out
      have HY3 := Lib.hid (HX3.out.below HBR.out HX3.out.lt)
      have f3 := HY3.out.frozen 0
      have y3 := HY3.out.cell 0
      have yl := HY3.out.lt
      simp at y3
      have HBW : Hid (Below w.heap.size w wr) := HB.out.trans (HBR.out.mono HB.out.size)
      clear hm0 x0 xl
      by_cases h2 : m0 = 2
      · have hd : ((m0 : Int) == 2) = true := by simp; omega
        rw [if_pos h2] at HLC
        go_wp2_with fail
        have g0 := (HY3.out.set_ 0 (.int .i64 0)).cell 0
        simp at g0
        exact cls_returns (b := w.heap.size + 1) rfl (v := .tuple #[.int .i64 2, .int .i64 0]) (by simp [results, Try.results48, go_sem, g0]) ⟨by rw [HLC.out]; rfl, setCell_below HBW.out (by omega) _ _⟩
      · have hd : ((m0 : Int) == 2) = false := by simp; omega
        rw [if_neg h2] at HLC
        clear f3 y3 yl
        go_wp2_with fail
        refine (keeps_any wr (HT.out.keep HG.out)).mono ?_
        rintro e w2 ⟨rfl, hb2⟩
        have HB2 : Hid (Below W.heap.size W w2) := HBR.out.trans (hb2.mono HBR.out.size)
        have HY3 := Lib.hid (HX3.out.below HB2.out HX3.out.lt)
        have f3 := HY3.out.frozen 0
        have y3 := HY3.out.cell 0
        have yl := HY3.out.lt
        simp at y3
        have HBW : Hid (Below w.heap.size w w2) := HB.out.trans (HB2.out.mono HB.out.size)
        clear hb2
        cases hkc : keepsC c
        · rw [hkc] at HLC
          clear hkc
          go_wp2_with fail
          have g0 := (HY3.out.set_ 0 (.int .i64 0)).cell 0
          simp at g0
          exact cls_returns (b := w.heap.size + 1) rfl (v := .tuple #[.int .i64 0, .int .i64 0]) (by simp [results, Try.results48, go_sem, g0]) ⟨by rw [HLC.out]; rfl, setCell_below HBW.out (by omega) _ _⟩
        · rw [hkc] at HLC
          clear hkc
          go_wp2_with fail
          have g0 := (HY3.out.set_ 0 (.int .i64 0)).cell 0
          simp at g0
          exact cls_returns (b := w.heap.size + 1) rfl (v := .tuple #[.int .i64 1, .int .i64 0]) (by simp [results, Try.results48, go_sem, g0]) ⟨by rw [HLC.out]; rfl, setCell_below HBW.out (by omega) _ _⟩
end
end Go.Proofs.Ytbfjebglaimcmaa
namespace Go.Proofs.Ytbfjebglaimcmaa
open Go.RowKit Go.Hav Go.Sq
attribute [local go_sem] Oper.semAt_some
theorem infoI3 : (Try.prog.info? 3).map (fun i => (i.zero, i.size, i.bytes)) = some (some (.int .i64 0), 1, 8) := by kernel_rfl
theorem make_ns (n : Nat) (hn : n ≤ 31) (w : World) : (Instr.makeSlice 38 (.int .i64 (n : Int)) (.int .i64 (n : Int))).run Try.prog w = .ok (.slice (some ⟨w.heap.size, 0, none⟩) n n) (w.alloc (.cells (rowA n fun _ => 0) 3)) := by
  obtain ⟨i, hi, hz0, hz1, hz2⟩ := info_parts infoI3
  have hr := run_make (P := Try.prog) w 38 3 i _ Try.underlying38 hi hz0 .i64 .i64 n n (by omega) (by omega) (by rw [hz2]; omega) (by omega)
  simp only [Int.toNat_natCast, hz1, Nat.mul_one] at hr
  have hm : madeCells (Value.int .i64 0).cells n = rowA n fun _ => 0 := by
    refine Array.ext (by rw [size_madeCells, rowA_size]) fun j h1 h2 => ?_
    have hj : j < n := by rwa [rowA_size] at h2
    have e : (rowA n fun _ => 0)[j]? = some (.int .i64 0) := rowA_get n _ hj
    rw [Array.getElem?_eq_getElem h2] at e
    rw [Option.some.inj e]
    unfold madeCells
    simp [Value.cells, Nat.mod_one]
  rw [hr, hm]
section
set_option maxRecDepth 100000 in
set_option maxHeartbeats 1600000 in
theorem numbers_any (n : Nat) (hn : n ≤ 31) (w : World) : Calls Try.prog 98 #[.int .i64 n] w fun e w' => ∃ g, e = .returned (.slice (some ⟨g, 0, none⟩) n n) ∧ w.heap.size ≤ g ∧ Blk w' g 3 (rowA n fun i => (i : Int)) ∧ Below w.heap.size w w' := by
  have hmx : ∀ w, (Builtin.max_ #[3, 3] 3 #[.int .i64 0, .int .i64 (n : Nat)]).run Try.prog w = .ok (.int .i64 (n : Nat)) w := fun w => by
    rw [maxC_run, show max 0 ((n : Nat) : Int) = (n : Nat) by omega]
  have hmk := make_ns n hn
  obtain ⟨W, hW⟩ : ∃ W, W = w.alloc (.cells (rowA n fun _ => 0) 3) := ⟨_, rfl⟩
  have HX : Hid (Blk W w.heap.size 3 (rowA n fun _ => 0)) := by rw [hW]; exact Blk.new w 3 _
  have HB : Hid (Below w.heap.size w W) := by rw [hW]; exact (Below.refl _ _).alloc (Nat.le_refl _) _
  go_enter Try.func98, Try.ntmps98
  go_upto_region 3 with (fail)
  rw [← hW]
  clear hW hmk hmx
  go_loopw [10] (fun i wr => ∃ k : Nat, k ≤ n ∧ i = .int .i64 k ∧ Blk wr w.heap.size 3 (rowA n fun j => if j < k then (j : Int) else 0) ∧ Below w.heap.size w wr) (fun i _ => n - (intOf i).toNat)
  case atStart => exact ⟨0, Nat.zero_le _, rfl, HX.out, HB.out⟩
  case round =>
    obtain ⟨k, hk, rfl, hx, hb⟩ := hrel
    have HXR := Lib.hid hx
    have HBR := Lib.hid hb
    clear hx hb
    by_cases hlt : k < n
    · have hki : (k : Int) < n := by omega
      have xk := HXR.out.cell k
      have fk := HXR.out.frozen k
      have xl := HXR.out.lt
      rw [rowA_get _ _ hlt] at xk
      have hs := HXR.out.set_ k (.int .i64 (k : Int))
      rw [rowA_set _ _ hlt, rowA_congr (g := fun j => if j < k + 1 then (j : Int) else 0) (fun j => by
        by_cases e : j = k
        · rw [if_pos e, if_pos (by omega), e]
        · rw [if_neg e]
          by_cases e2 : j < k
          · rw [if_pos e2, if_pos (by omega)]
          · rw [if_neg e2, if_neg (by omega)])] at hs
      have HS := Lib.hid hs
      clear hs
      go_wp2_with fail
      go_roundw
      case rel => exact ⟨k + 1, by omega, by go_num, HS.out, HBR.out.setCell (by simp) _⟩
      case measure => simp [intOf]; omega
    · obtain rfl : k = n := by omega
      have hx : Blk wr w.heap.size 3 (rowA k fun i => (i : Int)) := by
        have h := HXR.out
        have e : (rowA k fun j => if j < k then (j : Int) else 0) = rowA k fun i => (i : Int) := by
          unfold rowA
          congr 1
          exact List.map_congr_left fun j hj => by
            show Value.int .i64 (if j < k then (j : Int) else 0) = _
            rw [if_pos (by simpa using hj)]
        rwa [e] at h
      go_wp2
      go_ret
      exact ⟨_, rfl, Nat.le_refl _, hx, HBR.out⟩
variable {g n F : Nat} {cap : Array Value} {J : World → Prop} {p : Nat → Bool}
/-- Which is the first one, if any. -/
def FirstAt (p : Nat → Bool) (n : Nat) (k : Int) : Prop := (∃ i : Nat, k = i ∧ i < n ∧ p i = true ∧ ∀ j, j < i → p j = false) ∨ (k = -1 ∧ ∀ j, j < n → p j = false)
set_option maxRecDepth 100000 in
set_option maxHeartbeats 1600000 in
theorem indexC_any (hn : n ≤ 31) (eg : Enters Try.prog F) (hl : ∀ x, J x → Blk x g 3 (rowA n fun i => (i : Int))) (hc : ∀ k, k < n → ∀ x, J x → Calls Try.prog F (#[.int .i64 (k : Nat)] ++ cap) x fun e y => e = .returned (.bool (p k)) ∧ J y) (w : World) (hJ : J w) :
    Calls Try.prog 137 #[.slice (some ⟨g, 0, none⟩) n n, .func (.func F) #[] cap] w fun e w' => (∃ k, e = .returned (.int .i64 k) ∧ FirstAt p n k) ∧ J w' := by
  have HL := Lib.hid hl
  have HC := Lib.hid hc
  have HJ := Lib.hid hJ
  have heg : ∀ args w, (callFunc F args).run Try.prog w = .ok (.enter F args) w := eg
  clear hl hc hJ eg
  go_enter Try.func137, Try.ntmps137
  go_upto_region 2 with (fail)
  go_loopw [8] (fun i wr => ∃ k : Nat, k ≤ n ∧ i = .int .i64 k ∧ Hid (∀ j, j < k → p j = false) ∧ Hid (J wr)) (fun i _ => n - (intOf i).toNat)
  case atStart => exact ⟨0, Nat.zero_le _, rfl, fun j h => by omega, HJ⟩
  case round =>
    obtain ⟨k, hk, rfl, HP, HJR⟩ := hrel
    by_cases hlt : k < n
    · have hki : (k : Int) < n := by omega
      have xk := (HL.out wr HJR.out).cell k
      have xl := (HL.out wr HJR.out).lt
      rw [rowA_get _ _ hlt] at xk
      go_wp2_with fail
      refine (HC.out k hlt wr HJR.out).mono ?_
      rintro e w2 ⟨rfl, hj2⟩
      have HJ2 := Lib.hid hj2
      clear hj2 xk xl
      cases hp : p k
      · have HPK := Lib.hid hp
        clear hp
        go_wp2_with fail
        go_roundw
        case rel => exact ⟨k + 1, by omega, by go_num, fun j hj => by
          by_cases e : j = k
          · subst e; exact HPK.out
          · exact HP.out j (by omega), HJ2⟩
        case measure => simp [intOf]; omega
      · have HPK := Lib.hid hp
        clear hp
        go_wp2
        go_ret
        exact ⟨⟨_, rfl, .inl ⟨k, rfl, hlt, HPK.out, HP.out⟩⟩, HJ2.out⟩
    · obtain rfl : k = n := by omega
      go_wp2
      go_ret
      exact ⟨⟨_, rfl, .inr ⟨rfl, HP.out⟩⟩, HJR.out⟩
set_option maxRecDepth 100000 in
set_option maxHeartbeats 1600000 in
theorem firstC_any (hn : n ≤ 31) (eg : Enters Try.prog F) (hb : ∀ x y : World, J x → Below x.heap.size x y → J y) (hl : ∀ x, J x → Blk x g 3 (rowA n fun i => (i : Int))) (hc : ∀ k, k < n → ∀ x, J x → Calls Try.prog F (#[.int .i64 (k : Nat)] ++ cap) x fun e y => e = .returned (.bool (p k)) ∧ J y) (w : World) (hJ : J w) :
    Calls Try.prog 97 #[.slice (some ⟨g, 0, none⟩) n n, .agg #[.func (.func F) #[] cap]] w fun e w' => ((∃ k : Nat, e = .returned (.int .i64 k) ∧ k < n ∧ p k = true ∧ ∀ j, j < k → p j = false) ∨ (e = .panicked [refC 4] ∧ ∀ j, j < n → p j = false)) ∧ J w' := by
  obtain ⟨W, hW⟩ : ∃ W, W = w.alloc (.cells #[.func (.func F) #[] cap] 126) := ⟨_, rfl⟩
  have HX : Hid (Blk W w.heap.size 126 #[.func (.func F) #[] cap]) := by rw [hW]; exact Blk.new w 126 _
  have HJ : Hid (J W) := by show J _; rw [hW]; exact hb _ _ hJ ((Below.refl _ _).alloc (Nat.le_refl _) _)
  have HL := Lib.hid hl
  have hix := fun x hx => indexC_any (p := p) hn eg hl hc x hx
  have HIX := Lib.hid hix
  have x0 := HX.out.cell 0
  have xl := HX.out.lt
  simp at x0
  clear hJ hl hc eg hix hb
  go_enter Try.func97, Try.ntmps97
  go_upto_region 1 with (fail)
  rw [← hW]
  clear hW
  go_wp2_with fail
  refine (HIX.out W HJ.out).mono ?_
  rintro e w2 ⟨⟨k, rfl, hf⟩, hj2⟩
  have HJ2 := Lib.hid hj2
  clear hj2 x0 xl
  rcases hf with ⟨i, rfl, hi, hp, hlt⟩ | ⟨rfl, hno⟩
  · have HR : Hid (p i = true ∧ ∀ j, j < i → p j = false) := ⟨hp, hlt⟩
    have hii : (i : Int) < n := by omega
    have hi0 : decide ((0 : Int) ≤ i) = true := by simp
    clear hp hlt
    go_wp2_with fail
    refine (askC_any true 4 _).mono ?_
    rintro e w3 ⟨h3, rfl⟩
    obtain rfl : e = .returned (.tuple #[]) := h3
    have xi := (HL.out w3 HJ2.out).cell i
    have xl := (HL.out w3 HJ2.out).lt
    rw [rowA_get _ _ hi] at xi
    go_wp2
    go_ret
    exact ⟨.inl ⟨i, rfl, hi, HR.out.1, HR.out.2⟩, HJ2.out⟩
  · have HNO := Lib.hid hno
    clear hno
    go_wp2_with fail
    refine (askC_any false 4 _).mono ?_
    rintro e w3 ⟨h3, rfl⟩
    obtain rfl : e = .panicked [refC 4] := h3
    go_wp2
    exact ⟨rfl, .inr ⟨rfl, HNO.out⟩, HJ2.out⟩
end
end Go.Proofs.Ytbfjebglaimcmaa
namespace Go.Proofs.Ytbfjebglaimcmaa
open Go.RowKit Go.Hav Go.Sq
attribute [local go_sem] Oper.semAt_some
def neverB (c : Cls) (k : Nat) : Bool := decide ((toldsC c)[k]? = some 0)
theorem proof_some {c : Cls} {k : Nat} (hk : k < c.bl.length) (hp : neverB c k = true) (hj : ∀ j, j < k → neverB c j = false) : proofC c = some k := by
  unfold proofC
  rw [List.findIdx?_eq_some_iff_getElem]
  have hl := tolds_len c
  refine ⟨by omega, ?_, fun j hjk => ?_⟩
  · have h := of_decide_eq_true hp
    rw [List.getElem?_eq_getElem (by omega)] at h
    rw [Option.some.inj h]
    rfl
  · have h := of_decide_eq_false (hj j hjk)
    rw [List.getElem?_eq_getElem (by omega)] at h
    intro e
    exact h (by rw [eq_of_beq e])
theorem proof_none {c : Cls} (hj : ∀ j, j < c.bl.length → neverB c j = false) : proofC c = none := by
  unfold proofC
  rw [List.findIdx?_eq_none_iff]
  intro x hx
  obtain ⟨j, hj2, rfl⟩ := List.getElem_of_mem hx
  have hl := tolds_len c
  have h := of_decide_eq_false (hj j (by omega))
  rw [List.getElem?_eq_getElem hj2] at h
  cases hb : ((toldsC c)[j] == 0) with
  | false => rfl
  | true => exact absurd (by rw [eq_of_beq hb]) h
def proofV (c : Cls) : Value := match proofC c with | some k => .tuple #[.int .i64 (k : Nat), .int .i64 0] | none => .tuple #[.int .i64 0, .int .i64 4]
section
variable {w : World} {B d r bc bt : Nat} {ba : Option Addr} {c : Cls}
set_option maxRecDepth 100000 in
set_option maxHeartbeats 1600000 in
theorem never_any (w : World) (hT : TabIn w B d r ba bc c) (ht : Blk w bt 117 #[.pointer (some ⟨d, 0, none⟩)]) (hn : bt ≠ r) {k : Nat} {b : Bl} (hb : c.bl[k]? = some b) (hcan : mistakenC c (fun _ => true) ≤ c.mis) :
    Calls Try.prog 99 #[.int .i64 k, .pointer (some ⟨bt, 0, none⟩)] w fun e w' => e = .returned (.bool (neverB c k)) ∧ (GK r (kF c)).G w w' := by
  have HT := Lib.hid hT
  have HBT := Lib.hid ht
  have HBL := Lib.hid hb
  have HCAN := Lib.hid hcan
  have HN := Lib.hid hn
  obtain ⟨t, htt⟩ : ∃ t, toldC c.may (wrongC c k b) = t := ⟨_, rfl⟩
  have HTT := Lib.hid htt
  have HP : Hid (neverB c k = ((t : Int) == 0)) := by
    show _ = _
    unfold neverB
    rw [tolds_at hb, htt]
    cases t with
    | zero => rfl
    | succ n => rfl
  clear hT ht hb hcan htt hn
  rw [HP.out]
  go_enter Try.func99, Try.ntmps99
  go_upto_region 1 with (fail)
  refine HavG.wp_region_stg (fun wv => (GK r (kF c)).G w wv) [(0,false),(1,false),(2,false),(3,true),(4,true),(5,false)] [6] (fun _ _ => False) (by kernel_rfl) (by kernel_rfl) (fun _ _ _ _ h => h.elim) ((GK r (kF c)).drew _) ?_
  (apply HavG.stg_same (by simp only [List.getElem?_toArray, List.getElem?_cons_zero]; rfl) (by kernel_rfl); (focus (intro wv hI; have hx := HBT.out.turn hI.1 HN.out; have x0 := hx.cell 0; have xl := hx.lt; (simp at x0); clear hx hI; (try go_simp); try rfl; done)); simp only [Act.put, List.setIfInBounds_toArray, List.set_cons_succ, List.set_cons_zero])
  (apply HavG.stg_same (by simp only [List.getElem?_toArray, List.getElem?_cons_succ, List.getElem?_cons_zero]; rfl) (by kernel_rfl); (focus (intro wv hI; have hx := HBT.out.turn hI.1 HN.out; have x0 := hx.cell 0; have xl := hx.lt; (simp at x0); clear hx hI; (try go_simp); try rfl; done)); simp only [Act.put, List.setIfInBounds_toArray, List.set_cons_succ, List.set_cons_zero])
  (apply HavG.stg_same (by simp only [List.getElem?_toArray, List.getElem?_cons_succ, List.getElem?_cons_zero]; rfl) (by kernel_rfl); (focus (intro wv hI; clear hI; (try go_simp); try rfl; done)); simp only [Act.put, List.setIfInBounds_toArray, List.set_cons_succ, List.set_cons_zero])
  (apply HavG.stg_call (by simp only [List.getElem?_toArray, List.getElem?_cons_succ, List.getElem?_cons_zero]; rfl) (by kernel_rfl); (focus (go_simp; try exact ⟨rfl, rfl⟩; done)))
  refine (wrongC_any w.drew (HT.out.keep ((GK r (kF c)).drew _)) HBL.out HCAN.out).mono ?_
  rintro e w1 ⟨rfl, hg⟩
  have HG1 : Hid ((GK r (kF c)).G w w1) := (GK r (kF c)).trans ((GK r (kF c)).drew _) hg
  refine .inl ⟨_, rfl, HG1.out, ?_⟩
  simp only [Act.put, List.setIfInBounds_toArray, List.set_cons_succ, List.set_cons_zero]
  (apply HavG.stg_call (by simp only [List.getElem?_toArray, List.getElem?_cons_succ, List.getElem?_cons_zero]; rfl) (by kernel_rfl); (focus (go_simp; try exact ⟨rfl, rfl⟩; done)))
  refine (toldC_any w1 (HT.out.keep HG1.out) _).mono ?_
  rw [HTT.out]
  rintro e w2 ⟨rfl, hb2⟩
  have HG2 : Hid ((GK r (kF c)).G w w2) := (GK r (kF c)).trans HG1.out (GK.below hb2)
  refine .inl ⟨_, rfl, HG2.out, ?_⟩
  simp only [Act.put, List.setIfInBounds_toArray, List.set_cons_succ, List.set_cons_zero]
  (apply HavG.stg_same (by simp only [List.getElem?_toArray, List.getElem?_cons_succ, List.getElem?_cons_zero]; rfl) (by kernel_rfl); (focus (intro wv hI; clear hI; (try go_simp); try rfl; done)); simp only [Act.put, List.setIfInBounds_toArray, List.set_cons_succ, List.set_cons_zero])
  simp only [HavG.wpStg, List.filterMap]
  clear hg hb2
  go_wp2
  go_ret
  exact ⟨rfl, HG2.out⟩
set_option maxRecDepth 100000 in
set_option maxHeartbeats 6400000 in
theorem CProof_any (w : World) (hC : ClsIn w w.heap.size ba c) (hcan : mistakenC c (fun _ => true) ≤ c.mis) :
    Calls Try.prog 49 #[.agg (clsC ba bc c)] w fun e w' => e = .returned (proofV c) ∧ Below w.heap.size w w' := by
  have HC := Lib.hid hC
  have HCAN := Lib.hid hcan
  have EG := Lib.hid (enters_of Try.func89 (by kernel_rfl) rfl)
  have EG99 := Lib.hid (enters_of Try.func99 (by kernel_rfl) rfl)
  have hmf : ∀ (fn : Fn) (first cap : Array Value) (w : World), (Instr.makeFunc fn first cap).run Try.prog w = .ok (.func fn first cap) w := fun _ _ _ _ => rfl
  obtain ⟨W, hW⟩ : ∃ W, W = (w.alloc (.cells (clsC ba bc c) 75)).alloc (.cells #[.int .i64 0] 30) := ⟨_, rfl⟩
  have HX0 : Hid (Blk W w.heap.size 75 (clsC ba bc c)) := by rw [hW]; exact (Blk.new_ rfl _ _).alloc _
  have HX3 : Hid (Blk W (w.heap.size + 1) 30 #[.int .i64 0]) := by rw [hW]; exact Blk.new_ (by simp) _ _
  have HB : Hid (Below w.heap.size w W) := by rw [hW]; exact ((Below.refl w.heap.size w).alloc (by simp) _).alloc (by simp) _
  have hs := HX3.out.lt
  obtain ⟨x0, x1, x2, x3, xl⟩ := clsC_cells HX0.out
  have h6 := hC.ok.l6
  obtain ⟨len, hlen⟩ : ∃ x, c.bl.length = x := ⟨_, rfl⟩
  have HLEN := Lib.hid hlen
  rw [hlen] at h6
  clear hC hcan hlen
  go_enter_defers Try.func49, Try.ntmps49
  go_upto_region 2 with fail
  rw [← hW]
  clear hW
  go_wp2_with fail
  refine (openC_any 89 #[] EG.out (isTab89 (w := W)) (HC.out.grow HB.out)).mono ?_
  rintro e w1 ⟨d, r, rfl, hT, hb1⟩
  have HB1 := Lib.hid hb1
  have HT := Lib.hid hT
  clear hT hb1 x0 x1 x2 x3 xl
  go_upto_region 3 with fail
  obtain ⟨W1, hW1⟩ : ∃ x, x = w1.alloc (.cells #[.pointer (some ⟨d, 0, none⟩)] 117) := ⟨_, rfl⟩
  have HBT : Hid (Blk W1 w1.heap.size 117 #[.pointer (some ⟨d, 0, none⟩)]) := by rw [hW1]; exact Blk.new w1 117 _
  have HBN : Hid (Below w1.heap.size w1 W1) := by show Below _ _ _; rw [hW1]; exact (Below.refl _ _).alloc (Nat.le_refl _) _
  rw [← hW1]
  clear hW1
  have HT1 := Lib.hid (HT.out.below HBN.out)
  have HBW1 : Hid (Below W.heap.size W W1) := HB1.out.trans (HBN.out.mono HB1.out.size)
  obtain ⟨x0, x1, x2, x3, xl⟩ := clsC_cells (HX0.out.below HBW1.out HX0.out.lt)
  rw [HLEN.out] at x0
  clear x1 x2 x3
  go_wp2_with fail
  refine (numbers_any len (by omega) W1).mono ?_
  rintro e Y ⟨g, rfl, hg, hgb, hby⟩
  have HBY := Lib.hid hby
  have HGB := Lib.hid hgb
  have HTY := Lib.hid (HT1.out.below hby)
  have HBTY := Lib.hid (HBT.out.below hby HBT.out.lt)
  have hrl := HT1.out.map.lt
  have hrl1 := HT.out.map.lt
  have HGN : Hid (g ≠ r ∧ w1.heap.size ≠ r) := ⟨by omega, by omega⟩
  have HWY : Hid (Below W.heap.size W Y) := HBW1.out.trans (hby.mono HBW1.out.size)
  clear hg hgb hby x0 xl
  go_wp2_with fail
  refine (firstC_any (F := 99) (cap := #[.pointer (some ⟨w1.heap.size, 0, none⟩)]) (J := fun x => (GK r (kF c)).G Y x) (p := neverB c) (by omega) EG99.out (fun x y hx hb => (GK r (kF c)).trans hx (GK.below hb)) (fun x hx => HGB.out.turn hx.1 HGN.out.1)
    (fun k hk x hx => (never_any x (HTY.out.keep hx) (HBTY.out.turn hx.1 HGN.out.2) HGN.out.2 (List.getElem?_eq_getElem (by have := HLEN.out; omega)) HCAN.out).mono (fun e y ⟨h1, h2⟩ => ⟨h1, (GK r (kF c)).trans hx h2⟩)) Y ((GK r (kF c)).refl _)).mono ?_
  rintro e w5 ⟨hres, hj⟩
  have HB5 : Hid (Below W.heap.size W w5) := GK.under HWY.out HWY.out.size HT.out.hr hj
  have HY3 := Lib.hid (HX3.out.below HB5.out HX3.out.lt)
  have HBW : Hid (Below w.heap.size w w5) := HB.out.trans (HB5.out.mono HB.out.size)
  have f3 := HY3.out.frozen 0
  have y3 := HY3.out.cell 0
  have yl := HY3.out.lt
  simp at y3
  clear hj
  rcases hres with ⟨k, rfl, hk, hp, hno⟩ | ⟨rfl, hno⟩
  · have HPV : Hid (proofV c = .tuple #[.int .i64 (k : Nat), .int .i64 0]) := by
      show _ = _
      unfold proofV
      rw [proof_some (by rw [HLEN.out]; exact hk) hp hno]
    clear hp hno
    go_wp2
    have g0 := (HY3.out.set_ 0 (.int .i64 0)).cell 0
    simp at g0
    exact cls_returns (b := w.heap.size + 1) rfl (v := .tuple #[.int .i64 k, .int .i64 0]) (by simp [results, Try.results49, go_sem, g0]) ⟨by rw [HPV.out], setCell_below HBW.out (by omega) _ _⟩
  · have HPV : Hid (proofV c = .tuple #[.int .i64 0, .int .i64 4]) := by
      show _ = _
      unfold proofV
      rw [proof_none (by rw [HLEN.out]; exact hno)]
    clear hno
    go_wp2
    have g0 := (HY3.out.set_ 0 (.int .i64 4)).cell 0
    simp at g0
    exact cls_panics (b := w.heap.size + 1) rfl y3 f3 (v := .tuple #[.int .i64 0, .int .i64 4]) (by simp [results, Try.results49, go_sem, g0]) ⟨by rw [HPV.out], setCell_below HBW.out (by omega) _ _⟩
end
end Go.Proofs.Ytbfjebglaimcmaa
namespace Go.Proofs.Ytbfjebglaimcmaa
open Go.RowKit Go.Hav Go.Sq
attribute [local go_sem] Oper.semAt_some
/-- A slice of three rows of three cells is copied: only the block that it is copied to turns. -/
theorem copy_three {W : World} {g cap B : Nat} {A : Option Addr} {l : List Bl} {old : Array Value} (ty : TypeId) (hl : l.length = 3) (ho : old.size = 9) (hb : Blk W g 77 old) (hr : RdG blF 3 W B A l) :
    ∃ w1, (Builtin.copy_ #[73, 73] ty #[.slice (some ⟨g, 0, none⟩) 3 3, .slice A 3 cap]).run Try.prog W = .ok (.int .i64 3) w1 ∧ Blk w1 g 77 (l.flatMap blF).toArray ∧ Turn (fun b => b = g) W w1 := by
  have h1 : ∀ (x : Bl), ∀ v ∈ blF x, v.oneCell' = true := fun x v hv => by
    simp only [blF, List.mem_cons, List.not_mem_nil, or_false] at hv
    rcases hv with rfl | rfl | rfl <;> rfl
  have hs : (Try.prog.info? 77).map (·.size) = some 3 := by kernel_rfl
  cases hq : Try.prog.info? 77 with
  | none => simp [hq] at hs
  | some i =>
    have hi : i.size = 3 := by simpa [hq] using hs
    have hlen : (l.flatMap blF).length = 3 * 3 := by rw [flat_len blF 3 blF_len, hl]
    obtain ⟨b, off, rfl, _, _⟩ := hr 0 (l[0]'(by omega)) (by simp)
    have hld := run_loadCells_list (P := Try.prog) W ⟨b, off, none⟩ (l.flatMap blF) (hr.news blF_len (by decide))
    have hst := run_storeCells_at Try.prog g 0 77 (l.flatMap blF) 0 old W hb (by rw [hlen, ho]; omega) (fun v hv => by
      obtain ⟨x, _, hx⟩ := List.mem_flatMap.1 hv
      exact h1 x v hx)
    rw [hlen] at hld hst
    simp only [Nat.zero_add, List.take_zero, List.nil_append] at hst
    rw [List.drop_of_length_le (by simp [ho]), List.append_nil] at hst
    refine ⟨_, ?_, setRow_heap W g old (l.flatMap blF).toArray 77 (0, 0) hb, setRow_turn _ _ _⟩
    have hmin : Nat.min 3 3 = 3 := rfl
    simp [Builtin.copy_, run_underlying Try.underlying73, Builtin.lenOf, Builtin.firstCells, sizeOf, typeInfo, hq, hi, goInt, hld, hst]
/-- The line with more fleeces looked at. -/
def lineM (m : Nat) : Cls := ⟨[⟨10, 4, 1⟩, ⟨10, 5 + m, 0⟩, ⟨8, 8, 3⟩], 2, 2, 1⟩
theorem lineM_ok {m : Nat} (h : m ≤ 5) : ClsOk (lineM m) := by
  refine ⟨by show 1 ≤ 3; omega, by show 3 ≤ 6; omega, by show 2 ≤ 30; omega, by show 2 ≤ 30; omega, by show 1 ≤ 6; omega, fun b hb => ?_⟩
  simp only [lineM, List.mem_cons, List.not_mem_nil, or_false] at hb
  rcases hb with rfl | rfl | rfl <;> (unfold BlOk; simp only; omega)
/-- So many are enough. -/
def enoughM (m : Nat) : Bool := (upL (cI (throughC (lineM m) (fun _ => true) 1 ⟨10, 5 + m, 0⟩)) 1 31).all fun x => decide (x ≤ 2)
set_option maxRecDepth 100000 in
theorem enough4 : enoughM 4 = true ∧ ∀ j, j < 4 → enoughM j = false := by
  have h : (enoughM 4 && !enoughM 0 && !enoughM 1 && !enoughM 2 && !enoughM 3) = true := by decide +kernel
  simp only [Bool.and_eq_true, Bool.not_eq_true'] at h
  obtain ⟨⟨⟨⟨h4, h0⟩, h1⟩, h2⟩, h3⟩ := h
  refine ⟨h4, fun j hj => ?_⟩
  obtain rfl | rfl | rfl | rfl : j = 0 ∨ j = 1 ∨ j = 2 ∨ j = 3 := by omega
  · exact h0
  · exact h1
  · exact h2
  · exact h3
section
variable {w x : World} {bo go bx bn bc B m : Nat} {ba : Option Addr}
/-- What the closure leans on. -/
structure EnIn (x : World) (B bo go bx bn bc : Nat) (ba : Option Addr) : Prop where
  ho : Blk x bo 73 #[.slice (some ⟨go, 0, none⟩) 3 3]
  hg : ∃ arr : Array Value, Blk x go 77 arr ∧ arr.size = 9
  hx : Blk x bx 75 (clsC ba bc lineA)
  hn : Blk x bn 3 #[.int .i64 1]
  rd : RdG blF 3 x B ba lineA.bl
  ne : go ≠ bo ∧ go ≠ bx ∧ go ≠ bn ∧ B ≤ go
theorem EnIn.turn {y : World} (h : EnIn x B bo go bx bn bc ba) (t : Turn (fun b => b = go) x y) (hg : ∃ arr : Array Value, Blk y go 77 arr ∧ arr.size = 9) : EnIn y B bo go bx bn bc ba := by
  obtain ⟨n1, n2, n3, n4⟩ := h.ne
  obtain ⟨_, hk, _⟩ := h.hg
  have hl := hk.lt
  exact { h with ho := h.ho.turn t (fun e => n1 e.symm), hg := hg, hx := h.hx.turn t (fun e => n2 e.symm), hn := h.hn.turn t (fun e => n3 e.symm), rd := h.rd.keep fun z hz _ => t.block z (by omega) (by omega) }
set_option maxRecDepth 100000 in
set_option maxHeartbeats 6400000 in
theorem enough_any (hm : m ≤ 5) (w : World) (hE : EnIn w B bo go bx bn bc ba) :
    Calls Try.prog 125 #[.int .i64 m, .pointer (some ⟨bo, 0, none⟩), .pointer (some ⟨bx, 0, none⟩), .pointer (some ⟨bn, 0, none⟩)] w fun e w' => e = .returned (.bool (enoughM m)) ∧ Turn (fun b => b = go) w w' ∧ ∃ arr : Array Value, Blk w' go 77 arr ∧ arr.size = 9 := by
  have HE := Lib.hid hE
  obtain ⟨W, hW⟩ : ∃ W, W = w.alloc (.cells #[.bool false] 4) := ⟨_, rfl⟩
  have HX5 : Hid (Blk W w.heap.size 4 #[.bool false]) := by rw [hW]; exact Blk.new w 4 _
  have HB : Hid (Below w.heap.size w W) := by rw [hW]; exact (Below.refl _ _).alloc (Nat.le_refl _) _
  obtain ⟨arr, hga, hsz⟩ := hE.hg
  have hgl := hga.lt
  have HEW : Hid (EnIn W B bo go bx bn bc ba) := hE.turn (Turn.of_below HB.out) ⟨arr, hga.below HB.out hgl, hsz⟩
  have o0 := HEW.out.ho.cell 0
  have ol := HEW.out.ho.lt
  obtain ⟨x0, x1, x2, x3, xl⟩ := clsC_cells HEW.out.hx
  simp at o0
  obtain ⟨w1, hcp, hg1, ht1⟩ := copy_three 3 (cap := bc) rfl hsz (hga.below HB.out hgl) HEW.out.rd
  have HG1 := Lib.hid hg1
  have HT1 := Lib.hid ht1
  clear hE hg1 ht1
  refine (callsIn_wide (n := 6)).1 (callsIn_of_wp_marks Try.func125 rfl trivial ?_ rfl)
  simp only [Try.ntmps125, List.size_toArray, List.length_cons, List.length_nil, Nat.reduceAdd, Nat.reduceSub, Array.replicate_succ, Array.replicate_zero, List.push_toArray, List.append_toArray, List.nil_append, List.cons_append]
  refine wpIn_wide.2 ?_
  go_upto_region 1 with (fail)
  rw [← hW]
  clear hW
  simp only [lineA, List.length_cons, List.length_nil, Nat.reduceAdd] at x0 hcp
  go_upto_region 2 with (fail)
  have HE1 := Lib.hid (HEW.out.turn HT1.out ⟨_, HG1.out, rfl⟩)
  have hgo : Blk w1 go 77 #[.int .i64 10, .int .i64 4, .int .i64 1, .int .i64 10, .int .i64 5, .int .i64 0, .int .i64 8, .int .i64 8, .int .i64 3] := HG1.out
  have g4 := hgo.cell 4
  have gf := hgo.frozen 4
  have gl := hgo.lt
  have o0' := HE1.out.ho.cell 0
  have ol' := HE1.out.ho.lt
  have n0 := HE1.out.hn.cell 0
  have nl := HE1.out.hn.lt
  simp at g4 o0' n0
  clear hcp o0 ol x0 x1 x2 x3 xl
  go_upto_region 3 with (fail)
  have hk2 := hgo.set_ 4 (.int .i64 ((5 : Int) + m))
  simp at hk2
  obtain ⟨W2, hW2⟩ : ∃ y, y = w1.setCell ⟨go, 4, none⟩ (.int .i64 ((5 : Int) + m)) := ⟨_, rfl⟩
  have HG2 : Hid (Blk W2 go 77 #[.int .i64 10, .int .i64 4, .int .i64 1, .int .i64 10, .int .i64 ((5 : Int) + m), .int .i64 0, .int .i64 8, .int .i64 8, .int .i64 3]) := by rw [hW2]; exact hk2
  have HT2 : Hid (Turn (fun b => b = go) W W2) := by show Turn _ _ _; rw [hW2]; exact HT1.out.trans (Turn.set _ _ (fun _ => rfl))
  have HE2 := Lib.hid (HEW.out.turn HT2.out ⟨_, HG2.out, rfl⟩)
  rw [← hW2]
  clear hW2 hk2 hgo g4 gf gl o0' ol' n0 nl
  obtain ⟨x0, x1, x2, x3, xl⟩ := clsC_cells HE2.out.hx
  have o0 := HE2.out.ho.cell 0
  have ol := HE2.out.ho.lt
  have hmm := @run_makeMap Try.prog
  simp at o0
  simp only [lineA, List.length_cons, List.length_nil, Nat.reduceAdd] at x0 x1 x2 x3
  go_upto_region 6 with (fail)
  obtain ⟨Z, hZ⟩ : ∃ y, y = ((W2.alloc (.cells #[.slice (some ⟨go, 0, none⟩) 3 3, .int .i64 2, .int .i64 2, .int .i64 1] 75)).alloc (.map #[] 0)).alloc (.cells #[.slice (some ⟨go, 0, none⟩) 3 3, .int .i64 2, .int .i64 2, .int .i64 1, .map (some (W2.heap.size + 1))] 158) := ⟨_, rfl⟩
  have HBZ : Hid (Below W2.heap.size W2 Z) := by show Below _ _ _; rw [hZ]; exact (((Below.refl _ _).alloc (Nat.le_refl _) _).alloc (by simp) _).alloc (by simp; omega) _
  have hgl2 := HG2.out.lt
  have HTZ : Hid (TabIn Z (go + 1) (W2.heap.size + 1 + 1) (W2.heap.size + 1) (some ⟨go, 0, none⟩) 3 (lineM m)) := by
    have hbk : Blk Z (W2.heap.size + 1 + 1) 158 #[.slice (some ⟨go, 0, none⟩) 3 3, .int .i64 2, .int .i64 2, .int .i64 1, .map (some (W2.heap.size + 1))] := by rw [hZ]; exact Blk.new_ (by simp) 158 _
    have hmp : Z.heap[W2.heap.size + 1]? = ((W2.alloc (.cells #[.slice (some ⟨go, 0, none⟩) 3 3, .int .i64 2, .int .i64 2, .int .i64 1] 75)).alloc (.map #[] 0)).heap[W2.heap.size + 1]? := by rw [hZ]; exact Below.heap_alloc _ _ _ (by simp)
    have hmk := MapK.made (W2.alloc (.cells #[.slice (some ⟨go, 0, none⟩) 3 3, .int .i64 2, .int .i64 2, .int .i64 1] 75)) (kF (lineM m))
    have hrow : Blk Z go 77 ((lineM m).bl.flatMap blF).toArray := by
      have h := HG2.out.below HBZ.out hgl2
      rw [show ((5 : Int) + m) = ((5 + m : Nat) : Int) by omega] at h
      exact h
    exact ⟨lineM_ok hm, hbk, rd_blk blF_len hrow, (show MapK _ (W2.heap.size + 1) _ by simpa using hmk).keep hmp, by omega, by omega, by omega, by have := HBZ.out.size; omega⟩
  rw [← hZ]
  clear hZ hmm x0 x1 x2 x3 xl o0 ol
  have HEZ := Lib.hid (HE2.out.turn (Turn.of_below HBZ.out) ⟨_, HG2.out.below HBZ.out hgl2, rfl⟩)
  have HTW : Hid (Turn (fun b => b = go) W Z) := HT2.out.trans (Turn.of_below HBZ.out)
  obtain ⟨r, hr⟩ : ∃ r, W2.heap.size + 1 = r := ⟨_, rfl⟩
  obtain ⟨d, hd⟩ : ∃ d, W2.heap.size + 1 + 1 = d := ⟨_, rfl⟩
  rw [hd, hr] at HTZ
  rw [hd]
  have HRN : Hid (go < r ∧ bn < r ∧ bx < r ∧ w.heap.size < r ∧ W.heap.size ≤ r) := by
    have h1 := HE2.out.hn.lt
    have h2 := HE2.out.hx.lt
    have h3 := HX5.out.lt
    have h4 := HT2.out.size
    exact ⟨by omega, by omega, by omega, by omega, by omega⟩
  have h7 := full_small (n := 3) (by omega)
  clear hr hd
  refine HavG.wp_region_stg (fun wv => (GK r (kF (lineM m))).G Z wv) [(0,false),(1,false),(2,false),(5,false),(6,false),(7,false),(8,false),(9,false),(3,true),(4,true),(10,true)] [] (fun _ _ => False) (by kernel_rfl) (by kernel_rfl) (fun _ _ _ _ h => h.elim) ((GK r (kF (lineM m))).drew _) ?_
  (apply HavG.stg_same (by simp only [List.getElem?_toArray, List.getElem?_cons_zero]; rfl) (by kernel_rfl); (focus (intro wv hI; skip; (try go_simp); try rfl; done)); simp only [Act.put, List.setIfInBounds_toArray, List.set_cons_succ, List.set_cons_zero])
  (apply HavG.stg_same (by simp only [List.getElem?_toArray, List.getElem?_cons_succ, List.getElem?_cons_zero]; rfl) (by kernel_rfl); (focus (intro wv hI; have hx := HEZ.out.hn.turn hI.1 (by have := HRN.out; omega); have x0 := hx.cell 0; have xl := hx.lt; (simp at x0); clear hx hI; (try go_simp); try rfl; done)); simp only [Act.put, List.setIfInBounds_toArray, List.set_cons_succ, List.set_cons_zero])
  iterate 6 (apply HavG.stg_same (by simp only [List.getElem?_toArray, List.getElem?_cons_succ, List.getElem?_cons_zero]; rfl) (by kernel_rfl); (focus (intro wv hI; have hx := (HTZ.out.keep hI).blk; have x3 := hx.cell 3; have xl := hx.lt; (simp [tabC, lineM] at x3); clear hx hI; (try go_simp); try rfl; done)); simp only [Act.put, List.setIfInBounds_toArray, List.set_cons_succ, List.set_cons_zero])
  (apply HavG.stg_call (by simp only [List.getElem?_toArray, List.getElem?_cons_succ, List.getElem?_cons_zero]; rfl) (by kernel_rfl); (focus (go_simp; try exact ⟨rfl, rfl⟩; done)))
  have hq := everyC_any Z.drew (HTZ.out.keep ((GK r (kF (lineM m))).drew _))
  refine hq.mono ?_
  rintro e w4 ⟨rfl, rfl⟩
  refine .inl ⟨_, rfl, (GK r (kF (lineM m))).drew _, ?_⟩
  simp only [Act.put, List.setIfInBounds_toArray, List.set_cons_succ, List.set_cons_zero]
  clear hq
  (apply HavG.stg_call (by simp only [List.getElem?_toArray, List.getElem?_cons_succ, List.getElem?_cons_zero]; rfl) (by kernel_rfl); (focus (go_simp; try exact ⟨rfl, rfl⟩; done)))
  have hq := through_any Z.drew (HTZ.out.keep ((GK r (kF (lineM m))).drew _)) (n := 1) (b := ⟨10, 5 + m, 0⟩) rfl
  refine hq.mono ?_
  rintro e w4 ⟨rfl, hg4⟩
  have HG4 : Hid ((GK r (kF (lineM m))).G Z w4) := (GK r (kF (lineM m))).trans ((GK r (kF (lineM m))).drew _) hg4
  refine .inl ⟨_, rfl, HG4.out, ?_⟩
  simp only [Act.put, List.setIfInBounds_toArray, List.set_cons_succ, List.set_cons_zero]
  clear hq hg4
  (apply HavG.stg_call (by simp only [List.getElem?_toArray, List.getElem?_cons_succ, List.getElem?_cons_zero]; rfl) (by kernel_rfl); (focus (go_simp; try exact ⟨rfl, rfl⟩; done)))
  refine (upTo_any _ _ w4).mono ?_
  rintro e w5 ⟨rfl, hw5⟩
  obtain ⟨F, hF⟩ : ∃ F, throughC (lineM m) (fun _ => true) 1 ⟨10, 5 + m, 0⟩ = F := ⟨_, rfl⟩
  have HB5 : Hid (Below w4.heap.size w4 w5) := by show Below _ _ _; rw [hw5]; exact ((Below.refl _ _).alloc (Nat.le_refl _) _).alloc (by simp) _
  have HF5 : Hid (Blk w5 w4.heap.size 162 (costA (cI F))) := by rw [hw5, hF]; exact (Blk.new w4 162 _).alloc _
  have HM5 : Hid (Blk w5 (w4.heap.size + 1) 3 #[.int .i64 1]) := by rw [hw5]; exact Blk.new_ (by simp) 3 _
  refine .inl ⟨_, rfl, (GK r (kF (lineM m))).trans HG4.out (GK.below HB5.out), ?_⟩
  simp only [Act.put, List.setIfInBounds_toArray, List.set_cons_succ, List.set_cons_zero]
  simp only [HavG.wpStg, List.filterMap]
  clear hw5
  obtain ⟨L, hL⟩ : ∃ L, upL (cI F) 1 31 = L := ⟨_, rfl⟩
  have HEN : Hid (enoughM m = L.all fun x => decide (x ≤ 2)) := by show _ = _; unfold enoughM; rw [hF, hL]
  have HSEQ := Lib.hid (upTo_seq (fun _ => False) (fun _ _ => False) (cI F) 1 w4.heap.size (w4.heap.size + 1))
  rw [hL] at HSEQ
  rw [hF]
  have HEG := Lib.hid (show ∀ args w, (callFunc 142 args).run Try.prog w = .ok (.enter 142 args) w from enters_of Try.func142 (by kernel_rfl) rfl)
  have HTZ5 : Hid (Turn (fun b => b = r) Z w5) := HG4.out.1.trans (Turn.of_below HB5.out)
  have hz4 := HG4.out.1.size
  have hz5 := HB5.out.size
  have hzr := HTZ.out.map.lt
  have hwl : w.heap.size < W.heap.size := HX5.out.lt
  have hWZ := HTW.out.size
  have hn7 := HRN.out
  have HXX : Hid (Blk w5 w.heap.size 4 #[.bool false]) := (HX5.out.turn HTW.out (by omega)).turn HTZ5.out (by omega)
  have HBX : Hid (Blk w5 bx 75 (clsC ba bc lineA)) := HEZ.out.hx.turn HTZ5.out (by omega)
  have HGO : Hid (∃ arr : Array Value, Blk w5 go 77 arr ∧ arr.size = 9) := ⟨_, (HG2.out.below HBZ.out hgl2).turn HTZ5.out (by omega), rfl⟩
  have HTF : Hid (Turn (fun b => b = go) w w5) := by
    refine ((Turn.of_below HB.out).trans HTW.out).join HTZ5.out (fun z e hz => ?_)
    have e' : z = r := e
    omega
  have hbl := HBX.out.lt
  have hbw : bx ≠ w.heap.size := fun e => by
    have h1 := HBX.out
    have h2 := HXX.out
    rw [e] at h1
    have h3 : w5.heap[w.heap.size]? = _ := h1
    have h4 : w5.heap[w.heap.size]? = _ := h2
    rw [h3] at h4
    injection h4 with h4
    injection h4 with _ h4
    cases h4
  clear hF hL
  go_wp2_with fail
  refine wpIn_wide.1 (wpIn_rangeL_slots (n := 6) rfl HEG.out HSEQ.out keepsRec_none (fun x hx => by obtain ⟨y, _, rfl⟩ := List.mem_map.1 hx; rfl) (fun x => x = w.heap.size) (fun x e => by omega)
    (fun rec => ⟨(HF5.out.alloc _).alloc _, (HM5.out.alloc _).alloc _, fun e => by rcases e with e | e <;> (have e' : _ = _ := e; have := HM5.out.lt; omega)⟩)
    (fun n Xw => Turn (fun x => x = w.heap.size) w5 Xw ∧ Blk Xw w.heap.size 4 #[.bool false] ∧ ∀ (j y : Nat), j < n → L[j]? = some y → y ≤ 2) (fun cd Xw => Turn (fun x => x = w.heap.size) w5 Xw ∧ Blk Xw w.heap.size 4 #[.bool false] ∧ cd = .ret ∧ ∃ y ∈ L, ¬ y ≤ 2)
    (fun n => (OwnT.turn _ (Nat.le_refl _) (fun _ _ _ h => h.elim)).and ((OwnT.blk _ id (fun _ _ h => h.elim)).and (OwnT.pure _ _ _ _))) (fun cd => (OwnT.turn _ (Nat.le_refl _) (fun _ _ _ h => h.elim)).and ((OwnT.blk _ id (fun _ _ h => h.elim)).and (OwnT.pure _ _ _ _)))
    ⟨Turn.refl _ _, HXX.out, fun j y h => by omega⟩
    (fun n (_ : Unit) T => (T.setIfInBounds 40 (.int .i64 ((L[n]?.getD 0 : Nat) : Int))).setIfInBounds 8 (.int .i64 ((L[n]?.getD 0 : Nat) : Int))) (fun n _ Xw => True) (fun _ _ => (OwnT.pure _ _ _ _))
    ?assign ?body ?done ?stop)
  case assign =>
    rintro l n xx Xw K hI hx hK
    rw [List.getElem?_map] at hx
    obtain ⟨y, hy⟩ : ∃ y, L[n]? = some y := by
      cases h : L[n]? with
      | none => rw [h] at hx; cases hx
      | some y => exact ⟨y, rfl⟩
    rw [hy] at hx hK
    obtain rfl : encN y = xx := Option.some.inj hx
    simp only [Option.getD_some] at hK
    simp only [List.setIfInBounds_toArray, List.set_cons_succ, List.set_cons_zero] at hK
    dsimp only [encN]
    have HK := Lib.hid hK
    have HI := Lib.hid hI
    clear hK hx hI
    gi_wp2
    have h := HK.out () _ (Turn.refl _ Xw) HI.out trivial
    simpa using h
  case body =>
    rintro l n xx Bx Xw hl hr ⟨hT, h5, hle⟩ _ hx
    rw [List.getElem?_map] at hx
    obtain ⟨y, hy⟩ : ∃ y, L[n]? = some y := by
      cases h : L[n]? with
      | none => rw [h] at hx; cases hx
      | some y => exact ⟨y, rfl⟩
    have HTX := Lib.hid hT
    have H5 := Lib.hid h5
    have HY := Lib.hid hy
    have HLE := Lib.hid hle
    rw [hy]
    simp only [Option.getD_some]
    simp only [List.setIfInBounds_toArray, List.set_cons_succ, List.set_cons_zero]
    have hx1 := (HBX.out.turn hT hbw).cell 1
    have hxl := (HBX.out.turn hT hbw).lt
    have f5 := h5.frozen 0
    have c5 := h5.cell 0
    have l5 := h5.lt
    simp [clsC, lineA] at hx1
    simp at c5
    clear hT h5 hx hr hy hle
    by_cases hy2 : y ≤ 2
    · have hd : decide ((2 : Int) < y) = false := by simp; omega
      gi_wp2
      refine ⟨Turn.refl _ _, HTX.out, H5.out, fun j z hj hz => ?_⟩
      by_cases e : j = n
      · subst e
        rw [HY.out] at hz
        cases hz
        exact hy2
      · exact HLE.out j z (by omega) hz
    · have hd : decide ((2 : Int) < y) = true := by simp; omega
      gi_wp2
      have hset := Turn.set (S := fun x => x = w.heap.size) (X := Xw) ⟨w.heap.size, 0, none⟩ (.bool false) (fun _ => rfl)
      exact ⟨hset, HTX.out.trans hset, H5.out.set_ 0 _, rfl, y, List.mem_of_getElem? HY.out, hy2⟩
  case done =>
    rintro D Xw hDe ⟨hT, h5, hle⟩ hDD
    have HTX := Lib.hid hT
    have H5 := Lib.hid h5
    have HDD := Lib.hid hDD
    have HDE := Lib.hid hDe
    rw [List.length_map] at hle
    have hval : (L.all fun x => decide (x ≤ 2)) = true := List.all_eq_true.2 fun y hy => by
      obtain ⟨j, hj⟩ := List.getElem?_of_mem hy
      exact decide_eq_true (hle j y (List.getElem?_eq_some_iff.1 hj).1 hj)
    have f5 := h5.frozen 0
    have c5 := h5.cell 0
    have l5 := h5.lt
    simp at c5
    clear hT h5 hDD hDe hle
    go_wp2
    have hset := Turn.set (S := fun x => x = w.heap.size) (X := Xw) ⟨w.heap.size, 0, none⟩ (.bool true) (fun _ => rfl)
    have hk := H5.out.set_ 0 (.bool true)
    obtain ⟨Y, hY⟩ : ∃ Y, Y = Xw.setCell ⟨w.heap.size, 0, none⟩ (.bool true) := ⟨_, rfl⟩
    rw [← hY] at hset hk ⊢
    have hDn : D ≠ w.heap.size := by have := HDE.out; omega
    have hD2 : Y.heap[D]? = some (.deferred (some [])) := (hset.block D (Array.getElem?_eq_some_iff.1 HDD.out).1 hDn).trans HDD.out
    have e0 : (Y.putObj D (.deferred none)).cell? ⟨w.heap.size, 0, none⟩ = some (.bool true) := (World.cell?_of_block (a := ⟨w.heap.size, 0, none⟩) (World.putObj_heap_other (fun e => hDn e.symm))).trans (hk.cell 0)
    have hfin : Turn (fun x => x = w.heap.size ∨ x = D) w5 (Y.putObj D (.deferred none)) := ((HTX.out.mono fun _ e => .inl e).trans (hset.mono fun _ e => .inl e)).trans (Turn.put _ (.inr rfl))
    obtain ⟨arr9, ha1, ha2⟩ := HGO.out
    refine ⟨by simp, .inl ⟨_, _, rfl, run_takeDeferred hD2, ?_⟩⟩
    refine ⟨.bool true, by simp [results, Try.results125, go_sem, e0], by rw [HEN.out, hval], HTF.out.join hfin (fun z e hz => ?_), arr9, ha1.turn hfin (fun e => ?_), ha2⟩
    · have e' : z = w.heap.size ∨ z = D := e
      have := HDE.out
      omega
    · have e' : go = w.heap.size ∨ go = D := e
      have := HDE.out
      omega
  case stop =>
    rintro D cd Xw hDe ⟨hT, h5, rfl, y, hyL, hy2⟩ hDD
    have HTX := Lib.hid hT
    have H5 := Lib.hid h5
    have HDD := Lib.hid hDD
    have HDE := Lib.hid hDe
    have hval : (L.all fun x => decide (x ≤ 2)) = false := by
      cases hb : L.all fun x => decide (x ≤ 2) with
      | false => rfl
      | true => exact absurd (of_decide_eq_true (List.all_eq_true.1 hb y hyL)) hy2
    clear hT h5 hDD hDe hyL hy2
    gi_wp2
    have hset : Turn (fun x => x = w.heap.size) Xw Xw := Turn.refl _ _
    obtain ⟨Y, hY⟩ : ∃ Y, Y = Xw := ⟨_, rfl⟩
    have hk : Blk Y w.heap.size 4 #[.bool false] := by rw [hY]; exact H5.out
    have hset : Turn (fun x => x = w.heap.size) Xw Y := by rw [hY]; exact hset
    rw [← hY]
    have hDn : D ≠ w.heap.size := by have := HDE.out; omega
    have hD2 : Y.heap[D]? = some (.deferred (some [])) := (hset.block D (Array.getElem?_eq_some_iff.1 HDD.out).1 hDn).trans HDD.out
    have e0 : (Y.putObj D (.deferred none)).cell? ⟨w.heap.size, 0, none⟩ = some (.bool false) := (World.cell?_of_block (a := ⟨w.heap.size, 0, none⟩) (World.putObj_heap_other (fun e => hDn e.symm))).trans (hk.cell 0)
    have hfin : Turn (fun x => x = w.heap.size ∨ x = D) w5 (Y.putObj D (.deferred none)) := ((HTX.out.mono fun _ e => .inl e).trans (hset.mono fun _ e => .inl e)).trans (Turn.put _ (.inr rfl))
    obtain ⟨arr9, ha1, ha2⟩ := HGO.out
    refine ⟨by simp, .inl ⟨_, _, rfl, run_takeDeferred hD2, ?_⟩⟩
    refine ⟨.bool false, by simp [results, Try.results125, go_sem, e0], by rw [HEN.out, hval], HTF.out.join hfin (fun z e hz => ?_), arr9, ha1.turn hfin (fun e => ?_), ha2⟩
    · have e' : z = w.heap.size ∨ z = D := e
      have := HDE.out
      omega
    · have e' : go = w.heap.size ∨ go = D := e
      have := HDE.out
      omega
theorem infoB77 : (Try.prog.info? 77).map (fun i => (i.zero, i.size, i.bytes)) = some (some (.agg #[.int .i64 0, .int .i64 0, .int .i64 0]), 3, 24) := by kernel_rfl
theorem make_bl (w : World) : ∃ arr : Array Value, arr.size = 9 ∧ (Instr.makeSlice 73 (.int .i64 3) (.int .i64 3)).run Try.prog w = .ok (.slice (some ⟨w.heap.size, 0, none⟩) 3 3) (w.alloc (.cells arr 77)) := by
  obtain ⟨i, hi, hz0, hz1, hz2⟩ := info_parts infoB77
  have hr := run_make (P := Try.prog) w 73 77 i _ Try.underlying73 hi hz0 .i64 .i64 3 3 (by omega) (by omega) (by rw [hz2]; omega) (by omega)
  simp only [hz1] at hr
  exact ⟨_, by rw [size_madeCells]; rfl, hr⟩
set_option maxRecDepth 100000 in
set_option maxHeartbeats 6400000 in
theorem CMore_A (w : World) (hC : ClsIn w w.heap.size ba lineA) :
    Calls Try.prog 85 #[.agg (clsC ba bc lineA), .int .i64 1] w fun e w' => e = .returned (.tuple #[.int .i64 4, .int .i64 0]) ∧ Below w.heap.size w w' := by
  have HC := Lib.hid hC
  have HCAN : Hid (decide (mistakenC lineA (fun _ => true) ≤ lineA.mis) = true) := by show _ = _; decide +kernel
  have EG := Lib.hid (enters_of Try.func124 (by kernel_rfl) rfl)
  have EG125 := Lib.hid (enters_of Try.func125 (by kernel_rfl) rfl)
  have hmf : ∀ (fn : Fn) (first cap : Array Value) (w : World), (Instr.makeFunc fn first cap).run Try.prog w = .ok (.func fn first cap) w := fun _ _ _ _ => rfl
  obtain ⟨W, hW⟩ : ∃ W, W = ((w.alloc (.cells (clsC ba bc lineA) 75)).alloc (.cells #[.int .i64 1] 3)).alloc (.cells #[.int .i64 0] 30) := ⟨_, rfl⟩
  have HX0 : Hid (Blk W w.heap.size 75 (clsC ba bc lineA)) := by rw [hW]; exact ((Blk.new_ rfl _ _).alloc _).alloc _
  have HX1 : Hid (Blk W (w.heap.size + 1) 3 #[.int .i64 1]) := by rw [hW]; exact (Blk.new_ (by simp) _ _).alloc _
  have HX3 : Hid (Blk W (w.heap.size + 1 + 1) 30 #[.int .i64 0]) := by rw [hW]; exact Blk.new_ (by simp) _ _
  have HB : Hid (Below w.heap.size w W) := by rw [hW]; exact (((Below.refl w.heap.size w).alloc (by simp) _).alloc (by simp) _).alloc (by simp; omega) _
  have hs3 := HX3.out.lt
  obtain ⟨x0, x1, x2, x3, xl⟩ := clsC_cells HX0.out
  clear hC
  go_enter_defers Try.func85, Try.ntmps85
  go_upto_region 2 with fail
  rw [← hW]
  clear hW
  go_wp2_with fail
  refine (openC_any 124 #[.pointer (some ⟨w.heap.size + 1, 0, none⟩)] EG.out (isTab124 (w := W) (n := 1) HX1.out (by show 1 < 3; omega)) (HC.out.grow HB.out)).mono ?_
  rintro e w1 ⟨d, r, rfl, hT, hb1⟩
  have HB1 := Lib.hid hb1
  have HT := Lib.hid hT
  clear hT hb1 x0 x1 x2 x3 xl
  go_wp2_with fail
  refine (everyC_any w1 HT.out).mono ?_
  rintro e w2 ⟨rfl, rfl⟩
  go_wp2_with fail
  have hq := can_any w2 HT.out
  rw [HCAN.out] at hq
  refine hq.mono ?_
  rintro e w3 ⟨rfl, hg⟩
  have HB3 : Hid (Below W.heap.size W w3) := GK.under HB1.out HB1.out.size HT.out.hr hg
  clear hq hg
  go_wp2_with fail
  refine (askC_any true 10 _).mono ?_
  rintro e w4 ⟨h3, rfl⟩
  obtain rfl : e = .returned (.tuple #[]) := h3
  obtain ⟨x0, x1, x2, x3, xl⟩ := clsC_cells (HX0.out.below HB3.out HX0.out.lt)
  simp only [lineA, List.length_cons, List.length_nil, Nat.reduceAdd] at x0
  obtain ⟨arr, ha, hmk⟩ := make_bl w4
  clear x1 x2 x3
  go_upto_region 5 with fail
  obtain ⟨Y, hY⟩ : ∃ y, y = (w4.alloc (.cells arr 77)).alloc (.cells #[.slice (some ⟨w4.heap.size, 0, none⟩) 3 3] 73) := ⟨_, rfl⟩
  have HBY : Hid (Below w4.heap.size w4 Y) := by show Below _ _ _; rw [hY]; exact ((Below.refl _ _).alloc (Nat.le_refl _) _).alloc (by simp) _
  have hgo : Blk Y w4.heap.size 77 arr := by rw [hY]; exact (Blk.new w4 77 _).alloc _
  have hbo : Blk Y (w4.heap.size + 1) 73 #[.slice (some ⟨w4.heap.size, 0, none⟩) 3 3] := by rw [hY]; exact Blk.new_ (by simp) 73 _
  have HWY : Hid (Below W.heap.size W Y) := HB3.out.trans (HBY.out.mono HB3.out.size)
  have hw4 := HB3.out.size
  have hwW := HB.out.size
  have HRD : Hid (RdG blF 3 Y w.heap.size ba lineA.bl) := HC.out.rd.below (HB.out.trans (HWY.out.mono HB.out.size))
  have HEN : Hid (EnIn Y w.heap.size (w4.heap.size + 1) w4.heap.size w.heap.size (w.heap.size + 1) bc ba) := ⟨hbo, ⟨arr, hgo, ha⟩, HX0.out.below HWY.out HX0.out.lt, HX1.out.below HWY.out HX1.out.lt, HRD.out, ⟨by omega, by omega, by omega, by omega⟩⟩
  rw [← hY]
  clear hY hmk x0 xl hgo hbo ha
  go_upto_region 6 with fail
  obtain ⟨gb, off, rfl, hgl, hcl⟩ := HRD.out 1 ⟨10, 5, 0⟩ rfl
  have b0 : Y.cell? ⟨gb, off + 3, none⟩ = some (.int .i64 10) := by have h := hcl 0 _ rfl; simpa using h
  have b1 : Y.cell? ⟨gb, off + 3 + 1, none⟩ = some (.int .i64 5) := by have h := hcl 1 _ rfl; simpa using h
  have HBB : Hid (Y.cell? ⟨gb, off + 3, none⟩ = some (.int .i64 10) ∧ Y.cell? ⟨gb, off + 3 + 1, none⟩ = some (.int .i64 5)) := ⟨b0, b1⟩
  have HGBL : Hid (gb < Y.heap.size) := by have := HWY.out.size; show _ < _; omega
  clear hcl hmf b0 b1
  refine HavG.wp_region_stg (fun wv => Below Y.heap.size Y wv) [(0,false),(1,false),(2,false),(3,false),(4,false),(5,false),(6,false),(7,false),(8,false),(9,false),(10,false),(11,false),(12,false),(13,false),(15,false),(16,false),(14,true)] [17, 18, 19] (fun _ _ => False) (by kernel_rfl) (by kernel_rfl) (fun _ _ _ _ h => h.elim) (Below.drew (Below.refl _ _)) ?_
  (apply HavG.stg_same (by simp only [List.getElem?_toArray, List.getElem?_cons_zero]; rfl) (by kernel_rfl); (focus (intro wv hI; skip; (try go_simp); try rfl; done)); simp only [Act.put, List.setIfInBounds_toArray, List.set_cons_succ, List.set_cons_zero])
  iterate 15 (apply HavG.stg_same (by simp only [List.getElem?_toArray, List.getElem?_cons_succ, List.getElem?_cons_zero]; rfl) (by kernel_rfl); (focus (intro wv hI; obtain ⟨x0, x1, x2, x3, xl⟩ := clsC_cells (HEN.out.hx.below hI HEN.out.hx.lt); have n0 := (HEN.out.hn.below hI HEN.out.hn.lt).cell 0; have nl := (HEN.out.hn.below hI HEN.out.hn.lt).lt; have c0 := (hI.cell (p := ⟨gb, off + 3, none⟩) HGBL.out).trans HBB.out.1; have c1 := (hI.cell (p := ⟨gb, off + 3 + 1, none⟩) HGBL.out).trans HBB.out.2; have gl := Nat.lt_of_lt_of_le HGBL.out hI.size; (simp at n0); (simp only [lineA, List.length_cons, List.length_nil, Nat.reduceAdd] at x0); clear hI x1 x2 x3; (try go_simp); try rfl; done)); simp only [Act.put, List.setIfInBounds_toArray, List.set_cons_succ, List.set_cons_zero])
  (apply HavG.stg_call (by simp only [List.getElem?_toArray, List.getElem?_cons_succ, List.getElem?_cons_zero]; rfl) (by kernel_rfl); (focus (go_simp; try exact ⟨rfl, rfl⟩; done)))
  refine (numbers_any 6 (by omega) _).mono ?_
  rintro e Y2 ⟨g, rfl, hg, hgb, hby⟩
  have HB2 : Hid (Below Y.heap.size Y Y2) := (Below.drew (Below.refl _ _)).trans hby
  refine .inl ⟨_, rfl, HB2.out, ?_⟩
  simp only [Act.put, List.setIfInBounds_toArray, List.set_cons_succ, List.set_cons_zero]
  simp only [HavG.wpStg, List.filterMap]
  have HGB := Lib.hid hgb
  have hga : ∃ a : Array Value, Blk Y2 w4.heap.size 77 a ∧ a.size = 9 := by
    obtain ⟨a, h1, h2⟩ := HEN.out.hg
    exact ⟨a, h1.below HB2.out h1.lt, h2⟩
  have HE2 := Lib.hid (HEN.out.turn (Turn.of_below HB2.out) hga)
  have HGA := Lib.hid hga
  have HGN : Hid (g ≠ w4.heap.size) := by
    have h1 := HBY.out.size
    have h2 : Y.drew.heap.size ≤ g := hg
    have h3 : w4.heap.size < Y.heap.size := by obtain ⟨a, h, _⟩ := HEN.out.hg; exact h.lt
    have h4 : Y.drew.heap.size = Y.heap.size := rfl
    show ¬ _
    omega
  clear hga hgb hby hg
  go_wp2_with fail
  refine (firstC_any (F := 125) (cap := #[.pointer (some ⟨w4.heap.size + 1, 0, none⟩), .pointer (some ⟨w.heap.size, 0, none⟩), .pointer (some ⟨w.heap.size + 1, 0, none⟩)]) (n := 6) (J := fun x => Turn (fun b => b = w4.heap.size) Y2 x ∧ ∃ a : Array Value, Blk x w4.heap.size 77 a ∧ a.size = 9) (p := enoughM) (by omega) EG125.out
    (fun x y hx hb => ⟨hx.1.trans (Turn.of_below hb), by obtain ⟨a, h1, h2⟩ := hx.2; exact ⟨a, h1.below hb h1.lt, h2⟩⟩) (fun x hx => HGB.out.turn hx.1 HGN.out)
    (fun k hk x hx => (enough_any (by omega) x (HE2.out.turn hx.1 hx.2)).mono (fun e y ⟨h1, h2, h3⟩ => ⟨h1, hx.1.trans h2, h3⟩)) Y2 ⟨Turn.refl _ _, HGA.out⟩).mono ?_
  rintro e w5 ⟨hres, hj, -⟩
  have HB5 : Hid (Below W.heap.size W w5) := (HWY.out.trans (HB2.out.mono HWY.out.size)).trans (hj.below (by have h1 := HWY.out.size; have h2 := HB2.out.size; omega) (fun z e => by have e' : z = w4.heap.size := e; omega))
  have HY3 := Lib.hid (HX3.out.below HB5.out HX3.out.lt)
  have HBW : Hid (Below w.heap.size w w5) := HB.out.trans (HB5.out.mono HB.out.size)
  obtain ⟨h4, hlow⟩ := enough4
  rcases hres with ⟨k, rfl, hk, hp, hno⟩ | ⟨rfl, hno⟩
  · obtain rfl : k = 4 := by
      rcases Nat.lt_trichotomy k 4 with h | h | h
      · rw [hlow k h] at hp; cases hp
      · exact h
      · rw [hno 4 h] at h4; cases h4
    have f3 := HY3.out.frozen 0
    have y3 := HY3.out.cell 0
    have yl := HY3.out.lt
    simp at y3
    clear hp hno hj h4 hlow
    go_wp2
    have g0 := (HY3.out.set_ 0 (.int .i64 0)).cell 0
    simp at g0
    exact cls_returns (b := w.heap.size + 1 + 1) rfl (v := .tuple #[.int .i64 4, .int .i64 0]) (by simp [results, Try.results85, go_sem, g0]) ⟨rfl, setCell_below HBW.out (by omega) _ _⟩
  · rw [hno 4 (by omega)] at h4
    cases h4
end
end Go.Proofs.Ytbfjebglaimcmaa
