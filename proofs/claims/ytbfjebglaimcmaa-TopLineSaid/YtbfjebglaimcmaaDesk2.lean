/- The walk of weight; conditions: the shed is read, its press is valid, the set is one of fleeces. The walks of alike, wrong, told, and of both questions (sure, may); conditions: the shed is read, its press is valid, the set is one of fleeces. Conversions between whole numbers, as a drawn region meets them; condition: the number fits. The walk of wrong; conditions: the shed is read, its press is valid. -/
import Derived.Test.YtbfjebglaimcmaaDesk1
import Derived.Test.YtbfjebglaimcmaaHavMore
import Derived.Test.YtbfjebglaimcmaaCore
import Derived.IntWalk
namespace Go.Proofs.Ytbfjebglaimcmaa
open Go.RowKit Go.Hav
/-- The parts of a set, of the first k bales that were weighed. -/
def partL (p : PressD) (s k : Nat) : List Sp := (List.range k).map fun i => p.part s i
theorem partL_succ (p : PressD) (s k : Nat) : partL p s (k + 1) = partL p s k ++ [p.part s k] := by simp [partL, List.range_succ]
theorem partL_len (p : PressD) (s k : Nat) : (partL p s k).length = k := by simp [partL]
theorem partL_sum (p : PressD) (s : Nat) : ∀ k, sumK (partL p s k) (partL p s k).length = p.wSum s k := by
  intro k
  induction k with
  | zero => rfl
  | succ k ih => rw [partL_succ, sumK_snoc, ih]; rfl
theorem weight_sum (p : PressD) (s : Nat) : sumK (partL p s p.weighed.length ++ [p.bare (p.rest s p.weighed.length)]) (partL p s p.weighed.length ++ [p.bare (p.rest s p.weighed.length)]).length = p.weight s := by
  rw [sumK_snoc, partL_sum]; rfl
theorem mid_mono {m m' : Int} {s : Sp} (h : midS m s) (hm : m ≤ m') : midS m' s := by unfold midS at *; omega
theorem bare_mid {p : PressD} (h : p.ok = true) (s : Nat) : midS 1000000 (p.bare s) := by have := PressD.bare_bd h s; unfold midS; omega
theorem ba_of {p : PressD} {k : Nat} {c : Ba} (h : p.weighed[k]? = some c) : p.ba k = c := by simp [PressD.ba, h]
section
variable {B d : Nat} {low top bales : Int} {fa wa : Option Addr} {fl fc wl wc : Nat} {p : PressD}
set_option maxRecDepth 100000 in
set_option maxHeartbeats 6400000 in
theorem weight_any (hv : p.ok = true) (s : Nat) (hs : s < 2 ^ p.n) (w : World) (hD : ShedIn w B d fa fl fc low top bales wa wl wc p) :
    Calls Try.prog 59 #[(.pointer (some ⟨d, 0, none⟩)), .int .u64 s] w fun e w' => e = .returned (spV (p.weight s)) ∧ Below w.heap.size w w' := by
  have HD := Lib.hid hD
  have HV := Lib.hid hv
  have HSN := Lib.hid hs
  have HN := Lib.hid (PressD.n_pow hv)
  have p0 := hD.c4
  have hdw : d < w.heap.size := Nat.lt_of_lt_of_le hD.hd hD.hB
  have hn := (PressD.ok_head hv).2.2.2.2.2.2
  have hwl : wl ≤ 4 := by have := hD.rd.ewl; omega
  have HW := Lib.hid hD.rd.ewl
  obtain ⟨i0, hi, hz0, hz1, hz2⟩ := info_parts Try.infoE87
  have HI := Lib.hid hi
  have HI0 := Lib.hid hz0
  have HI1 := Lib.hid hz1
  have HI2 := Lib.hid hz2
  clear hv hD hn hi hz0 hz1 hz2 hs
  go_enter Try.func59, Try.ntmps59
  go_wp2
  go_loopw [1, 5, 15] (fun r l i wr => ∃ k : Nat, k ≤ wl ∧ i = .int .i64 k ∧ r = .int .u64 (p.rest s k) ∧ wr.ownsRow (w.heap.size + 1) 87 2 l (partL p s k).length ((partL p s k).flatMap spF) ∧
      Blk wr w.heap.size 87 #[.int .i64 0, .int .i64 0] ∧ Below w.heap.size w wr) (fun _ _ i _ => wl - (intOf i).toNat)
  case atStart => exact ⟨0, Nat.zero_le _, rfl, rfl, World.ownsRow_nil _ _ _ _, Blk.new_ (by simp) _ _, (Below.refl w.heap.size w).alloc (by simp) _⟩
  case round =>
    obtain ⟨k, hk, rfl, rfl, hown, hblk, hbw⟩ := hrel
    have HO := Lib.hid hown
    have HB := Lib.hid hbw
    have HK := Lib.hid hblk
    have hlt0 := hblk.lt
    have HRL := Lib.hid (PressD.rest_lt (p := p) HSN.out k)
    obtain ⟨R, HR⟩ : ∃ R, Hid (p.rest s k = R) := ⟨_, rfl⟩
    rw [HR.out] at HRL ⊢
    clear hown hblk hbw
    by_cases hlt : k < wl
    · obtain ⟨c, hc⟩ : ∃ c, p.weighed[k]? = some c := ⟨p.weighed[k]'(by have := HW.out; omega), by simp⟩
      have hkl : k < p.weighed.length := by have := HW.out; omega
      have hok := PressD.ok_ba HV.out hkl
      have hand := PressD.rest_and HV.out s hkl
      have hdif := PressD.rest_dif HV.out s hkl
      have HRN : Hid (p.rest s (k + 1) = dif R (p.bs k)) := by show _ = _; rw [PressD.rest, HR.out]
      have HL : Hid (partL p s (k + 1) = partL p s k ++ [knownS (p.bare (s &&& p.bs k)) (p.bare (dif (p.bs k) s)) c.w]) := by show _ = _; rw [partL_succ, PressD.part, ba_of hc]
      rw [HR.out] at hand hdif
      rw [ba_of hc] at hok
      obtain ⟨q0, q1, q2, q3, q4, q5, q6⟩ := hok
      have hN := HN.out
      obtain ⟨S, HS⟩ : ∃ S, Hid (p.bs k = S) := ⟨_, rfl⟩
      rw [HS.out] at q0 q1 q2 hand hdif HL HRN
      have hRL := HRL.out
      have HA1 : Hid (bits BinOp.and IntKind.u64 (R : Int) (S : Int) = ((s &&& S : Nat) : Int)) := by show _ = _; rw [and_u64 R S (by omega) (by omega), hand]
      have HA2 : Hid (bits BinOp.andNot IntKind.u64 (S : Int) (R : Int) = ((dif S s : Nat) : Int)) := by show _ = _; rw [not_u64 S R (by omega) (by omega), hdif]
      have HA3 : Hid (bits BinOp.andNot IntKind.u64 (R : Int) (S : Int) = ((dif R S : Nat) : Int)) := not_u64 R S (by omega) (by omega)
      have hS1 : s &&& S < 1024 := Nat.lt_of_le_of_lt Nat.and_le_right (by omega)
      have hS2 : dif S s < 1024 := Nat.lt_of_le_of_lt (dif_le _ _) (by omega)
      have HM1 := Lib.hid (mid_mono (bare_mid HV.out (dif S s)) (show (1000000 : Int) ≤ 1000000000 by omega))
      obtain ⟨b, off, rfl, hbl, H0, H1, H2⟩ := rd_ba ((HD.out.grow HB.out).rd.hwl) k c hc
      have hbw : b < wr.heap.size := Nat.lt_of_lt_of_le hbl (HD.out.grow HB.out).hB
      obtain ⟨cs, ⟨c0, c1⟩⟩ := c
      simp only at H0 H1 H2 HL q0 q4 q5 q6
      subst q0
      have hS0 : (0 : Int) ≤ S := by omega
      have hS9 : (S : Int) ≤ 1024 := by omega
      have HCW : Hid (midS 1000000000 ⟨c0, c1⟩) := by show midS _ _; unfold midS; simp only; omega
      have hdr : d < wr.heap.size := by have := (HD.out.grow HB.out); exact Nat.lt_of_lt_of_le this.hd this.hB
      clear hc hand hdif hkl hRL hN
      go_wp2_with fail
      refine wp_region_havoc [(0,false),(1,false),(2,false),(3,false),(4,false),(5,false),(6,false),(7,false),(8,false),(9,false),(10,false),(11,false),(12,false),(13,false),(14,true)] [15,16] (fun _ _ => False) (by kernel_rfl) (by kernel_rfl) (fun _ _ _ _ h => h.elim) ?_
      iterate 4 (apply hav_same (by simp only [List.getElem?_toArray, List.getElem?_cons_succ, List.getElem?_cons_zero]; rfl) (by kernel_rfl); (focus (intro wv hgv _; have hcv : ∀ b o, b < _ → wv.cell? ⟨b, o, none⟩ = _ := fun b o hb => Below.cell hgv (p := ⟨b, o, none⟩) hb; (try go_simp); try rfl; done)); simp only [Act.put, List.setIfInBounds_toArray, List.set_cons_succ, List.set_cons_zero])
      (apply hav_same (by simp only [List.getElem?_toArray, List.getElem?_cons_succ, List.getElem?_cons_zero]; rfl) (by kernel_rfl); (focus (intro wv hgv _; have hcv : ∀ b o, b < _ → wv.cell? ⟨b, o, none⟩ = _ := fun b o hb => Below.cell hgv (p := ⟨b, o, none⟩) hb; have hA1 := HA1.out; (try go_simp); try rfl; done)); simp only [Act.put, List.setIfInBounds_toArray, List.set_cons_succ, List.set_cons_zero])
      (apply hav_call (by simp only [List.getElem?_toArray, List.getElem?_cons_succ, List.getElem?_cons_zero]; rfl) (by kernel_rfl); (focus (intro wv; go_simp; try exact ⟨rfl, rfl⟩; done)); (focus (intro wv hgv _; exact bare_any HV.out (s &&& S) hS1 _ (by exact HD.out.grow (HB.out.trans (((Below.refl wr.heap.size wr).alloc (Nat.le_refl _) _).trans (Below.mono hgv (by simp)) |>.mono (by omega)))); done)); simp only [Act.put, List.setIfInBounds_toArray, List.set_cons_succ, List.set_cons_zero])
      iterate 3 (apply hav_same (by simp only [List.getElem?_toArray, List.getElem?_cons_succ, List.getElem?_cons_zero]; rfl) (by kernel_rfl); (focus (intro wv hgv _; have hcv : ∀ b o, b < _ → wv.cell? ⟨b, o, none⟩ = _ := fun b o hb => Below.cell hgv (p := ⟨b, o, none⟩) hb; (try go_simp); try rfl; done)); simp only [Act.put, List.setIfInBounds_toArray, List.set_cons_succ, List.set_cons_zero])
      (apply hav_same (by simp only [List.getElem?_toArray, List.getElem?_cons_succ, List.getElem?_cons_zero]; rfl) (by kernel_rfl); (focus (intro wv hgv _; have hcv : ∀ b o, b < _ → wv.cell? ⟨b, o, none⟩ = _ := fun b o hb => Below.cell hgv (p := ⟨b, o, none⟩) hb; have hA2 := HA2.out; (try go_simp); try rfl; done)); simp only [Act.put, List.setIfInBounds_toArray, List.set_cons_succ, List.set_cons_zero])
      (apply hav_call (by simp only [List.getElem?_toArray, List.getElem?_cons_succ, List.getElem?_cons_zero]; rfl) (by kernel_rfl); (focus (intro wv; go_simp; try exact ⟨rfl, rfl⟩; done)); (focus (intro wv hgv _; exact bare_any HV.out (dif S s) hS2 _ (by exact HD.out.grow (HB.out.trans (((Below.refl wr.heap.size wr).alloc (Nat.le_refl _) _).trans (Below.mono hgv (by simp)) |>.mono (by omega)))); done)); simp only [Act.put, List.setIfInBounds_toArray, List.set_cons_succ, List.set_cons_zero])
      iterate 2 (apply hav_same (by simp only [List.getElem?_toArray, List.getElem?_cons_succ, List.getElem?_cons_zero]; rfl) (by kernel_rfl); (focus (intro wv hgv _; have hcv : ∀ b o, b < _ → wv.cell? ⟨b, o, none⟩ = _ := fun b o hb => Below.cell hgv (p := ⟨b, o, none⟩) hb; (try go_simp); try rfl; done)); simp only [Act.put, List.setIfInBounds_toArray, List.set_cons_succ, List.set_cons_zero])
      (apply hav_call (by simp only [List.getElem?_toArray, List.getElem?_cons_succ, List.getElem?_cons_zero]; rfl) (by kernel_rfl); (focus (intro wv; go_simp; try exact ⟨rfl, rfl⟩; done)); (focus (intro wv hgv _; exact known_any (p.bare (s &&& S)) (p.bare (dif S s)) ⟨c0, c1⟩ HM1.out HCW.out _; done)); simp only [Act.put, List.setIfInBounds_toArray, List.set_cons_succ, List.set_cons_zero])
      obtain ⟨K, HKK⟩ : ∃ K, Hid (knownS (p.bare (s &&& S)) (p.bare (dif S s)) ⟨c0, c1⟩ = K) := ⟨_, rfl⟩
      rw [HKK.out] at HL ⊢
      unfold spV
      (apply hav_new (fun g => .slice (some ⟨g, 0, none⟩) 1 1) (.cells #[.int .i64 K.lo, .int .i64 K.hi] 87) (by simp only [List.getElem?_toArray, List.getElem?_cons_succ, List.getElem?_cons_zero]; rfl) (by kernel_rfl); (focus (intro wv hgv _; have hcv : ∀ b o, b < _ → wv.cell? ⟨b, o, none⟩ = _ := fun b o hb => Below.cell hgv (p := ⟨b, o, none⟩) hb; (try go_simp); try rfl; done)); intro v; simp only [Act.put, List.setIfInBounds_toArray, List.set_cons_succ, List.set_cons_zero])
      refine hav_end (fun w1 hgw1 hF => ?_); simp only [List.filterMap]; have hcw1 : ∀ b o, b < _ → w1.cell? ⟨b, o, none⟩ = _ := fun b o hb => Below.cell hgw1 (p := ⟨b, o, none⟩) hb; have hfw1 : ∀ b o, b < _ → w1.frozen? ⟨b, o, none⟩ = _ := fun b o hb => Below.frozen hgw1 (p := ⟨b, o, none⟩) hb; have hzw1 := Below.size hgw1; (try simp at hzw1)
      obtain ⟨_, g, rfl, hg, hgb⟩ := hF
      have HGB : Hid (Blk w1 g 87 #[.int .i64 K.lo, .int .i64 K.hi]) := hgb
      have HG1 : Hid (Below wr.heap.size wr w1) := ((Below.refl wr.heap.size wr).alloc (Nat.le_refl _) _).trans (hgw1.mono (by simp))
      have HOWN := Lib.hid (own_below HO.out HG1.out)
      clear hgb hgw1 hcw1 hfw1
      refine wpList_append_own _ rfl _ _ 133 rfl (w.heap.size + 1) 87 i0 _ 2 16 Try.underlying133 HI.out HI0.out HI1.out HI2.out rfl (by decide) _ _ _ rfl HOWN.out ⟨g, 0, none⟩ 1 1 (spF K) rfl rfl (news_block HGB.out) (by simp [spF, Value.oneCell']) (by rw [partL_len]; unfold maxLen; omega) (by rw [partL_len]; omega) (by have := HG1.out.size; omega) ?_
      intro v' w2 hown2 hgrow2 _
      have HO2 := Lib.hid hown2
      have HG2 : Hid (Below w.heap.size w w2) := Below.grown (HB.out.trans (HG1.out.mono (by omega))) hgrow2 (by have := HG1.out.size; omega) (fun k' hk' => by have := (HOWN.out.lt k' hk').1; omega)
      have HK2 : Hid (Blk w2 w.heap.size 87 #[.int .i64 0, .int .i64 0]) := (HK.out.below HG1.out (by omega)).grown hgrow2 (by intro e; have := (HOWN.out.lt _ e.symm).1; omega)
      have hA3 := HA3.out
      clear hown2 hgrow2
      go_wp2
      go_roundw
      case rel => exact ⟨k + 1, by omega, by go_num, by rw [HRN.out], by rw [HL.out, List.length_append, List.flatMap_append, List.flatMap_singleton]; exact HO2.out, HK2.out, HG2.out⟩
      case measure => simp [intOf]; omega
    · obtain rfl : wl = k := by omega
      have HRB : Hid (R < 1024) := by have := HRL.out; have := HN.out; show R < 1024; omega
      have hdr : d < wr.heap.size := by have := (HD.out.grow HB.out); exact Nat.lt_of_lt_of_le this.hd this.hB
      have HF : Hid (p.weight s = sumK (partL p s wl ++ [p.bare R]) (partL p s wl ++ [p.bare R]).length) := by
        show _ = _; rw [← weight_sum, HW.out, HR.out]
      go_wp2_with fail
      refine (bare_any HV.out R HRB.out _ (by exact HD.out.grow HB.out)).mono ?_
      have HBM := Lib.hid (bare_mid HV.out R)
      obtain ⟨K, HKK⟩ : ∃ K, Hid (p.bare R = K) := ⟨_, rfl⟩
      rw [HKK.out] at HF HBM ⊢
      unfold spV
      rintro e w1 ⟨rfl, hbw1⟩; obtain ⟨hcw1, hfw1⟩ := bcell hbw1; have hzw1 := hbw1.size; (try simp at hzw1)
      have HG1 := Lib.hid hbw1
      have HOWN := Lib.hid ((own_below HO.out hbw1).alloc (.cells #[.int .i64 K.lo, .int .i64 K.hi] 87))
      clear hbw1 hcw1 hfw1
      go_wp2_with ((at_builtin; refine wpList_append_own _ rfl _ _ 133 rfl (w.heap.size + 1) 87 i0 _ 2 16 Try.underlying133 HI.out HI0.out HI1.out HI2.out rfl (by decide) _ _ _ rfl HOWN.out ⟨w1.heap.size, 0, none⟩ 1 1 (spF K) rfl rfl (news_block (Blk.new_ rfl 87 _)) (by simp [spF, Value.oneCell']) (by rw [partL_len]; unfold maxLen; omega) (by rw [partL_len]; omega) (by simp; omega) ?_))
      intro v' w2 hown2 hgrow2 _
      have HG2 : Hid (Below w.heap.size w w2) := Below.grown ((HB.out.trans (HG1.out.mono (by omega))).alloc (by omega) _) hgrow2 (by simp; omega) (fun k' hk' => by have := (HOWN.out.lt k' hk').1; omega)
      have HK2 : Hid (Blk w2 w.heap.size 87 #[.int .i64 0, .int .i64 0]) := ((HK.out.below HG1.out (by omega)).alloc _).grown hgrow2 (by intro e; have := (HOWN.out.lt _ e.symm).1; omega)
      have hown3 : w2.ownsRow (w.heap.size + 1) 87 2 v' (partL p s wl ++ [K]).length ((partL p s wl ++ [K]).flatMap spF) := by
        rw [List.length_append, List.flatMap_append, List.flatMap_singleton]; exact hown2
      have HLEN : Hid ((partL p s wl ++ [K]).length = wl + 1) := by show _ = _; rw [List.length_append, partL_len]; rfl
      obtain ⟨A, cp, hv, hrs, _⟩ := own_rd spF_len (by decide) hown3
      rw [HLEN.out] at hv HF
      subst hv
      have HRS := Lib.hid hrs
      clear hown2 hgrow2 hown3 hrs
      go_wp2_with fail
      refine (sum_any A (wl + 1) cp (by omega) (partL p s wl ++ [K]) HLEN.out (fun x hx => ?_) _ (by exact HRS.out)).mono ?_
      · rcases List.mem_append.1 hx with hx | hx
        · obtain ⟨i, hi, rfl⟩ := List.mem_map.1 hx
          exact mid_mono (PressD.part_bd HV.out s (by rw [HW.out]; exact List.mem_range.1 hi)) (by omega)
        · rw [List.mem_singleton.1 hx]; exact HBM.out
      obtain ⟨c, HC⟩ : ∃ c, Hid (p.weight s = c) := ⟨_, rfl⟩
      rw [← HF.out, HC.out]
      unfold spV
      rintro e w3 ⟨rfl, hbw3⟩; obtain ⟨hcw3, hfw3⟩ := bcell hbw3; have hzw3 := hbw3.size; (try simp at hzw3)
      have r0 : w3.cell? ⟨w.heap.size, 0, none⟩ = some (.int .i64 0) := (HK2.out.below hbw3 HK2.out.lt).cell 0
      have r1 : w3.cell? ⟨w.heap.size, 1, none⟩ = some (.int .i64 0) := (HK2.out.below hbw3 HK2.out.lt).cell 1
      have f0 : w3.frozen? ⟨w.heap.size, 0, none⟩ = false := (HK2.out.below hbw3 HK2.out.lt).frozen 0
      have f1 : w3.frozen? ⟨w.heap.size, 1, none⟩ = false := (HK2.out.below hbw3 HK2.out.lt).frozen 1
      go_wp2
      have e0 := (((HK2.out.below hbw3 HK2.out.lt).set_ 0 (.int .i64 c.lo)).set_ 1 (.int .i64 c.hi)).cell 0
      have e1 := (((HK2.out.below hbw3 HK2.out.lt).set_ 0 (.int .i64 c.lo)).set_ 1 (.int .i64 c.hi)).cell 1
      refine bodyPost_ret (v := spV c) (by simp [results, Try.results59, go_sem, e0, e1, spV]) rfl ⟨by rw [HC.out], ?_⟩
      exact ((HG2.out.trans (hbw3.mono HG2.out.size)).setCell (by simp) _).setCell (by simp) _
end
end Go.Proofs.Ytbfjebglaimcmaa
namespace Go.Proofs.Ytbfjebglaimcmaa
open Go.RowKit Go.Hav
/-- The line of the first fleece of a set, of the first k; -1: none is of it. -/
def lineF (p : PressD) (s : Nat) : Nat → Int
  | 0 => -1
  | k + 1 => if s.testBit k = true then (if lineF p s k < 0 then p.line k else lineF p s k) else lineF p s k
theorem lineF_neg {p : PressD} (h : p.ok = true) (s : Nat) : ∀ {k}, k ≤ p.n → -1 ≤ lineF p s k ∧ lineF p s k ≤ 2 ∧ (lineF p s k < 0 ↔ ∀ i, i < k → s.testBit i = false) := by
  intro k
  induction k with
  | zero => intro _; simp [lineF]
  | succ k ih =>
    intro hk
    obtain ⟨h1, h2, h3⟩ := ih (by omega)
    have hl := PressD.ok_fl h (i := k) (by omega)
    rw [lineF]
    by_cases hb : s.testBit k = true
    · rw [if_pos hb]
      refine ⟨by split <;> omega, by split <;> omega, ⟨fun h4 => ?_, fun h4 => ?_⟩⟩
      · split at h4 <;> omega
      · have := h4 k (by omega); rw [hb] at this; cases this
    · rw [if_neg hb]
      refine ⟨h1, h2, h3.trans ⟨fun h4 i hi => ?_, fun h4 i hi => h4 i (by omega)⟩⟩
      by_cases e : i = k
      · subst e; simpa using hb
      · exact h4 i (by omega)
theorem alike_iff {p : PressD} (h : p.ok = true) (s : Nat) (hs : ∀ i, i < p.n → s.testBit i = true → p.line i = lineF p s p.n) : p.alike s = decide (0 ≤ lineF p s p.n) := by
  have h3 := (lineF_neg h s (Nat.le_refl p.n)).2.2
  have h5 : (List.range p.n).all (fun i => (List.range p.n).all fun j => !s.testBit i || !s.testBit j || decide (p.line i = p.line j)) = true := by
    simp only [List.all_eq_true, List.mem_range, Bool.or_eq_true, Bool.not_eq_true', decide_eq_true_eq]
    intro i hi j hj
    by_cases hb : s.testBit i = true
    · by_cases hc : s.testBit j = true
      · right; rw [hs i hi hb, hs j hj hc]
      · left; right; simpa using hc
    · left; left; simpa using hb
  rw [PressD.alike, h5, Bool.and_true, Bool.eq_iff_iff, decide_eq_true_eq]
  simp only [List.any_eq_true, List.mem_range]
  constructor
  · rintro ⟨i, hi, hb⟩
    rcases Int.lt_or_le (lineF p s p.n) 0 with h6 | h6
    · have := (h3.1 h6) i hi; rw [hb] at this; cases this
    · exact h6
  · intro h6
    apply Classical.byContradiction
    intro h7
    have : lineF p s p.n < 0 := h3.2 fun i hi => by
      cases hb : s.testBit i
      · rfl
      · exact absurd ⟨i, hi, hb⟩ h7
    omega
theorem lineF_at {p : PressD} {s : Nat} : ∀ {k : Nat}, 0 ≤ lineF p s k → ∃ i, i < k ∧ s.testBit i = true ∧ p.line i = lineF p s k := by
  intro k
  induction k with
  | zero => intro h; simp [lineF] at h
  | succ k ih =>
    intro h
    rw [lineF] at h ⊢
    by_cases hb : s.testBit k = true
    · rw [if_pos hb] at h ⊢
      by_cases hn : lineF p s k < 0
      · rw [if_pos hn]; exact ⟨k, by omega, hb, rfl⟩
      · rw [if_neg hn]
        obtain ⟨i, h1, h2, h3⟩ := ih (by omega)
        exact ⟨i, by omega, h2, h3⟩
    · rw [if_neg hb] at h ⊢
      obtain ⟨i, h1, h2, h3⟩ := ih h
      exact ⟨i, by omega, h2, h3⟩
theorem alike_no {p : PressD} {s i j : Nat} (hi : i < p.n) (hj : j < p.n) (hb : s.testBit i = true) (hc : s.testBit j = true) (hne : p.line i ≠ p.line j) : p.alike s = false := by
  cases h : p.alike s
  · rfl
  · simp only [PressD.alike, Bool.and_eq_true, List.all_eq_true, List.mem_range, Bool.or_eq_true, Bool.not_eq_true', decide_eq_true_eq] at h
    rcases h.2 i hi j hj with (h1 | h1) | h1
    · rw [hb] at h1; cases h1
    · rw [hc] at h1; cases h1
    · exact absurd h1 hne
section
variable {B d : Nat} {low top bales : Int} {fa wa : Option Addr} {fl fc wl wc : Nat} {p : PressD}
set_option maxRecDepth 100000 in
set_option maxHeartbeats 1600000 in
theorem alike_any (hv : p.ok = true) (s : Nat) (hs : s < 1024) (w : World) (hD : ShedIn w B d fa fl fc low top bales wa wl wc p) :
    Calls Try.prog 112 #[(.pointer (some ⟨d, 0, none⟩)), .int .u64 s] w fun e w' => e = .returned (.bool (p.alike s)) ∧ Below w.heap.size w w' := by
  have HD := Lib.hid hD
  have HV := Lib.hid hv
  have p0 := hD.c0
  have hdw : d < w.heap.size := Nat.lt_of_lt_of_le hD.hd hD.hB
  have hn := (PressD.ok_head hv).1
  have HE : Hid (p.n = fl) := hD.rd.efl
  have hfl : fl ≤ 10 := by have := HE.out; omega
  clear hv hD hn
  go_enter Try.func112, Try.ntmps112
  go_wp2
  go_loopw [5, 14] (fun l i wr => ∃ (k : Nat) (L : Int), k ≤ fl ∧ i = .int .i64 k ∧ l = .int .i64 L ∧ Hid (lineF p s k = L) ∧ -1 ≤ L ∧ L ≤ 2 ∧ Hid (∀ i, i < k → s.testBit i = true → p.line i = L) ∧ Below w.heap.size w wr) (fun _ i _ => fl - (intOf i).toNat)
  case atStart => exact ⟨0, -1, Nat.zero_le _, rfl, rfl, rfl, by omega, by omega, fun i hi => by omega, Below.refl _ _⟩
  case round =>
    obtain ⟨k, L, hk, rfl, rfl, HL, hl1, hl2, HS, hbw⟩ := hrel
    have HB := Lib.hid hbw
    have hsz := hbw.size
    clear hbw
    by_cases hlt : k < fl
    · obtain ⟨c, hc⟩ : ∃ c, p.fl[k]? = some c := ⟨p.fl[k]'(by have := HE.out; unfold PressD.n at this; omega), by simp⟩
      have HC := Lib.hid (fw_of hc)
      have hcl : 0 ≤ c.line ∧ c.line ≤ 2 := by
        have := PressD.ok_fl HV.out (i := k) (by rw [HE.out]; exact hlt)
        rw [HC.out.2] at this; omega
      obtain ⟨hcl0, hcl1⟩ := hcl
      obtain ⟨b, off, rfl, hbl, H0, H1, H2⟩ := rd_fl ((HD.out.grow HB.out).rd.hfl) k c hc
      have hbw : b < wr.heap.size := Nat.lt_of_lt_of_le hbl (HD.out.grow HB.out).hB
      have htb := tb0_u64 s k (by omega)
      obtain ⟨⟨c0, c1⟩, cl⟩ := c
      simp only at H0 H1 H2 hcl0 hcl1 HC
      clear hc
      cases hbit : s.testBit k
      · have HL2 : Hid (lineF p s (k + 1) = L) := by show _ = _; rw [lineF, if_neg (by rw [hbit]; simp), HL.out]
        have HS2 : Hid (∀ i, i < k + 1 → s.testBit i = true → p.line i = L) := fun i hi hb => by
          by_cases e : i = k
          · subst e; rw [hbit] at hb; cases hb
          · exact HS.out i (by omega) hb
        rw [hbit] at htb
        simp only [Bool.not_false] at htb
        clear hbit
        go_wp2
        go_roundw
        case rel => exact ⟨k + 1, L, by omega, by go_num, rfl, HL2, by omega, by omega, HS2, HB.out.alloc (by omega) _⟩
        case measure => simp [intOf]; omega
      · rw [hbit] at htb
        simp only [Bool.not_true] at htb
        by_cases hL : L < 0
        · have HL2 : Hid (lineF p s (k + 1) = cl) := by show _ = _; rw [lineF, if_pos hbit, HL.out, if_pos hL, HC.out.2]
          have HS2 : Hid (∀ i, i < k + 1 → s.testBit i = true → p.line i = cl) := fun i hi hb => by
            by_cases e : i = k
            · subst e; exact HC.out.2
            · have h0 := (lineF_neg HV.out s (k := k) (by rw [HE.out]; omega)).2.2.1 (by rw [HL.out]; exact hL) i (by omega)
              rw [hb] at h0; cases h0
          clear hbit
          go_wp2
          go_roundw
          case rel => exact ⟨k + 1, cl, by omega, by go_num, rfl, HL2, by omega, by omega, HS2, HB.out.alloc (by omega) _⟩
          case measure => simp [intOf]; omega
        · by_cases hne : L = cl
          · have HL2 : Hid (lineF p s (k + 1) = L) := by show _ = _; rw [lineF, if_pos hbit, HL.out, if_neg hL]
            have HS2 : Hid (∀ i, i < k + 1 → s.testBit i = true → p.line i = L) := fun i hi hb => by
              by_cases e : i = k
              · subst e; rw [hne]; exact HC.out.2
              · exact HS.out i (by omega) hb
            have hbn : (L != cl) = false := by simp [hne]
            clear hbit hne
            go_wp2
            go_roundw
            case rel => exact ⟨k + 1, L, by omega, by go_num, rfl, HL2, by omega, by omega, HS2, HB.out.alloc (by omega) _⟩
            case measure => simp [intOf]; omega
          · have HF : Hid (p.alike s = false) := by
              obtain ⟨i, h1, h2, h3⟩ := lineF_at (p := p) (s := s) (k := k) (by rw [HL.out]; omega)
              exact alike_no (by have := HE.out; omega) (by rw [HE.out]; exact hlt) h2 hbit (by rw [h3, HL.out, HC.out.2]; exact hne)
            have hbn : (L != cl) = true := by simp [hne]
            clear hbit hne
            go_wp2
            go_ret
            exact ⟨ret_bool HF.out.symm, HB.out.alloc (by omega) _⟩
    · obtain rfl : fl = k := by omega
      have HF : Hid (p.alike s = decide (0 ≤ L)) := by
        have h := alike_iff HV.out s (fun i hi hb => by rw [HE.out] at hi ⊢; rw [HL.out]; exact HS.out i hi hb)
        rw [HE.out, HL.out] at h
        exact h
      go_wp2
      go_ret
      exact ⟨ret_bool (by rw [HF.out]), HB.out⟩
end
end Go.Proofs.Ytbfjebglaimcmaa
namespace Go.Proofs.Ytbfjebglaimcmaa
open Go.RowKit Go.Hav
theorem conv_any {src dst : TypeId} {k k' : IntKind} (hs : (Try.prog.underlying src).isSome = true) (hd : (Try.prog.underlying dst) = some (.int k')) (hk : Try.prog.intKind dst = k') {a : Act} {o : Oper} {x : Operand} {n : Int} (ho : o.op = .convert src dst x) (hx : a.eval x = .int k n) (hw : k'.wrap n = n) (w : World) :
    (execOp a.eval o).run Try.prog w = .ok (.value (.int k' n)) w := by
  have hd' : Try.prog.underlying dst = some (.int (Try.prog.intKind dst)) := by rw [hk]; exact hd
  have h := run_convert_int (P := Try.prog) w src dst k n hs hd'
  rw [hk, hw] at h
  unfold execOp
  rw [ho]
  simp only [hx]
  show Sem.run Try.prog (do pure (Next.value (← convert src dst (.int k n)))) w = _
  simp [go_sem, h]
theorem conv_raw {src dst : TypeId} {k k' : IntKind} (hs : (Try.prog.underlying src).isSome = true) (hd : (Try.prog.underlying dst) = some (.int k')) (hk : Try.prog.intKind dst = k') {a : Act} {o : Oper} {x : Operand} {n : Int} (ho : o.op = .convert src dst x) (hx : a.eval x = .int k n) (w : World) :
    (execOp a.eval o).run Try.prog w = .ok (.value (.int k' (k'.wrap n))) w := by
  have hd' : Try.prog.underlying dst = some (.int (Try.prog.intKind dst)) := by rw [hk]; exact hd
  have h := run_convert_int (P := Try.prog) w src dst k n hs hd'
  rw [hk] at h
  unfold execOp
  rw [ho]
  simp only [hx]
  show Sem.run Try.prog (do pure (Next.value (← convert src dst (.int k n)))) w = _
  simp [go_sem, h]
/-- int to uint, whatever the number. -/
theorem convW {a : Act} {o : Oper} {x : Operand} {n : Int} (ho : o.op = .convert 3 93 x) (hx : a.eval x = .int .i64 n) (w : World) : (execOp a.eval o).run Try.prog w = .ok (.value (.int .u64 (IntKind.u64.wrap n))) w :=
  conv_raw (by kernel_rfl) Try.underlying93 (by kernel_rfl) ho hx w
theorem wrap_u64 {n : Int} (h0 : 0 ≤ n) (h1 : n ≤ 4611686018427387904) : IntKind.u64.wrap n = n := by rw [IntKind.wrap_u64]; omega
theorem wrap_i64 {n : Int} (h0 : -4611686018427387904 ≤ n) (h1 : n ≤ 4611686018427387904) : IntKind.i64.wrap n = n := IntWalk.i64_in n (by omega)
/-- int to uint. -/
theorem convU {a : Act} {o : Oper} {x : Operand} {n : Int} (ho : o.op = .convert 3 93 x) (hx : a.eval x = .int .i64 n) (h0 : 0 ≤ n) (h1 : n ≤ 4611686018427387904) (w : World) : (execOp a.eval o).run Try.prog w = .ok (.value (.int .u64 n)) w :=
  conv_any (by kernel_rfl) Try.underlying93 (by kernel_rfl) ho hx (wrap_u64 h0 h1) w
/-- uint to int. -/
theorem convS {a : Act} {o : Oper} {x : Operand} {n : Int} (ho : o.op = .convert 93 3 x) (hx : a.eval x = .int .u64 n) (h0 : 0 ≤ n) (h1 : n ≤ 4611686018427387904) (w : World) : (execOp a.eval o).run Try.prog w = .ok (.value (.int .i64 n)) w :=
  conv_any (by kernel_rfl) Try.underlying3 (by kernel_rfl) ho hx (wrap_i64 (by omega) h1) w
/-- uint16 to int. -/
theorem conv16 {a : Act} {o : Oper} {x : Operand} {n : Int} (ho : o.op = .convert 46 3 x) (hx : a.eval x = .int .u16 n) (h0 : 0 ≤ n) (h1 : n ≤ 4611686018427387904) (w : World) : (execOp a.eval o).run Try.prog w = .ok (.value (.int .i64 n)) w :=
  conv_any (by kernel_rfl) Try.underlying3 (by kernel_rfl) ho hx (wrap_i64 (by omega) h1) w
/-- uint8 to int. -/
theorem conv8 {a : Act} {o : Oper} {x : Operand} {n : Int} (ho : o.op = .convert 5 3 x) (hx : a.eval x = .int .u8 n) (h0 : 0 ≤ n) (h1 : n ≤ 4611686018427387904) (w : World) : (execOp a.eval o).run Try.prog w = .ok (.value (.int .i64 n)) w :=
  conv_any (by kernel_rfl) Try.underlying3 (by kernel_rfl) ho hx (wrap_i64 (by omega) h1) w
end Go.Proofs.Ytbfjebglaimcmaa
namespace Go.Proofs.Ytbfjebglaimcmaa
open Go.RowKit Go.Hav
section
variable {B d : Nat} {low top bales : Int} {fa wa : Option Addr} {fl fc wl wc : Nat} {p : PressD}
theorem or_pow (p : PressD) (k : Nat) (hk : k < 4) (h : p.wrongB k = true) : bits BinOp.or IntKind.i64 (p.wrongF k : Int) (2 ^ k) = (p.wrongF (k + 1) : Int) := by
  have h1 := PressD.wrongF_lt p k
  have h2 := Nat.pow_le_pow_right (n := 2) (by omega) (show k ≤ 4 by omega)
  rw [PressD.wrongF, if_pos h, ← pow_cast, or_i64 _ _ (by omega) (by omega)]
set_option maxRecDepth 100000 in
set_option maxHeartbeats 6400000 in
theorem wrong_any (hv : p.ok = true) (w : World) (hD : ShedIn w B d fa fl fc low top bales wa wl wc p) :
    Calls Try.prog 70 #[(.pointer (some ⟨d, 0, none⟩))] w fun e w' => e = .returned (.int .i64 (p.wrong : Nat)) ∧ Below w.heap.size w w' := by
  have HD := Lib.hid hD
  have HV := Lib.hid hv
  have HN := Lib.hid (PressD.n_pow hv)
  have p0 := hD.c4
  have hdw : d < w.heap.size := Nat.lt_of_lt_of_le hD.hd hD.hB
  have hn := (PressD.ok_head hv).2.2.2.2.2.2
  have hwl : wl ≤ 4 := by have := hD.rd.ewl; omega
  have HW := Lib.hid hD.rd.ewl
  clear hv hD hn
  go_enter Try.func70, Try.ntmps70
  go_wp2
  go_loopw [2, 12] (fun r i wr => ∃ k : Nat, k ≤ wl ∧ i = .int .i64 k ∧ r = .int .i64 (p.wrongF k : Nat) ∧ Below w.heap.size w wr) (fun _ i _ => wl - (intOf i).toNat)
  case atStart => exact ⟨0, Nat.zero_le _, rfl, rfl, Below.refl _ _⟩
  case round =>
    obtain ⟨k, hk, rfl, rfl, hbw⟩ := hrel
    have HB := Lib.hid hbw
    have hsz := hbw.size
    clear hbw
    by_cases hlt : k < wl
    · obtain ⟨c, hc⟩ : ∃ c, p.weighed[k]? = some c := ⟨p.weighed[k]'(by have := HW.out; omega), by simp⟩
      have hkl : k < p.weighed.length := by have := HW.out; omega
      have hok := PressD.ok_ba HV.out hkl
      rw [ba_of hc] at hok
      obtain ⟨q0, q1, q2, q3, q4, q5, q6⟩ := hok
      have hN := HN.out
      have HWB : Hid (p.wrongB k = decide ((knownS (p.bare (p.bs k)) ⟨0, 0⟩ c.w).hi < (knownS (p.bare (p.bs k)) ⟨0, 0⟩ c.w).lo)) := by show _ = _; rw [PressD.wrongB, ba_of hc]
      obtain ⟨S, HS⟩ : ∃ S, Hid (p.bs k = S) := ⟨_, rfl⟩
      rw [HS.out] at q0 q1 q2 HWB
      have HS1 : Hid (S < 1024) := by show S < 1024; omega
      obtain ⟨b, off, rfl, hbl, H0, H1, H2⟩ := rd_ba ((HD.out.grow HB.out).rd.hwl) k c hc
      have hbw : b < wr.heap.size := Nat.lt_of_lt_of_le hbl (HD.out.grow HB.out).hB
      obtain ⟨cs, ⟨c0, c1⟩⟩ := c
      simp only at H0 H1 H2 HWB q0 q4 q5 q6
      subst q0
      have hS0 : (0 : Int) ≤ S := by omega
      have hS9 : (S : Int) ≤ 1024 := by omega
      have HCW : Hid (midS 1000000000 ⟨c0, c1⟩) := by show midS _ _; unfold midS; simp only; omega
      have HM0 : Hid (midS 1000000000 ⟨0, 0⟩) := by show midS _ _; unfold midS; simp
      have hdr : d < wr.heap.size := by have := (HD.out.grow HB.out); exact Nat.lt_of_lt_of_le this.hd this.hB
      have hp0 : (0 : Int) ≤ 2 ^ k := Int.pow_nonneg (by omega)
      have hp1 : (2 : Int) ^ k ≤ 16 := by
        have := Nat.pow_le_pow_right (n := 2) (by omega) (show k ≤ 4 by omega)
        have h2 : ((2 ^ k : Nat) : Int) ≤ ((2 ^ 4 : Nat) : Int) := by exact_mod_cast this
        simpa using h2
      have HOR : Hid (p.wrongB k = true → bits BinOp.or IntKind.i64 (p.wrongF k : Int) (2 ^ k) = (p.wrongF (k + 1) : Int)) := or_pow p k (by omega)
      have HNO : Hid (p.wrongB k = false → p.wrongF (k + 1) = p.wrongF k) := fun h => by rw [PressD.wrongF, if_neg (by rw [h]; simp)]
      clear hc hkl hN
      go_wp2_with fail
      refine wp_region_havoc [(0,false),(1,false),(2,false),(3,false),(4,false),(5,false),(6,false),(7,false),(8,false),(9,true)] [10] (fun _ _ => False) (by kernel_rfl) (by kernel_rfl) (fun _ _ _ _ h => h.elim) ?_
      iterate 3 (apply hav_same (by simp only [List.getElem?_toArray, List.getElem?_cons_succ, List.getElem?_cons_zero]; rfl) (by kernel_rfl); (focus (intro wv hgv _; have hcv : ∀ b o, b < _ → wv.cell? ⟨b, o, none⟩ = _ := fun b o hb => Below.cell hgv (p := ⟨b, o, none⟩) hb; (try go_simp); try rfl; done)); simp only [Act.put, List.setIfInBounds_toArray, List.set_cons_succ, List.set_cons_zero])
      (apply hav_same (by simp only [List.getElem?_toArray, List.getElem?_cons_succ, List.getElem?_cons_zero]; rfl) (by kernel_rfl); (focus (intro wv hgv _; exact convU rfl rfl hS0 (by omega) _)); simp only [Act.put, List.setIfInBounds_toArray, List.set_cons_succ, List.set_cons_zero])
      (apply hav_call (by simp only [List.getElem?_toArray, List.getElem?_cons_succ, List.getElem?_cons_zero]; rfl) (by kernel_rfl); (focus (intro wv; go_simp; try exact ⟨rfl, rfl⟩; done)); (focus (intro wv hgv _; exact bare_any HV.out S HS1.out _ (by exact HD.out.grow (HB.out.trans (((Below.refl wr.heap.size wr).alloc (Nat.le_refl _) _).trans (Below.mono hgv (by simp)) |>.mono (by omega)))); done)); simp only [Act.put, List.setIfInBounds_toArray, List.set_cons_succ, List.set_cons_zero])
      iterate 3 (apply hav_same (by simp only [List.getElem?_toArray, List.getElem?_cons_succ, List.getElem?_cons_zero]; rfl) (by kernel_rfl); (focus (intro wv hgv _; have hcv : ∀ b o, b < _ → wv.cell? ⟨b, o, none⟩ = _ := fun b o hb => Below.cell hgv (p := ⟨b, o, none⟩) hb; (try go_simp); try rfl; done)); simp only [Act.put, List.setIfInBounds_toArray, List.set_cons_succ, List.set_cons_zero])
      (apply hav_call (by simp only [List.getElem?_toArray, List.getElem?_cons_succ, List.getElem?_cons_zero]; rfl) (by kernel_rfl); (focus (intro wv; go_simp; try exact ⟨rfl, rfl⟩; done)); (focus (intro wv hgv _; exact known_any (p.bare S) ⟨0, 0⟩ ⟨c0, c1⟩ HM0.out HCW.out _; done)); simp only [Act.put, List.setIfInBounds_toArray, List.set_cons_succ, List.set_cons_zero])
      obtain ⟨K, HKK⟩ : ∃ K, Hid (knownS (p.bare S) ⟨0, 0⟩ ⟨c0, c1⟩ = K) := ⟨_, rfl⟩
      rw [HKK.out] at HWB ⊢
      unfold spV
      (apply hav_new (fun g => .pointer (some ⟨g, 0, none⟩)) (.cells #[.int .i64 0, .int .i64 0] 87) (by simp only [List.getElem?_toArray, List.getElem?_cons_succ, List.getElem?_cons_zero]; rfl) (by kernel_rfl); (focus (intro wv hgv _; have hcv : ∀ b o, b < _ → wv.cell? ⟨b, o, none⟩ = _ := fun b o hb => Below.cell hgv (p := ⟨b, o, none⟩) hb; (try go_simp); try rfl; done)); intro v; simp only [Act.put, List.setIfInBounds_toArray, List.set_cons_succ, List.set_cons_zero])
      refine hav_end (fun w1 hgw1 hF => ?_); simp only [List.filterMap]; have hcw1 : ∀ b o, b < _ → w1.cell? ⟨b, o, none⟩ = _ := fun b o hb => Below.cell hgw1 (p := ⟨b, o, none⟩) hb; have hfw1 : ∀ b o, b < _ → w1.frozen? ⟨b, o, none⟩ = _ := fun b o hb => Below.frozen hgw1 (p := ⟨b, o, none⟩) hb; have hzw1 := Below.size hgw1; (try simp at hzw1)
      obtain ⟨_, g, rfl, hg, hgb⟩ := hF
      have HGB : Hid (Blk w1 g 87 #[.int .i64 0, .int .i64 0]) := hgb
      have HG1 : Hid (Below wr.heap.size wr w1) := ((Below.refl wr.heap.size wr).alloc (Nat.le_refl _) _).trans (hgw1.mono (by simp))
      have hg2 : wr.heap.size ≤ g := by simp at hg; omega
      have r0 : w1.cell? ⟨g, 0, none⟩ = some (.int .i64 0) := HGB.out.cell 0
      have r1 : w1.cell? ⟨g, 1, none⟩ = some (.int .i64 0) := HGB.out.cell 1
      have f0 : w1.frozen? ⟨g, 0, none⟩ = false := HGB.out.frozen 0
      have f1 : w1.frozen? ⟨g, 1, none⟩ = false := HGB.out.frozen 1
      clear hgb hgw1 hcw1 hfw1 hg
      have HBE : Hid (Below w.heap.size w ((w1.setCell ⟨g, 0, none⟩ (.int .i64 K.lo)).setCell ⟨g, 1, none⟩ (.int .i64 K.hi))) :=
        setCell_below (setCell_below (HB.out.trans (HG1.out.mono (by have := HB.out.size; omega))) (by have := HB.out.size; omega) _ _) (by have := HB.out.size; omega) _ _
      cases hgt : decide (K.hi < K.lo)
      · rw [hgt] at HWB
        have HN2 := Lib.hid (HNO.out HWB.out)
        have hgt' : ¬ K.hi < K.lo := by simpa using hgt
        go_wp2
        go_roundw
        case rel => exact ⟨k + 1, by omega, by go_num, by rw [HN2.out], HBE.out⟩
        case measure => simp [intOf]; omega
      · rw [hgt] at HWB
        have hor := HOR.out HWB.out
        have hgt' : K.hi < K.lo := by simpa using hgt
        go_wp2
        go_roundw
        case rel => exact ⟨k + 1, by omega, by go_num, rfl, HBE.out⟩
        case measure => simp [intOf]; omega
    · obtain rfl : wl = k := by omega
      go_wp2
      go_ret
      exact ⟨ret_int (by rw [PressD.wrong, HW.out]), HB.out⟩
end
end Go.Proofs.Ytbfjebglaimcmaa
