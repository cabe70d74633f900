/- The walks of the law's alike, total, of the reference's Ints; of the law's fine, heavy. -/
import Derived.Test.YtbfjebglaimcmaaRefB
namespace Go.Proofs.Ytbfjebglaimcmaa
open Go.RowKit Go.Hav
section
variable {low top bales : Int} {fa wa : Option Addr} {fl fc wl wc : Nat} {p : PressD}
set_option maxRecDepth 100000 in
set_option maxHeartbeats 1600000 in
theorem lalike_any (hv : p.ok = true) (s : Nat) (hs : s < 1024) (w : World) (hP : PressIn w w.heap.size fa fl low top bales wa wl p) :
    Calls Try.prog 34 #[pressV fa fl fc low top bales wa wl wc, .int .i64 s] w fun e w' => e = .returned (.bool (p.alike s)) ∧ Below w.heap.size w w' := by
  have HP := Lib.hid hP
  have HV := Lib.hid hv
  have hn := (PressD.ok_head hv).1
  have HE : Hid (p.n = fl) := hP.efl
  have hfl : fl ≤ 10 := by have := HE.out; omega
  clear hv hP hn
  unfold pressV
  go_enter Try.func34, Try.ntmps34
  go_wp2
  go_loopw [5, 11] (fun l i wr => ∃ (k : Nat) (L : Int), k ≤ fl ∧ i = .int .i64 k ∧ l = .int .i64 L ∧ Hid (lineF p s k = L) ∧ -1 ≤ L ∧ L ≤ 2 ∧ Hid (∀ i, i < k → s.testBit i = true → p.line i = L) ∧ Below w.heap.size w wr ∧ w.heap.size < wr.heap.size) (fun _ i _ => fl - (intOf i).toNat)
  case atStart => exact ⟨0, -1, Nat.zero_le _, rfl, rfl, rfl, by omega, by omega, fun i hi => by omega, (Below.refl _ _).alloc (Nat.le_refl _) _, by simp⟩
  case round =>
    obtain ⟨k, L, hk, rfl, rfl, HL, hl1, hl2, HS, hbw, hsz⟩ := hrel
    have HB := Lib.hid hbw
    clear hbw
    by_cases hlt : k < fl
    · obtain ⟨c, hc⟩ : ∃ c, p.fl[k]? = some c := ⟨p.fl[k]'(by have := HE.out; unfold PressD.n at this; omega), by simp⟩
      have HC := Lib.hid (fw_of hc)
      have hcl : 0 ≤ c.line ∧ c.line ≤ 2 := by
        have := PressD.ok_fl HV.out (i := k) (by rw [HE.out]; exact hlt)
        rw [HC.out.2] at this; omega
      obtain ⟨hcl0, hcl1⟩ := hcl
      obtain ⟨b, off, rfl, hbl, H0, H1, H2⟩ := rd_fl ((HP.out.grow HB.out).hfl) k c hc
      have hbw : b < wr.heap.size := hbl
      have htb := tb0_i64 s k (by omega)
      obtain ⟨⟨c0, c1⟩, cl⟩ := c
      simp only at H0 H1 H2 hcl0 hcl1 HC
      clear hc
      cases hbit : s.testBit k
      · have HL2 : Hid (lineF p s (k + 1) = L) := by show _ = _; rw [lineF, if_neg (by rw [hbit]; simp), HL.out]
        have HS2 : Hid (∀ i, i < k + 1 → s.testBit i = true → p.line i = L) := fun i hi hb => by
          by_cases e : i = k
          · subst e; rw [hbit] at hb; cases hb
          · exact HS.out i (by omega) hb
        rw [hbit] at htb
        simp only [Bool.not_false] at htb
        clear hbit
        go_wp2
        go_roundw
        case rel => exact ⟨k + 1, L, by omega, by go_num, rfl, HL2, by omega, by omega, HS2, HB.out.alloc (by omega) _, by simp; omega⟩
        case measure => simp [intOf]; omega
      · rw [hbit] at htb
        simp only [Bool.not_true] at htb
        by_cases hL : L < 0
        · have HL2 : Hid (lineF p s (k + 1) = cl) := by show _ = _; rw [lineF, if_pos hbit, HL.out, if_pos hL, HC.out.2]
          have HS2 : Hid (∀ i, i < k + 1 → s.testBit i = true → p.line i = cl) := fun i hi hb => by
            by_cases e : i = k
            · subst e; exact HC.out.2
            · have h0 := (lineF_neg HV.out s (k := k) (by rw [HE.out]; omega)).2.2.1 (by rw [HL.out]; exact hL) i (by omega)
              rw [hb] at h0; cases h0
          clear hbit
          go_wp2
          go_roundw
          case rel => exact ⟨k + 1, cl, by omega, by go_num, rfl, HL2, by omega, by omega, HS2, HB.out.alloc (by omega) _, by simp; omega⟩
          case measure => simp [intOf]; omega
        · by_cases hne : L = cl
          · subst hne
            have HL2 : Hid (lineF p s (k + 1) = L) := by show _ = _; rw [lineF, if_pos hbit, HL.out, if_neg hL]
            have HS2 : Hid (∀ i, i < k + 1 → s.testBit i = true → p.line i = L) := fun i hi hb => by
              by_cases e : i = k
              · subst e; exact HC.out.2
              · exact HS.out i (by omega) hb
            have hbn : (L != L) = false := by simp
            clear hbit
            go_wp2
            go_roundw
            case rel => exact ⟨k + 1, L, by omega, by go_num, rfl, HL2, by omega, by omega, HS2, HB.out.alloc (by omega) _, by simp; omega⟩
            case measure => simp [intOf]; omega
          · have HF : Hid (p.alike s = false) := by
              obtain ⟨i, h1, h2, h3⟩ := lineF_at (p := p) (s := s) (k := k) (by rw [HL.out]; omega)
              exact alike_no (by have := HE.out; omega) (by rw [HE.out]; exact hlt) h2 hbit (by rw [h3, HL.out, HC.out.2]; exact hne)
            have hbn : (cl != L) = true := by simp [Ne.symm hne]
            clear hbit hne
            go_wp2
            go_ret
            exact ⟨ret_bool HF.out.symm, HB.out.alloc (by omega) _⟩
    · obtain rfl : fl = k := by omega
      have HF : Hid (p.alike s = decide (0 ≤ L)) := by
        have h := alike_iff HV.out s (fun i hi hb => by rw [HE.out] at hi ⊢; rw [HL.out]; exact HS.out i hi hb)
        rw [HE.out, HL.out] at h
        exact h
      go_wp2
      go_ret
      exact ⟨ret_bool (by rw [HF.out]), HB.out⟩
end
/-- The numbers of a list, added up over a set. -/
def totL (l : List Int) (s k : Nat) : Int := sb (fun i => (l[i]?).getD 0) s k
theorem totL_bd {l : List Int} (hb : ∀ x ∈ l, -1000 ≤ x ∧ x ≤ 1000) (s k : Nat) : -(1000 * k : Int) ≤ totL l s k ∧ totL l s k ≤ 1000 * k := by
  have h := sb_bd (f := fun i => (l[i]?).getD 0) (s := s) (l := -1000) (h := 1000) (by omega) (by omega) k (fun i _ _ => by
    cases hx : l[i]? with
    | none => simp
    | some x => simpa using hb x (List.mem_of_getElem? hx))
  unfold totL
  omega
section
variable {A A2 : Option Addr} {n c n2 c2 : Nat} {l l2 : List Int}
set_option maxRecDepth 100000 in
set_option maxHeartbeats 1600000 in
theorem total_any (hn : n ≤ 40) (hl : l.length = n) (hb : ∀ x ∈ l, -1000 ≤ x ∧ x ≤ 1000) (s : Nat) (hs : s < 1024) (w : World) (hR : RdG inF 1 w w.heap.size A l) :
    Calls Try.prog 33 #[.slice A n c, .int .i64 s] w fun e w' => e = .returned (.int .i64 (totL l s n)) ∧ w' = w := by
  have HR := Lib.hid hR
  have HL := Lib.hid hl
  have HBD := Lib.hid (totL_bd hb s)
  have HBX := Lib.hid hb
  clear hR hl hb
  go_enter Try.func33, Try.ntmps33
  go_wp2
  go_loopw [4, 9] (fun x i wr => ∃ (k : Nat) (t : Int), k ≤ n ∧ i = .int .i64 k ∧ x = .int .i64 t ∧ Hid (t = totL l s k) ∧ wr = w) (fun _ i _ => n - (intOf i).toNat)
  case atStart => exact ⟨0, 0, Nat.zero_le _, rfl, rfl, rfl, rfl⟩
  case round =>
    obtain ⟨k, t, hk, rfl, rfl, HT, rfl⟩ := hrel
    have hb := HBD.out k
    rw [← HT.out] at hb
    obtain ⟨hb0, hb1⟩ := hb
    by_cases hlt : k < n
    · obtain ⟨x, hx⟩ : ∃ x, l[k]? = some x := ⟨l[k]'(by have := HL.out; omega), by simp⟩
      obtain ⟨gb, off, hsa, hbl, H0⟩ := rd_in HR.out k x hx
      subst hsa
      have hxb := HBX.out x (List.mem_of_getElem? hx)
      obtain ⟨hx0, hx1⟩ := hxb
      have HX := Lib.hid hx
      clear hx
      have htb := tb_i64 s k (by omega)
      cases hbit : s.testBit k
      · have HN : Hid (t = totL l s (k + 1)) := by show _ = _; rw [HT.out, totL, totL, sb, if_neg (by rw [hbit]; simp)]; omega
        rw [hbit] at htb
        clear hbit
        go_wp2
        go_roundw
        case rel => exact ⟨k + 1, t, by omega, by go_num, rfl, HN, trivial⟩
        case measure => simp [intOf]; omega
      · have HN : Hid (t + x = totL l s (k + 1)) := by show _ = _; rw [HT.out, totL, totL, sb, if_pos hbit, HX.out]; rfl
        rw [hbit] at htb
        clear hbit
        go_wp2
        go_roundw
        case rel => exact ⟨k + 1, t + x, by omega, by go_num, rfl, HN, trivial⟩
        case measure => simp [intOf]; omega
    · obtain rfl : n = k := by omega
      go_wp2
      go_ret
      exact ⟨ret_int HT.out, rfl⟩
theorem take_ne {k : Nat} {x y : Int} (hx : l[k]? = some x) (hy : l2[k]? = some y) (h : x ≠ y) : l ≠ l2 := fun e => by
  rw [e, hy] at hx
  exact h (Option.some.inj hx).symm
set_option maxRecDepth 100000 in
set_option maxHeartbeats 1600000 in
theorem ints_any (hn : n ≤ 1000) (hl : l.length = n) (hn2 : n2 ≤ 1000) (hl2 : l2.length = n2) (w : World) (hR : RdG inF 1 w w.heap.size A l) (hR2 : RdG inF 1 w w.heap.size A2 l2) :
    Calls Try.prog 28 #[.slice A n c, .slice A2 n2 c2] w fun e w' => e = .returned (.bool (decide (l = l2))) ∧ Below w.heap.size w w' := by
  have HR := Lib.hid hR
  have HL := Lib.hid hl
  have HR2 := Lib.hid hR2
  have HL2 := Lib.hid hl2
  clear hR hl hR2 hl2
  by_cases hnn : n = n2
  · subst hnn
    have h00 : ((n : Int) != n) = false := by simp
    go_enter Try.func28, Try.ntmps28
    go_wp2
    go_loopw [5] (fun i wr => ∃ k : Nat, k ≤ n ∧ i = .int .i64 k ∧ Hid (l.take k = l2.take k) ∧ Below w.heap.size w wr) (fun i _ => n - (intOf i).toNat)
    case atStart => exact ⟨0, Nat.zero_le _, rfl, rfl, Below.refl _ _⟩
    case round =>
      obtain ⟨k, hk, rfl, HT, hb⟩ := hrel
      have HB := Lib.hid hb
      clear hb
      by_cases hlt : k < n
      · obtain ⟨x, hx⟩ : ∃ x, l[k]? = some x := ⟨l[k]'(by have := HL.out; omega), by simp⟩
        obtain ⟨y, hy⟩ : ∃ y, l2[k]? = some y := ⟨l2[k]'(by have := HL2.out; omega), by simp⟩
        obtain ⟨gb, off, hsa, hbl, H0⟩ := rd_in (HR.out.grow HB.out) k x hx
        subst hsa
        obtain ⟨gb2, off2, hsa2, hbl2, H02⟩ := rd_in (HR2.out.grow HB.out) k y hy
        subst hsa2
        have HX := Lib.hid hx
        have HY := Lib.hid hy
        clear hx hy
        by_cases hxy : x = y
        · have HN : Hid (l.take (k + 1) = l2.take (k + 1)) := by show _ = _; rw [List.take_add_one, List.take_add_one, HT.out, HX.out, HY.out, hxy]
          have hne : (x != y) = false := by simp [hxy]
          clear hxy
          go_wp2
          refine wp_region_havoc [(0,false),(1,false),(2,false),(3,false),(4,false),(5,false),(6,false),(7,false),(8,false)] [] (fun _ _ => False) (by kernel_rfl) (by kernel_rfl) (fun _ _ _ _ h => h.elim) ?_
          (apply hav_same (by simp only [List.getElem?_toArray, List.getElem?_cons_zero]; rfl) (by kernel_rfl); (focus (intro wv hgv _; have hcv : ∀ b o, b < _ → wv.cell? ⟨b, o, none⟩ = _ := fun b o hb => Below.cell hgv (p := ⟨b, o, none⟩) hb; (try go_simp); try rfl; done)); simp only [Act.put, List.setIfInBounds_toArray, List.set_cons_succ, List.set_cons_zero])
          iterate 8 (apply hav_same (by simp only [List.getElem?_toArray, List.getElem?_cons_succ, List.getElem?_cons_zero]; rfl) (by kernel_rfl); (focus (intro wv hgv _; have hcv : ∀ b o, b < _ → wv.cell? ⟨b, o, none⟩ = _ := fun b o hb => Below.cell hgv (p := ⟨b, o, none⟩) hb; (try go_simp); try rfl; done)); simp only [Act.put, List.setIfInBounds_toArray, List.set_cons_succ, List.set_cons_zero])
          refine hav_end (fun w3 hgw3 _ => ?_); simp only [List.filterMap]; have hcw3 : ∀ b o, b < _ → w3.cell? ⟨b, o, none⟩ = _ := fun b o hb => Below.cell hgw3 (p := ⟨b, o, none⟩) hb; have hfw3 : ∀ b o, b < _ → w3.frozen? ⟨b, o, none⟩ = _ := fun b o hb => Below.frozen hgw3 (p := ⟨b, o, none⟩) hb; have hzw3 := Below.size hgw3; (try simp at hzw3)
          have HB3 : Hid (Below w.heap.size w w3) := HB.out.trans (hgw3.mono HB.out.size)
          clear hgw3 hcw3 hfw3
          go_wp2
          go_roundw
          case rel => exact ⟨k + 1, by omega, by go_num, HN, HB3.out⟩
          case measure => simp [intOf]; omega
        · have HF := Lib.hid (take_ne HX.out HY.out hxy)
          have hne : (x != y) = true := by simp [hxy]
          clear hxy
          go_wp2
          refine wp_region_havoc [(0,false),(1,false),(2,false),(3,false),(4,false),(5,false),(6,false),(7,false),(8,false)] [] (fun _ _ => False) (by kernel_rfl) (by kernel_rfl) (fun _ _ _ _ h => h.elim) ?_
          (apply hav_same (by simp only [List.getElem?_toArray, List.getElem?_cons_zero]; rfl) (by kernel_rfl); (focus (intro wv hgv _; have hcv : ∀ b o, b < _ → wv.cell? ⟨b, o, none⟩ = _ := fun b o hb => Below.cell hgv (p := ⟨b, o, none⟩) hb; (try go_simp); try rfl; done)); simp only [Act.put, List.setIfInBounds_toArray, List.set_cons_succ, List.set_cons_zero])
          iterate 8 (apply hav_same (by simp only [List.getElem?_toArray, List.getElem?_cons_succ, List.getElem?_cons_zero]; rfl) (by kernel_rfl); (focus (intro wv hgv _; have hcv : ∀ b o, b < _ → wv.cell? ⟨b, o, none⟩ = _ := fun b o hb => Below.cell hgv (p := ⟨b, o, none⟩) hb; (try go_simp); try rfl; done)); simp only [Act.put, List.setIfInBounds_toArray, List.set_cons_succ, List.set_cons_zero])
          refine hav_end (fun w3 hgw3 _ => ?_); simp only [List.filterMap]; have hcw3 : ∀ b o, b < _ → w3.cell? ⟨b, o, none⟩ = _ := fun b o hb => Below.cell hgw3 (p := ⟨b, o, none⟩) hb; have hfw3 : ∀ b o, b < _ → w3.frozen? ⟨b, o, none⟩ = _ := fun b o hb => Below.frozen hgw3 (p := ⟨b, o, none⟩) hb; have hzw3 := Below.size hgw3; (try simp at hzw3)
          have HB3 : Hid (Below w.heap.size w w3) := HB.out.trans (hgw3.mono HB.out.size)
          clear hgw3 hcw3 hfw3
          go_wp2
          go_ret
          exact ⟨ret_bool (by simp [HF.out]), HB3.out⟩
      · obtain rfl : n = k := by omega
        have HF : Hid (l = l2) := by
          show _ = _
          have h := HT.out
          rwa [List.take_of_length_le (by have := HL.out; omega), List.take_of_length_le (by have := HL2.out; omega)] at h
        go_wp2
        go_ret
        exact ⟨ret_bool (by simp [HF.out]), HB.out⟩
  · have HF : Hid (l ≠ l2) := show l ≠ l2 from fun e => hnn (by have h1 := HL.out; have h2 := HL2.out; rw [e] at h1; omega)
    have h01 : (n != n2) = true := by simp [hnn]
    have h00 : ((n : Int) != n2) = true := by simp; omega
    go_enter Try.func28, Try.ntmps28
    go_wp2
    go_ret
    exact ⟨ret_bool (by simp [HF.out]), Below.refl _ _⟩
end
end Go.Proofs.Ytbfjebglaimcmaa
