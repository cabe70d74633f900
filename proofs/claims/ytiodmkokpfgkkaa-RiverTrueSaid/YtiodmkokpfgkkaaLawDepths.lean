/- The law RiverTrue's depths: how deep a river is on all days, by the words of the chapter. Condition: the truth's numbers are small. -/
import Derived.Test.YtiodmkokpfgkkaaTrInS
import Derived.Test.YtiodmkokpfgkkaaAppC
namespace Go.Proofs.Ytiodmkokpfgkkaa
open Go.RowKit Go.Hav Go.Shelf Go.Sq
attribute [local go_sem] Oper.semAt_some
theorem infoE3 : (Try.prog.info? 3).map (fun i => (i.zero, i.size, i.bytes)) = some (some (.int .i64 0), 1, 8) := by kernel_rfl
section
variable {dA rA : Option Addr} {n dc rc : Nat} {t : Tr}
set_option maxRecDepth 100000 in
set_option maxHeartbeats 6400000 in
theorem depths97_any (ht : t.Small n) (D : Nat) (hD : D ≤ 10) (w : World) (hT : TrIn w t dA rA) :
  Calls Try.prog 97 #[.int .i64 t.d, .int .i64 t.by_, .int .i64 D, .slice dA n dc, .slice rA n rc] w fun e w' => (∃ v, e = .returned v ∧ w'.ownsRow w.heap.size 3 1 v (D + 1) ((List.range (D + 1)).map fun d => nV (t.at_ d))) ∧ Below w.heap.size w w' := by
 have HT := Lib.hid hT
 have HS := Lib.hid ht
 have hn := ht.n3
 have hd60 := ht.d
 have hb60 := ht.by_
 have HAT : Hid (∀ day, t.at_ day = atF t.d t.by_ n t.dsF t.rsF day) := fun day => by rw [Tr.at_, ht.ds]
 obtain ⟨i0, hi, hz0, hz1, hz2⟩ := info_parts infoE3
 have HI := Lib.hid hi
 have HI0 := Lib.hid hz0
 have HI1 := Lib.hid hz1
 have HI2 := Lib.hid hz2
 clear hT ht hi hz0 hz1 hz2
 go_enter Try.func97, Try.ntmps97
 go_wp2
 go_loopw [10, 11, 18] (fun row x i wr => ∃ (k v : Nat) (rv : Value), k ≤ D + 1 ∧ i = .int .i64 k ∧ x = .int .i64 v ∧ row = rv ∧ Hid (wr.ownsRow w.heap.size 3 1 rv k ((List.range k).map fun d => nV (t.at_ d))) ∧ Hid ((0 < k → t.at_ (k - 1) = v) ∧ (k = 0 → v = t.d)) ∧ Hid (Below w.heap.size w wr) ∧ Hid (w.heap.size ≤ wr.heap.size) ∧ v ≤ 2000) (fun _ _ i _ => D + 1 - (intOf i).toNat)
 case atStart => exact ⟨0, t.d, _, by omega, rfl, rfl, rfl, World.ownsRow_nil _ _ _ _, ⟨fun h => by omega, fun _ => rfl⟩, Below.refl _ _, Nat.le_refl _, by omega⟩
 case round =>
  obtain ⟨k, v, rv, hk, rfl, rfl, rfl, HO, HV, HBR, HSR, hv⟩ := hrel
  by_cases hlt : k < D + 1
  ·by_cases h0 : k = 0
   ·obtain ⟨v', hv'⟩ : ∃ x, x = v := ⟨_, rfl⟩
    have HV' : Hid (v' = t.at_ k) := by
     show _ = _
     rw [hv', HV.out.2 h0, h0]; rfl
    have HOB := Lib.hid (own_below HO.out ((Below.refl wr.heap.size wr).alloc (Nat.le_refl _) (.cells #[.int .i64 v'] 3)))
    subst hv'
    have h0i : ¬ (0 : Int) < (k : Int) := by omega
    have hvk := h0i
    clear h0 HV HO
    have hsr := HSR.out
    clear hvk
    go_wp2_with (at_builtin; refine wpList_append_own _ rfl _ _ 47 rfl w.heap.size 3 i0 _ 1 8 Try.underlying47 HI.out HI0.out HI1.out HI2.out rfl (by decide) _ _ _ rfl HOB.out ⟨wr.heap.size, 0, none⟩ 1 1 [.int .i64 v'] rfl rfl (news_block (Blk.new wr 3 _)) (by simp [Value.oneCell']) (by unfold maxLen; omega) (by omega) (by simp; omega) ?_)
    intro v2 w5 hown5 hgrow5 _
    have HO5 : Hid (w5.ownsRow w.heap.size 3 1 v2 (k + 1) ((List.range (k + 1)).map fun d => nV (t.at_ d))) := by rw [List.range_succ, List.map_append, List.map_cons, List.map_nil, ← HV'.out]; exact hown5
    have HS5 : Hid (w.heap.size ≤ w5.heap.size) := Nat.le_trans hsr (Nat.le_trans (by simp) hgrow5.size)
    have HB5 : Hid (Below w.heap.size w w5) := HBR.out.trans (((Below.refl wr.heap.size wr).alloc (Nat.le_refl _) _).mono hsr |>.trans (Below.grown (Below.refl _ _) hgrow5 (by simp; omega) (fun q hq => (own_block HOB.out hq).1)))
    clear hown5 hgrow5
    go_wp2
    go_roundw
    case rel => exact ⟨k + 1, v', v2, by omega, by go_num, rfl, rfl, HO5, ⟨fun _ => by rw [Nat.add_sub_cancel]; exact HV'.out.symm, fun h => by omega⟩, HB5, HS5, by omega⟩
    case measure => simp [intOf]; omega
   ·have h0i : (0 : Int) < (k : Int) := by omega
    obtain ⟨q, hq⟩ : ∃ q : Nat, v - t.by_ = q := ⟨_, rfl⟩
    have HQ : Hid (atF t.d t.by_ n t.dsF t.rsF (k - 1) - t.by_ = q) := by
     have := HV.out.1 (by omega)
     rw [HAT.out] at this
     show _ = _
     rw [this]; exact hq
    have hq2 : q ≤ 2000 := by omega
    by_cases hlb : v < t.by_
    ·have hw : IntKind.i64.wrap ((v : Int) - t.by_) = (v : Int) - t.by_ := IntWalk.i64_in _ (by omega)
     have hneg : (v : Int) - t.by_ < 0 := by omega
     obtain rfl : q = 0 := by omega
     clear hq HV
     go_wp2
     obtain ⟨wo, rfl⟩ : ∃ wo : World, wo = wr := ⟨_, rfl⟩
     go_loopw [11, 30] (fun x i wr => ∃ (j s : Nat), j ≤ n ∧ i = .int .i64 j ∧ x = .int .i64 s ∧ Hid (0 + riseN t.dsF t.rsF k j = s) ∧ s ≤ 2000 + 60 * j ∧ wr = wo) (fun _ i _ => n - (intOf i).toNat)
     case atStart => exact ⟨0, 0, Nat.zero_le _, rfl, rfl, rfl, by omega, rfl⟩
     case round =>
      obtain ⟨j, s, hj, rfl, rfl, HSU, hs, rfl⟩ := hrel
      by_cases hlt2 : j < n
      ·obtain ⟨x, hx⟩ : ∃ x, t.ds[j]? = some x := ⟨_, List.getElem?_eq_getElem (by rw [HS.out.ds]; exact hlt2)⟩
       obtain ⟨y, hy⟩ : ∃ y, t.rs[j]? = some y := ⟨_, List.getElem?_eq_getElem (by rw [HS.out.rs]; exact hlt2)⟩
       have hx60 := HS.out.hd x (List.mem_of_getElem? hx)
       have hy60 := HS.out.hr y (List.mem_of_getElem? hy)
       have HDX : Hid (t.dsF j = x ∧ t.rsF j = y) := ⟨by unfold Tr.dsF; rw [List.getD_eq_getElem?_getD, hx]; rfl, by unfold Tr.rsF; rw [List.getD_eq_getElem?_getD, hy]; rfl⟩
       have HTW := Lib.hid (HT.out.below HBR.out)
       obtain ⟨b1, o1, rfl, hb1, H1⟩ := HTW.out.ds.at_ hx
       obtain ⟨b2, o2, rfl, hb2, H2⟩ := HTW.out.rs.at_ hy
       clear hx hy
       by_cases he : x = k
       ·have HN : Hid (0 + riseN t.dsF t.rsF k (j + 1) = s + y) := by
         show _ = _
         rw [riseN, HDX.out.1, HDX.out.2, if_pos he, ← HSU.out]; omega
        have hd : ((x : Int) == (k : Int)) = true := by simp; omega
        clear he
        go_wp2
        go_roundw
        case rel => exact ⟨j + 1, s + y, by omega, by go_num, by go_num, HN, by omega, trivial⟩
        case measure => simp [intOf]; omega
       ·have HN : Hid (0 + riseN t.dsF t.rsF k (j + 1) = s) := by
         show _ = _
         rw [riseN, HDX.out.1, if_neg he, ← HSU.out]; rfl
        have hd : ((x : Int) == (k : Int)) = false := by simp; omega
        clear he
        go_wp2
        go_roundw
        case rel => exact ⟨j + 1, s, by omega, by go_num, rfl, HN, by omega, trivial⟩
        case measure => simp [intOf]; omega
      ·obtain rfl : n = j := by omega
       obtain ⟨v', hve⟩ : ∃ x, x = s := ⟨_, rfl⟩
       subst hve
       have HA : Hid (atF t.d t.by_ n t.dsF t.rsF k = v') := by
        obtain ⟨p, rfl⟩ : ∃ p, k = p + 1 := ⟨k - 1, by omega⟩
        show _ = _
        have h := HQ.out
        rw [Nat.add_sub_cancel] at h
        rw [atF, h, HSU.out]
       have HV' : Hid (v' = t.at_ k) := by show _ = _; rw [HAT.out, HA.out]
       have hs2 : v' ≤ 2000 := by have h := atF_bd HS.out k; rw [HA.out] at h; omega
       have HOB := Lib.hid (own_below HO.out ((Below.refl wr.heap.size wr).alloc (Nat.le_refl _) (.cells #[.int .i64 v'] 3)))
       have hvk := hs2
       clear HSU HA HQ HO
       have hsr := HSR.out
       clear hvk
       go_wp2_with (at_builtin; refine wpList_append_own _ rfl _ _ 47 rfl w.heap.size 3 i0 _ 1 8 Try.underlying47 HI.out HI0.out HI1.out HI2.out rfl (by decide) _ _ _ rfl HOB.out ⟨wr.heap.size, 0, none⟩ 1 1 [.int .i64 v'] rfl rfl (news_block (Blk.new wr 3 _)) (by simp [Value.oneCell']) (by unfold maxLen; omega) (by omega) (by simp; omega) ?_)
       intro v2 w5 hown5 hgrow5 _
       have HO5 : Hid (w5.ownsRow w.heap.size 3 1 v2 (k + 1) ((List.range (k + 1)).map fun d => nV (t.at_ d))) := by rw [List.range_succ, List.map_append, List.map_cons, List.map_nil, ← HV'.out]; exact hown5
       have HS5 : Hid (w.heap.size ≤ w5.heap.size) := Nat.le_trans hsr (Nat.le_trans (by simp) hgrow5.size)
       have HB5 : Hid (Below w.heap.size w w5) := HBR.out.trans (((Below.refl wr.heap.size wr).alloc (Nat.le_refl _) _).mono hsr |>.trans (Below.grown (Below.refl _ _) hgrow5 (by simp; omega) (fun q hq => (own_block HOB.out hq).1)))
       clear hown5 hgrow5
       go_wp2
       go_roundw
       case rel => exact ⟨k + 1, v', v2, by omega, by go_num, rfl, rfl, HO5, ⟨fun _ => by rw [Nat.add_sub_cancel]; exact HV'.out.symm, fun h => by omega⟩, HB5, HS5, by omega⟩
       case measure => simp [intOf]; omega
    ·have hw : IntKind.i64.wrap ((v : Int) - t.by_) = ((q : Nat) : Int) := (IntWalk.i64_in _ (by omega)).trans (by omega)
     have hneg : ¬ (q : Int) < 0 := by omega
     clear hq HV hlb
     go_wp2
     obtain ⟨wo, rfl⟩ : ∃ wo : World, wo = wr := ⟨_, rfl⟩
     go_loopw [11, 30] (fun x i wr => ∃ (j s : Nat), j ≤ n ∧ i = .int .i64 j ∧ x = .int .i64 s ∧ Hid (q + riseN t.dsF t.rsF k j = s) ∧ s ≤ 2000 + 60 * j ∧ wr = wo) (fun _ i _ => n - (intOf i).toNat)
     case atStart => exact ⟨0, q, Nat.zero_le _, rfl, rfl, rfl, by omega, rfl⟩
     case round =>
      obtain ⟨j, s, hj, rfl, rfl, HSU, hs, rfl⟩ := hrel
      by_cases hlt2 : j < n
      ·obtain ⟨x, hx⟩ : ∃ x, t.ds[j]? = some x := ⟨_, List.getElem?_eq_getElem (by rw [HS.out.ds]; exact hlt2)⟩
       obtain ⟨y, hy⟩ : ∃ y, t.rs[j]? = some y := ⟨_, List.getElem?_eq_getElem (by rw [HS.out.rs]; exact hlt2)⟩
       have hx60 := HS.out.hd x (List.mem_of_getElem? hx)
       have hy60 := HS.out.hr y (List.mem_of_getElem? hy)
       have HDX : Hid (t.dsF j = x ∧ t.rsF j = y) := ⟨by unfold Tr.dsF; rw [List.getD_eq_getElem?_getD, hx]; rfl, by unfold Tr.rsF; rw [List.getD_eq_getElem?_getD, hy]; rfl⟩
       have HTW := Lib.hid (HT.out.below HBR.out)
       obtain ⟨b1, o1, rfl, hb1, H1⟩ := HTW.out.ds.at_ hx
       obtain ⟨b2, o2, rfl, hb2, H2⟩ := HTW.out.rs.at_ hy
       clear hx hy
       by_cases he : x = k
       ·have HN : Hid (q + riseN t.dsF t.rsF k (j + 1) = s + y) := by
         show _ = _
         rw [riseN, HDX.out.1, HDX.out.2, if_pos he, ← HSU.out]; omega
        have hd : ((x : Int) == (k : Int)) = true := by simp; omega
        clear he
        go_wp2
        go_roundw
        case rel => exact ⟨j + 1, s + y, by omega, by go_num, by go_num, HN, by omega, trivial⟩
        case measure => simp [intOf]; omega
       ·have HN : Hid (q + riseN t.dsF t.rsF k (j + 1) = s) := by
         show _ = _
         rw [riseN, HDX.out.1, if_neg he, ← HSU.out]; rfl
        have hd : ((x : Int) == (k : Int)) = false := by simp; omega
        clear he
        go_wp2
        go_roundw
        case rel => exact ⟨j + 1, s, by omega, by go_num, rfl, HN, by omega, trivial⟩
        case measure => simp [intOf]; omega
      ·obtain rfl : n = j := by omega
       obtain ⟨v', hve⟩ : ∃ x, x = s := ⟨_, rfl⟩
       subst hve
       have HA : Hid (atF t.d t.by_ n t.dsF t.rsF k = v') := by
        obtain ⟨p, rfl⟩ : ∃ p, k = p + 1 := ⟨k - 1, by omega⟩
        show _ = _
        have h := HQ.out
        rw [Nat.add_sub_cancel] at h
        rw [atF, h, HSU.out]
       have HV' : Hid (v' = t.at_ k) := by show _ = _; rw [HAT.out, HA.out]
       have hs2 : v' ≤ 2000 := by have h := atF_bd HS.out k; rw [HA.out] at h; omega
       have HOB := Lib.hid (own_below HO.out ((Below.refl wr.heap.size wr).alloc (Nat.le_refl _) (.cells #[.int .i64 v'] 3)))
       have hvk := hs2
       clear HSU HA HQ HO
       have hsr := HSR.out
       clear hvk
       go_wp2_with (at_builtin; refine wpList_append_own _ rfl _ _ 47 rfl w.heap.size 3 i0 _ 1 8 Try.underlying47 HI.out HI0.out HI1.out HI2.out rfl (by decide) _ _ _ rfl HOB.out ⟨wr.heap.size, 0, none⟩ 1 1 [.int .i64 v'] rfl rfl (news_block (Blk.new wr 3 _)) (by simp [Value.oneCell']) (by unfold maxLen; omega) (by omega) (by simp; omega) ?_)
       intro v2 w5 hown5 hgrow5 _
       have HO5 : Hid (w5.ownsRow w.heap.size 3 1 v2 (k + 1) ((List.range (k + 1)).map fun d => nV (t.at_ d))) := by rw [List.range_succ, List.map_append, List.map_cons, List.map_nil, ← HV'.out]; exact hown5
       have HS5 : Hid (w.heap.size ≤ w5.heap.size) := Nat.le_trans hsr (Nat.le_trans (by simp) hgrow5.size)
       have HB5 : Hid (Below w.heap.size w w5) := HBR.out.trans (((Below.refl wr.heap.size wr).alloc (Nat.le_refl _) _).mono hsr |>.trans (Below.grown (Below.refl _ _) hgrow5 (by simp; omega) (fun q hq => (own_block HOB.out hq).1)))
       clear hown5 hgrow5
       go_wp2
       go_roundw
       case rel => exact ⟨k + 1, v', v2, by omega, by go_num, rfl, rfl, HO5, ⟨fun _ => by rw [Nat.add_sub_cancel]; exact HV'.out.symm, fun h => by omega⟩, HB5, HS5, by omega⟩
       case measure => simp [intOf]; omega
  ·obtain rfl : k = D + 1 := by omega
   go_wp2
   go_ret
   exact ⟨⟨_, rfl, HO.out⟩, HBR.out⟩
end
end Go.Proofs.Ytiodmkokpfgkkaa
