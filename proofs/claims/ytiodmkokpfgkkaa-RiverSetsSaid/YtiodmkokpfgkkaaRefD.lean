/- The walks of the reference's In (how deep is a river on a day) and right (are the looks of a set right)? Conditions: the truth's numbers are small; the river is valid. -/
import Derived.Test.YtiodmkokpfgkkaaRefC
namespace Go.Proofs.Ytiodmkokpfgkkaa
open Go.RowKit Go.Hav Go.Shelf Go.Sq
attribute [local go_sem] Oper.semAt_some
/-- A truth of small numbers. -/
structure Tr.Small (t : Tr) (n : Nat) : Prop where
  d : t.d ≤ 60
  by_ : t.by_ ≤ 60
  n3 : n ≤ 3
  ds : t.ds.length = n
  rs : t.rs.length = n
  hd : ∀ x ∈ t.ds, x ≤ 60
  hr : ∀ x ∈ t.rs, x ≤ 60
/-- Its lists lie in memory. -/
structure TrIn (w : World) (t : Tr) (dA rA : Option Addr) : Prop where
  ds : RowN nV 3 w dA t.ds
  rs : RowN nV 3 w rA t.rs
theorem TrIn.below {w w' : World} {t : Tr} {dA rA : Option Addr} (h : TrIn w t dA rA) (hb : Below w.heap.size w w') : TrIn w' t dA rA := ⟨h.ds.below hb, h.rs.below hb⟩
theorem TrIn.kt {w w' : World} {t : Tr} {dA rA : Option Addr} {B : Nat} {ty : TypeId} (h : TrIn w t dA rA) (hk : KT B ty w w') (hne : 3 ≠ ty) : TrIn w' t dA rA := ⟨h.ds.kt hk hne, h.rs.kt hk hne⟩
theorem RowN.at_ {w : World} {A : Option Addr} {l : List Nat} (h : RowN nV 3 w A l) {k x : Nat} (hx : l[k]? = some x) : ∃ b off, A = some ⟨b, off, none⟩ ∧ b < w.heap.size ∧ w.cell? ⟨b, off + k, none⟩ = some (.int .i64 x) := by
  obtain ⟨b, off, cur, h1, h2, h3⟩ := h k x hx
  exact ⟨b, off, h1, h2.lt, by rw [h2.cell]; exact h3⟩
theorem riseN_bd {t : Tr} {n : Nat} (h : t.Small n) (day : Nat) : ∀ i, riseN t.dsF t.rsF day i ≤ 60 * i
  | 0 => by simp [riseN]
  | i + 1 => by
    have h1 := riseN_bd h day i
    have hr : t.rsF i ≤ 60 := by
      unfold Tr.rsF
      rw [List.getD_eq_getElem?_getD]
      cases hx : t.rs[i]? with
      | none => simp
      | some x => exact h.hr x (List.mem_of_getElem? hx)
    rw [riseN]
    split <;> omega
theorem atF_bd {t : Tr} {n : Nat} (h : t.Small n) : ∀ day, atF t.d t.by_ n t.dsF t.rsF day ≤ 60 + 180 * day
  | 0 => by have := h.d; rw [atF]; omega
  | k + 1 => by
    have h1 := atF_bd h k
    have h2 := riseN_bd h (k + 1) n
    have h3 := h.n3
    rw [atF]
    omega
section
variable {dA rA : Option Addr} {n dc rc : Nat} {t : Tr}
set_option maxRecDepth 100000 in
set_option maxHeartbeats 1600000 in
theorem in_any (ht : t.Small n) (day : Nat) (hday : day ≤ 10) (w : World) (hT : TrIn w t dA rA) :
    Calls Try.prog 101 #[.agg #[.int .i64 t.d, .int .i64 t.by_, .slice dA n dc, .slice rA n rc], .int .i64 day] w fun e w' => e = .returned (.int .i64 (t.at_ day)) ∧ Below w.heap.size w w' := by
  have HT := Lib.hid hT
  have HS := Lib.hid ht
  have hn := ht.n3
  have hd60 := ht.d
  have hb60 := ht.by_
  have HAT : Hid (t.at_ day = atF t.d t.by_ n t.dsF t.rsF day) := by show _ = _; rw [Tr.at_, ht.ds]
  clear hT ht
  obtain ⟨W, hW⟩ : ∃ W, W = w.alloc (.cells #[.int .i64 t.d, .int .i64 t.by_, .slice dA n dc, .slice rA n rc] 86) := ⟨_, rfl⟩
  have HX : Hid (Blk W w.heap.size 86 #[.int .i64 t.d, .int .i64 t.by_, .slice dA n dc, .slice rA n rc]) := by rw [hW]; exact Blk.new w 86 _
  have HBW : Hid (Below w.heap.size w W) := by rw [hW]; exact (Below.refl _ _).alloc (Nat.le_refl _) _
  have HTW : Hid (TrIn W t dA rA) := HT.out.below HBW.out
  go_enter Try.func101, Try.ntmps101
  go_wp2_with fail
  rw [← hW]
  clear hW
  have x0 := HX.out.cell 0
  have x1 := HX.out.cell 1
  have x2 := HX.out.cell 2
  have x3 := HX.out.cell 3
  have xl := HX.out.lt
  simp at x0 x1 x2 x3
  go_wp2
  go_loopw [5, 6] (fun x i wr => ∃ (k v : Nat), k ≤ day ∧ i = .int .i64 ((k + 1 : Nat) : Int) ∧ x = .int .i64 v ∧ Hid (atF t.d t.by_ n t.dsF t.rsF k = v) ∧ v ≤ 2000 ∧ wr = W) (fun _ i _ => day + 1 - (intOf i).toNat)
  case atStart => exact ⟨0, t.d, Nat.zero_le _, rfl, rfl, rfl, by omega, rfl⟩
  case round =>
    obtain ⟨k, v, hk, rfl, rfl, HV, hv, rfl⟩ := hrel
    by_cases hlt : k + 1 ≤ day
    · obtain ⟨q, hq⟩ : ∃ q : Nat, v - t.by_ = q := ⟨_, rfl⟩
      have hmx : ∀ w, (Builtin.max_ #[3, 3] 3 #[.int .i64 0, .int .i64 ((v : Int) - t.by_)]).run Try.prog w = .ok (.int .i64 q) w := fun w => by rw [max_run]; congr 2; omega
      have HQ := Lib.hid hq
      have hq2 : q ≤ 2000 := by omega
      clear hq
      go_wp2
      obtain ⟨wo, rfl⟩ : ∃ wo : World, wo = wr := ⟨_, rfl⟩
      go_loopw [5, 7] (fun x i wr => ∃ (j s : Nat), j ≤ n ∧ i = .int .i64 j ∧ x = .int .i64 s ∧ Hid (q + riseN t.dsF t.rsF (k + 1) j = s) ∧ s ≤ 2000 + 60 * j ∧ wr = wo) (fun _ i _ => n - (intOf i).toNat)
      case atStart => exact ⟨0, q, Nat.zero_le _, rfl, rfl, rfl, by omega, rfl⟩
      case round =>
        obtain ⟨j, s, hj, rfl, rfl, HSU, hs, rfl⟩ := hrel
        by_cases hlt2 : j < n
        · obtain ⟨x, hx⟩ : ∃ x, t.ds[j]? = some x := ⟨_, List.getElem?_eq_getElem (by rw [HS.out.ds]; exact hlt2)⟩
          obtain ⟨y, hy⟩ : ∃ y, t.rs[j]? = some y := ⟨_, List.getElem?_eq_getElem (by rw [HS.out.rs]; exact hlt2)⟩
          have hx60 := HS.out.hd x (List.mem_of_getElem? hx)
          have hy60 := HS.out.hr y (List.mem_of_getElem? hy)
          have HDX : Hid (t.dsF j = x ∧ t.rsF j = y) := ⟨by unfold Tr.dsF; rw [List.getD_eq_getElem?_getD, hx]; rfl, by unfold Tr.rsF; rw [List.getD_eq_getElem?_getD, hy]; rfl⟩
          obtain ⟨b1, o1, rfl, hb1, H1⟩ := HTW.out.ds.at_ hx
          obtain ⟨b2, o2, rfl, hb2, H2⟩ := HTW.out.rs.at_ hy
          clear hx hy
          by_cases he : x = k + 1
          · have HN : Hid (q + riseN t.dsF t.rsF (k + 1) (j + 1) = s + y) := by
              show _ = _
              rw [riseN, HDX.out.1, HDX.out.2, if_pos he, ← HSU.out]; omega
            have hd : ((x : Int) == ((k + 1 : Nat) : Int)) = true := by simp; omega
            have hd2 : ((x : Int) == (k : Int) + 1) = true := by simp; omega
            clear he
            go_wp2
            go_roundw
            case rel => exact ⟨j + 1, s + y, by omega, by go_num, by go_num, HN, by omega, trivial⟩
            case measure => simp [intOf]; omega
          · have HN : Hid (q + riseN t.dsF t.rsF (k + 1) (j + 1) = s) := by
              show _ = _
              rw [riseN, HDX.out.1, if_neg he, ← HSU.out]; rfl
            have hd : ((x : Int) == ((k + 1 : Nat) : Int)) = false := by simp; omega
            have hd2 : ((x : Int) == (k : Int) + 1) = false := by simp; omega
            clear he
            go_wp2
            go_roundw
            case rel => exact ⟨j + 1, s, by omega, by go_num, rfl, HN, by omega, trivial⟩
            case measure => simp [intOf]; omega
        · obtain rfl : n = j := by omega
          have HN : Hid (atF t.d t.by_ n t.dsF t.rsF (k + 1) = s) := by
            show _ = _
            rw [atF, HV.out, HQ.out, HSU.out]
          have hs2 : s ≤ 2000 := by have h := atF_bd HS.out (k + 1); rw [HN.out] at h; omega
          go_wp2
          go_roundw
          case rel => exact ⟨k + 1, s, by omega, by go_num, rfl, HN, hs2, trivial⟩
          case measure => simp [intOf]; omega
    · obtain rfl : day = k := by omega
      have HE : Hid (t.at_ day = v) := by show _ = _; rw [HAT.out, HV.out]
      go_wp2
      go_ret
      exact ⟨ret_int (by rw [HE.out]), HBW.out⟩
end
end Go.Proofs.Ytiodmkokpfgkkaa
