/- The walk of the classer's table, whole. Conditions: the map holds what is right; the line is valid. The walks of the classer's mistaken, can, through. Conditions: the map holds what is right; the line is valid. -/
import Derived.Test.YtbfjebglaimcmaaClsE
namespace Go.Proofs.Ytbfjebglaimcmaa
open Go.RowKit Go.Hav Go.Sq
attribute [local go_sem] Oper.semAt_some
section
variable {w w' : World} {B d r bc : Nat} {ba : Option Addr} {c : Cls}
set_option maxRecDepth 100000 in
set_option maxHeartbeats 6400000 in
theorem to_step (m : Nat) (IH : Hid (∀ m', m = m' + 1 → ∀ (n : Nat) (b : Bl) (back : Bool) (w : World), TabIn w B d r ba bc c → c.bl[n]? = some b → farK c back n = m' →
    Calls Try.prog 141 #[.pointer (some ⟨d, 0, none⟩), .agg #[.int .u64 (full c.bl.length : Nat), .int .i64 n, .bool back]] w fun e w' => e = .returned (costV (kF c ⟨full c.bl.length, n, back⟩)) ∧ (GK r (kF c)).G w w'))
    (n : Nat) (b : Bl) (back : Bool) (w : World) (hT : TabIn w B d r ba bc c) (hb : c.bl[n]? = some b) (hm : farK c back n = m) :
    Calls Try.prog 141 #[.pointer (some ⟨d, 0, none⟩), .agg #[.int .u64 (full c.bl.length : Nat), .int .i64 n, .bool back]] w fun e w' => e = .returned (costV (kF c ⟨full c.bl.length, n, back⟩)) ∧ (GK r (kF c)).G w w' := by
  have HT := Lib.hid hT
  have HBL := Lib.hid hb
  have HM := Lib.hid hm
  obtain ⟨s, hs⟩ : ∃ s, full c.bl.length = s := ⟨_, rfl⟩
  have HSS := Lib.hid hs
  have hnl := (List.getElem?_eq_some_iff.1 hb).1
  have h6 := hT.ok.l6
  have hs6 : s < 64 := by rw [← hs]; exact full_small h6
  have HKO : Hid (KeyC.Ok ⟨s, n, back⟩) := ⟨hs6, by show n ≤ 5; omega⟩
  obtain ⟨is, hlk⟩ := hT.map.look ⟨s, n, back⟩ HKO.out
  have HLK : Hid (∀ wv : World, wv.heap[r]? = w.heap[r]? → (Instr.lookup 156 (.map (some r)) (keyV ⟨s, n, back⟩) true).run Try.prog wv = .ok (.tuple #[costV (if is then kF c ⟨s, n, back⟩ else fun _ => 0), .bool is]) wv) := fun wv hv => by rw [hlk wv hv]; cases is <;> rfl
  have hne := hT.ne
  have hdl := hT.blk.lt
  have hrl := hT.map.lt
  rw [hs]
  obtain ⟨W, hW⟩ : ∃ W, W = (w.alloc (.cells #[.int .u64 s, .int .i64 n, .bool back] 186)).alloc (.cells (costA fun _ => 0) 162) := ⟨_, rfl⟩
  have HX : Hid (Blk W w.heap.size 186 #[.int .u64 s, .int .i64 n, .bool back]) := by rw [hW]; exact (Blk.new w 186 _).alloc _
  have HC : Hid (Blk W (w.heap.size + 1) 162 (costA fun _ => 0)) := by rw [hW]; exact Blk.new_ (by simp) 162 _
  have HB : Hid (Below w.heap.size w W) := by rw [hW]; exact ((Below.refl _ _).alloc (Nat.le_refl _) _).alloc (by simp) _
  have hz := Try.zero162
  unfold costV at hz
  clear hT hb hm hs hlk
  go_enter Try.func141, Try.ntmps141
  conv => arg 2; arg 2; arg 2; arg 2; arg 2; change toK 4
  go_upto_region 1 with (fail)
  rw [← hW]
  clear hW
  have HTW := Lib.hid (HT.out.below HB.out)
  have t4 := HTW.out.blk.cell 4
  simp [tabC] at t4
  have tl := HTW.out.blk.lt
  have x0 := HX.out.cell 0
  have x1 := HX.out.cell 1
  have x2 := HX.out.cell 2
  have xl := HX.out.lt
  simp at x0 x1 x2
  refine HavG.wp_region_stg (fun wv => Below W.heap.size W wv) [(0,false),(1,false),(2,false),(3,false),(4,false),(5,false),(6,false),(7,false),(8,false),(9,true),(10,true)] [11] (fun _ _ => False) (by kernel_rfl) (by kernel_rfl) (fun _ _ _ _ h => h.elim) (Below.drew (Below.refl _ _)) ?_
  (apply HavG.stg_same (by simp only [List.getElem?_toArray, List.getElem?_cons_zero]; rfl) (by kernel_rfl); (focus (intro wv hI; have hcv : ∀ b o, b < _ → wv.cell? ⟨b, o, none⟩ = _ := fun b o hb => Below.cell hI (p := ⟨b, o, none⟩) hb; (try go_simp); try rfl; done)); simp only [Act.put, List.setIfInBounds_toArray, List.set_cons_succ, List.set_cons_zero])
  iterate 4 (apply HavG.stg_same (by simp only [List.getElem?_toArray, List.getElem?_cons_succ, List.getElem?_cons_zero]; rfl) (by kernel_rfl); (focus (intro wv hI; have hcv : ∀ b o, b < _ → wv.cell? ⟨b, o, none⟩ = _ := fun b o hb => Below.cell hI (p := ⟨b, o, none⟩) hb; (try go_simp); try rfl; done)); simp only [Act.put, List.setIfInBounds_toArray, List.set_cons_succ, List.set_cons_zero])
  (apply HavG.stg_same (by simp only [List.getElem?_toArray, List.getElem?_cons_succ, List.getElem?_cons_zero]; rfl) (by kernel_rfl); (focus (intro wv hI; exact exec_lookup 156 _ _ rfl rfl rfl (HLK.out wv ((Below.block hI r (by have := HB.out.size; omega)).trans (HB.out.block r hrl))))); simp only [Act.put, List.setIfInBounds_toArray, List.set_cons_succ, List.set_cons_zero])
  iterate 3 (apply HavG.stg_same (by simp only [List.getElem?_toArray, List.getElem?_cons_succ, List.getElem?_cons_zero]; rfl) (by kernel_rfl); (focus (intro wv hI; have hcv : ∀ b o, b < _ → wv.cell? ⟨b, o, none⟩ = _ := fun b o hb => Below.cell hI (p := ⟨b, o, none⟩) hb; (try go_simp); try rfl; done)); simp only [Act.put, List.setIfInBounds_toArray, List.set_cons_succ, List.set_cons_zero])
  apply HavG.stg_val (by simp only [List.getElem?_toArray, List.getElem?_cons_succ, List.getElem?_cons_zero]; rfl) (by kernel_rfl) (exec_alloc162 _ rfl) (((Below.refl _ W).drew).alloc (Nat.le_refl _) _)
  simp only [Act.put, List.setIfInBounds_toArray, List.set_cons_succ, List.set_cons_zero]
  obtain ⟨g, hg⟩ : ∃ g, W.drew.heap.size = g := ⟨_, rfl⟩
  have HGE : Hid (W.heap.size = g) := hg
  have hh : Blk (W.drew.alloc (.cells (costA fun _ => 0) 162)) g 162 (costA fun _ => 0) := by rw [← hg]; exact Blk.new _ _ _
  rw [hg]
  refine HavG.stg_store (by simp only [List.getElem?_toArray, List.getElem?_cons_succ, List.getElem?_cons_zero]; rfl) rfl (by kernel_rfl) (exec_storeW 162 _ _ rfl rfl rfl (wide_store (cs := costA (if is then kF c ⟨s, n, back⟩ else fun _ => 0)) hh size162 (costA_size _) (costA_size _) (costA_one _))) ?_ ?_
  · exact below_setRow (((Below.refl g W).drew).alloc (Nat.le_of_eq HGE.out.symm) _) (Nat.le_refl _) _
  obtain ⟨W1, hW1⟩ : ∃ x, x = (W.drew.alloc (.cells (costA fun _ => 0) 162)).setRow g (costA (if is then kF c ⟨s, n, back⟩ else fun _ => 0)) := ⟨_, rfl⟩
  have HG1 : Hid (Blk W1 g 162 (costA (if is then kF c ⟨s, n, back⟩ else fun _ => 0))) := by show Blk _ _ _ _; rw [hW1]; exact setRow_blk hh _
  have HB1 : Hid (Below W.heap.size W W1) := by show Below _ _ _; rw [hW1]; rw [HGE.out]; exact below_setRow (((Below.refl g W).drew).alloc (Nat.le_of_eq HGE.out.symm) _) (Nat.le_refl _) _
  rw [← hW1]
  have HX1 := Lib.hid (HX.out.below HB1.out HX.out.lt)
  have HC1 := Lib.hid (HC.out.below HB1.out HC.out.lt)
  have HT1 := Lib.hid (HTW.out.below HB1.out)
  have HB01 : Hid (Below w.heap.size w W1) := HB.out.trans (HB1.out.mono HB.out.size)
  have HK1 : Hid ((GK r (kF c)).G w W1) := GK.below HB01.out
  have HGN : Hid (w.heap.size + 1 < g) := by show _ < _; rw [← HGE.out]; exact HC.out.lt
  clear hW1 hh hg t4 tl x0 x1 x2 xl
  simp only [HavG.wpStg, List.filterMap]
  have x0 := HX1.out.cell 0
  have x1 := HX1.out.cell 1
  have x2 := HX1.out.cell 2
  have xl := HX1.out.lt
  simp at x0 x1 x2
  cases is
  case true =>
    simp only [if_true] at HG1
    have hR := setRow_blk HC1.out (costA (kF c ⟨s, n, back⟩))
    have hld := res_load (cost_load hR)
    unfold costV at hld
    go_wp2_with (first | refine wpList_loadW 162 _ rfl rfl rfl (cost_load HG1.out) ?_ | refine wpList_storeW 162 _ _ rfl rfl rfl rfl (cost_store HC1.out _) ?_)
    refine bodyPost_ret (v := costV (kF c ⟨s, n, back⟩)) ?_ rfl ⟨rfl, GK.below (below_setRow HB01.out (by omega) _)⟩
    simp [results, Try.results141, hld, costV]
  case false =>
    clear HG1
    have hne' := HT1.out.ne
    have hI : ToIn w W1 B d r ba bc c ⟨s, n, back⟩ w.heap.size (w.heap.size + 1) := ⟨HKO.out, HX1.out, HC1.out, HT1.out, HK1.out, by omega, by omega, by omega, hdl⟩
    have HI := Lib.hid hI
    have t0 := HT1.out.blk.cell 0
    have tl := HT1.out.blk.lt
    simp [tabC] at t0
    obtain ⟨len, hlen⟩ : ∃ x, c.bl.length = x := ⟨_, rfl⟩
    have HLN := Lib.hid hlen
    rw [hlen] at t0 h6
    clear hI hlen
    have hn5 : n ≤ 5 := HKO.out.2
    have HW1 : Hid (¬ n = 0 → IntKind.i64.wrap ((n : Int) + -1) = ((n - 1 : Nat) : Int)) := fun h => (IntWalk.i64_in _ (by omega)).trans (by omega)
    have HW2 : Hid (IntKind.i64.wrap ((n : Int) + 1) = ((n + 1 : Nat) : Int)) := (IntWalk.i64_in _ (by omega)).trans (by omega)
    cases back
    · go_wp2_with fail
      exact to_t4 HI.out HBL.out HSS.out.symm rfl (fun hn => ⟨HW1.out hn, fun wv hT => by
        have : ¬ n = 0 := hn
        have h := IH.out (m - 1) (by have := HM.out; unfold farK at this; simp at this; omega) (n - 1) (c.bl[n - 1]'(by omega)) false wv hT (List.getElem?_eq_getElem (by omega)) (by have := HM.out; unfold farK at this ⊢; simp at this ⊢; omega)
        rw [HSS.out] at h
        exact h⟩)
    · go_wp2_with fail
      exact to_t4 HI.out HBL.out HSS.out.symm (by show _ = ((c.bl.length - 1 : Nat) : Int); have := HLN.out; omega) (fun hn => ⟨HW2.out, fun wv hT => by
        have h0 : ¬ n = c.bl.length - 1 := hn
        have h := IH.out (m - 1) (by have := HM.out; unfold farK at this; simp at this; omega) (n + 1) (c.bl[n + 1]'(by omega)) true wv hT (List.getElem?_eq_getElem (by omega)) (by have := HM.out; unfold farK at this ⊢; simp at this ⊢; omega)
        rw [HSS.out] at h
        exact h⟩)
theorem to_all : ∀ (m : Nat) (n : Nat) (b : Bl) (back : Bool) (w : World), TabIn w B d r ba bc c → c.bl[n]? = some b → farK c back n = m →
    Calls Try.prog 141 #[.pointer (some ⟨d, 0, none⟩), .agg #[.int .u64 (full c.bl.length : Nat), .int .i64 n, .bool back]] w fun e w' => e = .returned (costV (kF c ⟨full c.bl.length, n, back⟩)) ∧ (GK r (kF c)).G w w'
  | 0, n, b, back, w, hT, hb, hm => to_step 0 (fun m' h => by omega) n b back w hT hb hm
  | m + 1, n, b, back, w, hT, hb, hm => to_step (m + 1) (fun m' h => by
      obtain rfl : m = m' := by omega
      exact to_all m) n b back w hT hb hm
/-- The costs of all bales up to one, from an end. -/
theorem to_any (w : World) (hT : TabIn w B d r ba bc c) {n : Nat} (hn : n < c.bl.length) (back : Bool) :
    Calls Try.prog 141 #[.pointer (some ⟨d, 0, none⟩), .agg #[.int .u64 (full c.bl.length : Nat), .int .i64 n, .bool back]] w fun e w' => e = .returned (costV (kF c ⟨full c.bl.length, n, back⟩)) ∧ (GK r (kF c)).G w w' :=
  to_all _ n _ back w hT (List.getElem?_eq_getElem hn) rfl
end
end Go.Proofs.Ytbfjebglaimcmaa
namespace Go.Proofs.Ytbfjebglaimcmaa
open Go.RowKit Go.Hav Go.Sq
attribute [local go_sem] Oper.semAt_some
theorem toC_own {d : Nat} {tk : Nat → Bool} (i : Nat) : ∀ (l : List (Nat × Bl)) (k : Nat) (b : Bl), toC d tk ((k, b) :: l) i < farC → ownC b (tk k) i ≤ toC d tk ((k, b) :: l) i
  | [], _, _, _ => Nat.le_refl _
  | p :: l, k, b, h => by
    have e : toC d tk ((k, b) :: p :: l) i = min farC (driftC d (toC d tk (p :: l)) i + ownC b (tk k) i) := rfl
    rw [e] at h ⊢
    omega
section
variable {w w' V : World} {B d r bc : Nat} {ba : Option Addr} {c : Cls}
set_option maxRecDepth 100000 in
set_option maxHeartbeats 800000 in
theorem mistaken_any (w : World) (h : TabIn w B d r ba bc c) : Calls Try.prog 129 #[.pointer (some ⟨d, 0, none⟩), .int .u64 (full c.bl.length : Nat)] w fun e w' => e = .returned (.int .i64 (mistakenC c (fun _ => true) : Nat)) ∧ (GK r (kF c)).G w w' := by
  have HT := Lib.hid h
  have c0 := h.blk.cell 0
  have hl := h.blk.lt
  have h6 := h.ok.l6
  have h1 := h.ok.l1
  simp [tabC] at c0
  obtain ⟨s, hs⟩ : ∃ s, full c.bl.length = s := ⟨_, rfl⟩
  have HS := Lib.hid hs
  rw [hs]
  obtain ⟨m, hm⟩ : ∃ n, c.bl.length = n + 1 := ⟨c.bl.length - 1, by omega⟩
  have HMM := Lib.hid hm
  have hlm : (c.bl.length : Int) - 1 = (m : Nat) := by omega
  clear h hs hm
  go_enter Try.func129, Try.ntmps129
  go_wp2_with fail
  have hq := to_any w HT.out (n := m) (by rw [HMM.out]; omega) false
  rw [HS.out] at hq
  refine hq.mono ?_
  rintro e w1 ⟨rfl, hg⟩
  have HE : Hid (leastI (kF c ⟨s, m, false⟩) 0 30 = (mistakenC c (fun _ => true) : Nat)) := by
    show _ = _
    unfold kF mistakenC leastC
    rw [leastI_cI, HMM.out]
    rfl
  have HG := Lib.hid hg
  clear hg hq c0 hl
  go_wp2_with fail
  refine (least_any _ _).mono ?_
  rw [HE.out]
  rintro e w2 ⟨rfl, hb⟩
  have HG2 : Hid ((GK r (kF c)).G w w2) := (GK r (kF c)).trans HG.out (GK.below hb)
  clear hb
  go_wp2
  go_ret
  exact ⟨rfl, HG2.out⟩
set_option maxRecDepth 100000 in
set_option maxHeartbeats 800000 in
theorem can_any (w : World) (h : TabIn w B d r ba bc c) : Calls Try.prog 91 #[.pointer (some ⟨d, 0, none⟩), .int .u64 (full c.bl.length : Nat)] w fun e w' => e = .returned (.bool (decide (mistakenC c (fun _ => true) ≤ c.mis))) ∧ (GK r (kF c)).G w w' := by
  have HT := Lib.hid h
  obtain ⟨s, hs⟩ : ∃ s, full c.bl.length = s := ⟨_, rfl⟩
  have HS := Lib.hid hs
  rw [hs]
  obtain ⟨M, hM⟩ : ∃ s, mistakenC c (fun _ => true) = s := ⟨_, rfl⟩
  have HM := Lib.hid hM
  rw [hM]
  have hdd : decide ((M : Int) ≤ c.mis) = decide (M ≤ c.mis) := decide_eq_decide.2 (by omega)
  clear h hs hM
  go_enter Try.func91, Try.ntmps91
  go_upto_region 1 with (fail)
  refine HavG.wp_region_stg (fun wv => (GK r (kF c)).G w wv) [(0,false),(1,false),(3,false),(4,false),(5,false),(6,false),(7,false),(2,true),(8,false)] [9] (fun _ _ => False) (by kernel_rfl) (by kernel_rfl) (fun _ _ _ _ h => h.elim) ((GK r (kF c)).drew _) ?_
  (apply HavG.stg_same (by simp only [List.getElem?_toArray, List.getElem?_cons_zero]; rfl) (by kernel_rfl); (focus (intro wv hI; skip; (try go_simp); try rfl; done)); simp only [Act.put, List.setIfInBounds_toArray, List.set_cons_succ, List.set_cons_zero])
  iterate 6 (apply HavG.stg_same (by simp only [List.getElem?_toArray, List.getElem?_cons_succ, List.getElem?_cons_zero]; rfl) (by kernel_rfl); (focus (intro wv hI; have hx := (HT.out.keep hI).blk; have x3 := hx.cell 3; have xl := hx.lt; (simp [tabC] at x3); clear hx hI; (try go_simp); try rfl; done)); simp only [Act.put, List.setIfInBounds_toArray, List.set_cons_succ, List.set_cons_zero])
  (apply HavG.stg_call (by simp only [List.getElem?_toArray, List.getElem?_cons_succ, List.getElem?_cons_zero]; rfl) (by kernel_rfl); (focus (go_simp; try exact ⟨rfl, rfl⟩; done)))
  have hq := mistaken_any w.drew (HT.out.keep ((GK r (kF c)).drew _))
  rw [HS.out, HM.out] at hq
  refine hq.mono ?_
  rintro e w1 ⟨rfl, hg⟩
  have HG1 : Hid ((GK r (kF c)).G w w1) := (GK r (kF c)).trans ((GK r (kF c)).drew _) hg
  refine .inl ⟨_, rfl, HG1.out, ?_⟩
  simp only [Act.put, List.setIfInBounds_toArray, List.set_cons_succ, List.set_cons_zero]
  (apply HavG.stg_same (by simp only [List.getElem?_toArray, List.getElem?_cons_succ, List.getElem?_cons_zero]; rfl) (by kernel_rfl); (focus (intro wv hI; clear hI; (try go_simp); try rfl; done)); simp only [Act.put, List.setIfInBounds_toArray, List.set_cons_succ, List.set_cons_zero])
  simp only [HavG.wpStg, List.filterMap]
  clear hq hg
  go_wp2
  go_ret
  exact ⟨rfl, HG1.out⟩
noncomputable def thK (n : Nat) : Code := dropC n (Try.f126.body.getD .skip)
variable {Post : Ending → World → Prop} {y g7 g8 g9 : Nat} {O A C : Nat → Nat}
def thC (O A C : Nat → Nat) (i : Nat) : Nat := if farC ≤ A i ∨ farC ≤ C i then farC else A i + C i - O i
set_option maxRecDepth 100000 in
set_option maxHeartbeats 6400000 in
theorem through3 (hP : ∀ Wz, Turn (fun b => b = y ∨ b = g8) V Wz → Post (.returned (costV (cI (thC O A C)))) Wz) (hy : Blk V y 162 (costA fun _ => 0)) (h7 : Blk V g7 162 (costA (cI O))) (h8 : Blk V g8 162 (costA (cI A))) (h9 : Blk V g9 162 (costA (cI C)))
    (hO : ∀ i, i < 31 → A i < farC → O i ≤ A i) (hA : ∀ i, i < 31 → A i ≤ farC ∧ C i ≤ farC) (n1 : g8 ≠ y ∧ g8 ≠ g7 ∧ g8 ≠ g9) {s0 s1 s2 s3 s4 s5 s10 s11 s12 s13 s14 s15 s16 s17 s18 s19 s20 s21 s22 s23 s24 s25 s26 s27 s28 s29 s30 s31 s32 s33 s34 s35 s36 s37 s38 s39 s40 s41 s42 s43 s44 s45 s46 s47 s48 s49 s50 s51 s52 s53 s54 : Value} :
    Code.wp Try.prog (thK 3) (bodyPost Try.prog Try.f126 Post) ⟨(s0::s1::s2::s3::s4::s5::(.pointer (some ⟨y, 0, none⟩))::(.pointer (some ⟨g7, 0, none⟩))::(.pointer (some ⟨g8, 0, none⟩))::(.pointer (some ⟨g9, 0, none⟩))::s10::s11::s12::s13::s14::s15::s16::s17::s18::s19::s20::s21::s22::s23::s24::s25::s26::s27::s28::s29::s30::s31::s32::s33::s34::s35::s36::s37::s38::s39::s40::s41::s42::s43::s44::s45::s46::s47::s48::s49::s50::s51::s52::s53::s54::[]).toArray, []⟩ V := by
  have HP := Lib.hid hP
  have HY := Lib.hid hy
  have H7 := Lib.hid h7
  have H8 := Lib.hid h8
  have H9 := Lib.hid h9
  have HO := Lib.hid hO
  have HA := Lib.hid hA
  have HN := Lib.hid n1
  clear hP hy h7 h8 h9 hO hA n1
  conv => arg 2; whnf
  go_upto_region 4 with (fail)
  go_loopw [26] (fun i wr => ∃ k : Nat, k ≤ 31 ∧ i = .int .i64 k ∧ Blk wr g8 162 (costA (upC (cI (thC O A C)) (cI A) k)) ∧ Turn (fun b => b = g8) V wr) (fun i _ => 31 - (intOf i).toNat)
  case atStart => exact ⟨0, by omega, rfl, by rw [upC_zero]; exact H8.out, Turn.refl _ _⟩
  case round =>
    obtain ⟨k, hk, rfl, h8, ht⟩ := hrel
    have H8R := Lib.hid h8
    have HTR := Lib.hid ht
    have H7R := Lib.hid (H7.out.turn ht (fun e => HN.out.2.1 e.symm))
    have H9R := Lib.hid (H9.out.turn ht (fun e => HN.out.2.2 e.symm))
    have HYR := Lib.hid (HY.out.turn ht (fun e => HN.out.1 e.symm))
    clear h8 ht
    by_cases hlt : k < 31
    · have hki : (k : Int) < 31 := by omega
      have a0 := H8R.out.cell k
      have b0 := H9R.out.cell k
      have o0 := H7R.out.cell k
      have f8 := H8R.out.frozen k
      have l8 := H8R.out.lt
      have l9 := H9R.out.lt
      have l7 := H7R.out.lt
      rw [costA_get _ hlt, upC_at] at a0
      rw [costA_get _ hlt] at b0 o0
      unfold cI at a0 b0 o0
      obtain ⟨a, ha⟩ : ∃ a, A k = a := ⟨_, rfl⟩
      obtain ⟨b, hb⟩ : ∃ b, C k = b := ⟨_, rfl⟩
      obtain ⟨o, ho⟩ : ∃ o, O k = o := ⟨_, rfl⟩
      have hOk := HO.out k hlt
      have hAk := HA.out k hlt
      have HS : Hid (∀ v : Int, v = cI (thC O A C) k → Blk (wr.setCell ⟨g8, k, none⟩ (.int .i64 v)) g8 162 (costA (upC (cI (thC O A C)) (cI A) (k + 1)))) := fun v hv => by
        subst hv
        have h := H8R.out.set_ k (.int .i64 (cI (thC O A C) k))
        rwa [upC_set _ _ hlt] at h
      have HV : Hid (cI (thC O A C) k = ((if farC ≤ a ∨ farC ≤ b then farC else a + b - o : Nat) : Int)) := by show _ = _; unfold cI thC; rw [ha, hb, ho]
      have HTS : Hid (∀ v, Turn (fun b => b = g8) V (wr.setCell ⟨g8, k, none⟩ v)) := fun v => HTR.out.trans (Turn.set _ _ (fun _ => rfl))
      rw [ha] at a0
      rw [hb] at b0
      rw [ho] at o0
      rw [ha, ho] at hOk
      rw [ha, hb] at hAk
      unfold farC at hOk hAk HV
      clear ha hb ho
      by_cases h1 : 65536 ≤ a ∨ 65536 ≤ b
      · rw [if_pos h1] at HV
        rcases h1 with h1 | h1
        · have hd : decide ((65536 : Int) ≤ a) = true := by simp; omega
          go_wp2
          go_roundw
          case rel => exact ⟨k + 1, by omega, by go_num, HS.out _ HV.out.symm, HTS.out _⟩
          case measure => simp [intOf]; omega
        · have hd2 : decide ((65536 : Int) ≤ b) = true := by simp; omega
          by_cases h2 : 65536 ≤ a
          · have hd : decide ((65536 : Int) ≤ a) = true := by simp; omega
            go_wp2
            go_roundw
            case rel => exact ⟨k + 1, by omega, by go_num, HS.out _ HV.out.symm, HTS.out _⟩
            case measure => simp [intOf]; omega
          · have hd : decide ((65536 : Int) ≤ a) = false := by simp; omega
            go_wp2
            go_roundw
            case rel => exact ⟨k + 1, by omega, by go_num, HS.out _ HV.out.symm, HTS.out _⟩
            case measure => simp [intOf]; omega
      · rw [if_neg h1] at HV
        have hd : decide ((65536 : Int) ≤ a) = false := by simp; omega
        have hd2 : decide ((65536 : Int) ≤ b) = false := by simp; omega
        go_upto_region 8 with (fail)
        go_region
        go_wp2_with fail
        go_roundw
        case rel =>
          refine ⟨k + 1, by omega, by go_num, (HS.out _ ?_).drew, (HTS.out _).drew⟩
          rw [HV.out]
          have := hOk (by omega)
          omega
        case measure => simp [intOf]; omega
    · obtain rfl : k = 31 := by omega
      rw [upC_full] at H8R
      have hR := setRow_blk HYR.out (costA (cI (thC O A C)))
      have hld := res_load (cost_load hR)
      go_wp2_with (first | refine wpList_loadW 162 _ rfl rfl rfl (cost_load H8R.out) ?_ | refine wpList_storeW 162 _ _ rfl rfl rfl rfl (cost_store HYR.out _) ?_)
      refine bodyPost_ret (v := costV (cI (thC O A C))) ?_ rfl (HP.out _ ((HTR.out.mono fun _ e => .inr e).trans ((setRow_turn _ y _).mono fun _ e => .inl e)))
      simp [results, Try.results126, Act.put, hld]
def ThPost (w : World) (r : Nat) (c : Cls) (n : Nat) (b : Bl) (e : Ending) (w' : World) : Prop := e = .returned (costV (cI (throughC c (fun _ => true) n b))) ∧ (GK r (kF c)).G w w'
set_option maxRecDepth 100000 in
set_option maxHeartbeats 6400000 in
theorem through2 {n : Nat} {b : Bl} (hT : TabIn V B d r ba bc c) (hb : c.bl[n]? = some b) (hg : (GK r (kF c)).G w V) (hy : Blk V y 162 (costA fun _ => 0)) (h7 : Blk V g7 162 (costA (cI (ownC b true)))) (n1 : y ≠ r ∧ g7 ≠ r ∧ w.heap.size ≤ y) {s3 s4 s5 s8 s9 s10 s11 s12 s13 s14 s15 s16 s17 s18 s19 s20 s21 s22 s23 s24 s25 s26 s27 s28 s29 s30 s31 s32 s33 s34 s35 s36 s37 s38 s39 s40 s41 s42 s43 s44 s45 s46 s47 s48 s49 s50 s51 s52 s53 s54 : Value} :
    Code.wp Try.prog (thK 2) (bodyPost Try.prog Try.f126 (ThPost w r c n b)) ⟨((.pointer (some ⟨d, 0, none⟩))::(.int .i64 n)::(.int .u64 (full c.bl.length : Nat))::s3::s4::s5::(.pointer (some ⟨y, 0, none⟩))::(.pointer (some ⟨g7, 0, none⟩))::s8::s9::s10::s11::s12::s13::s14::s15::s16::s17::s18::s19::s20::s21::s22::s23::s24::s25::s26::s27::s28::s29::s30::s31::s32::s33::s34::s35::s36::s37::s38::s39::s40::s41::s42::s43::s44::s45::s46::s47::s48::s49::s50::s51::s52::s53::s54::[]).toArray, []⟩ V := by
  have HT := Lib.hid hT
  have HBL := Lib.hid hb
  have HG := Lib.hid hg
  have HY := Lib.hid hy
  have H7 := Lib.hid h7
  have HN := Lib.hid n1
  have HNL := Lib.hid (List.getElem?_eq_some_iff.1 hb).1
  obtain ⟨s, hs⟩ : ∃ s, full c.bl.length = s := ⟨_, rfl⟩
  have HS := Lib.hid hs
  rw [hs]
  clear hT hb hg hy h7 n1 hs
  conv => arg 2; whnf
  conv => arg 2; arg 2; change thK 3
  go_wp2_with fail
  have hq := to_any V HT.out HNL.out false
  rw [HS.out] at hq
  refine hq.mono ?_
  rintro e v1 ⟨rfl, hg1⟩
  have HG1 := Lib.hid hg1
  clear hq hg1
  go_wp2_with fail
  have hq := to_any v1 (HT.out.keep HG1.out) HNL.out true
  rw [HS.out] at hq
  refine hq.mono ?_
  rintro e v2 ⟨rfl, hg2⟩
  have HG2 : Hid ((GK r (kF c)).G V v2) := (GK r (kF c)).trans HG1.out hg2
  have h8 : Blk ((v2.alloc (.cells (costA fun _ => 0) 162)).alloc (.cells (costA fun _ => 0) 162)) v2.heap.size 162 (costA fun _ => 0) := (Blk.new v2 162 _).alloc _
  have hst8 := cost_store h8 (kF c ⟨s, n, false⟩)
  obtain ⟨Wa, hWa⟩ : ∃ x, x = ((v2.alloc (.cells (costA fun _ => 0) 162)).alloc (.cells (costA fun _ => 0) 162)).setRow v2.heap.size (costA (kF c ⟨s, n, false⟩)) := ⟨_, rfl⟩
  have H8a : Hid (Blk Wa v2.heap.size 162 (costA (kF c ⟨s, n, false⟩))) := by rw [hWa]; exact setRow_blk h8 _
  have h9 : Blk Wa (v2.heap.size + 1) 162 (costA fun _ => 0) := by rw [hWa]; exact (Blk.new_ (by simp) 162 _).turn (setRow_turn _ _ _) (by omega)
  have HBa : Hid (Below v2.heap.size v2 Wa) := by show Below _ _ _; rw [hWa]; exact below_setRow (((Below.refl _ _).alloc (Nat.le_refl _) _).alloc (by simp) _) (Nat.le_refl _) _
  rw [← hWa] at hst8
  have hst9 := cost_store h9 (kF c ⟨s, n, true⟩)
  obtain ⟨Wb, hWb⟩ : ∃ x, x = Wa.setRow (v2.heap.size + 1) (costA (kF c ⟨s, n, true⟩)) := ⟨_, rfl⟩
  have H9b : Hid (Blk Wb (v2.heap.size + 1) 162 (costA (kF c ⟨s, n, true⟩))) := by rw [hWb]; exact setRow_blk h9 _
  have H8b : Hid (Blk Wb v2.heap.size 162 (costA (kF c ⟨s, n, false⟩))) := by rw [hWb]; exact H8a.out.turn (setRow_turn _ _ _) (by omega)
  have HBb : Hid (Below v2.heap.size v2 Wb) := by show Below _ _ _; rw [hWb]; exact below_setRow HBa.out (by omega) _
  rw [← hWb] at hst9
  have hz := Try.zero162
  unfold costV at hz
  clear hWa hWb h8 h9 hq hg2
  go_wp2_with (first | refine wpList_storeW 162 _ _ rfl rfl rfl rfl hst8 ?_ | refine wpList_storeW 162 _ _ rfl rfl rfl rfl hst9 ?_)
  have hts := HG2.out.1.size
  have hlr := HT.out.map.lt
  have hl7 := H7.out.lt
  have hly := HY.out.lt
  have hsw := HG.out.1.size
  have HGb : Hid ((GK r (kF c)).G w Wb) := (GK r (kF c)).trans HG.out ((GK r (kF c)).trans HG2.out (GK.below HBb.out))
  have hok := HT.out.ok
  exact through3 (O := ownC b true) (A := toC c.drift (fun _ => true) (frontL c n)) (C := toC c.drift (fun _ => true) (backL c n))
    (fun Wz ht => ⟨rfl, HGb.out.1.join ht (fun z e hz => by have e' : z = y ∨ z = v2.heap.size := e; have := HN.out.2.2; omega), fun hm => (HGb.out.2 hm).keep (ht.block r (by have := HBb.out.size; omega) (fun e => by have e' : r = y ∨ r = v2.heap.size := e; have := HN.out.1; omega))⟩)
    ((HY.out.turn HG2.out.1 HN.out.1).below HBb.out (by omega)) ((H7.out.turn HG2.out.1 HN.out.2.1).below HBb.out (by omega)) H8b.out H9b.out
    (fun i _ hlt => by obtain ⟨l, e, -⟩ := frontL_at HBL.out; rw [e] at hlt ⊢; exact toC_own i l n b hlt)
    (fun i _ => ⟨by have := (kF_far hok ⟨s, n, false⟩ i).2; unfold kF cI at this; simp at this; unfold farC; omega, by have := (kF_far hok ⟨s, n, true⟩ i).2; unfold kF cI at this; simp at this; unfold farC; omega⟩)
    ⟨by omega, by omega, by omega⟩
set_option maxRecDepth 100000 in
set_option maxHeartbeats 6400000 in
theorem through_any (w : World) (hT : TabIn w B d r ba bc c) {n : Nat} {b : Bl} (hb : c.bl[n]? = some b) :
    Calls Try.prog 126 #[.pointer (some ⟨d, 0, none⟩), .int .i64 n, .int .u64 (full c.bl.length : Nat)] w (ThPost w r c n b) := by
  have HT := Lib.hid hT
  have HBL := Lib.hid hb
  have HBK : Hid (BlOk b) := hT.ok.bl b (List.mem_of_getElem? hb)
  obtain ⟨W, hW⟩ : ∃ W, W = w.alloc (.cells (costA fun _ => 0) 162) := ⟨_, rfl⟩
  have HY : Hid (Blk W w.heap.size 162 (costA fun _ => 0)) := by rw [hW]; exact Blk.new w 162 _
  have HB : Hid (Below w.heap.size w W) := by rw [hW]; exact (Below.refl _ _).alloc (Nat.le_refl _) _
  have HTW := Lib.hid (hT.below HB.out)
  have hz := Try.zero162
  unfold costV at hz
  clear hT hb
  go_enter Try.func126, Try.ntmps126
  conv => arg 2; arg 2; arg 2; change thK 2
  go_upto_region 1 with (fail)
  rw [← hW]
  clear hW hz
  go_wp2_with fail
  refine (step_any W HTW.out HBL.out).mono ?_
  rintro e w1 ⟨rfl, hb1⟩
  have HB1 := Lib.hid hb1
  clear hb1
  go_wp2_with fail
  refine (own_any c.drift b HBK.out w1).mono ?_
  rintro e w2 ⟨rfl, hb2⟩
  have HB2 : Hid (Below W.heap.size W w2) := HB1.out.trans (hb2.mono HB1.out.size)
  have h7 := Blk.new w2 162 (costA fun _ => 0)
  have hst := cost_store h7 (cI (ownC b true))
  obtain ⟨W2, hW2⟩ : ∃ x, x = (w2.alloc (.cells (costA fun _ => 0) 162)).setRow w2.heap.size (costA (cI (ownC b true))) := ⟨_, rfl⟩
  have H7 : Hid (Blk W2 w2.heap.size 162 (costA (cI (ownC b true)))) := by rw [hW2]; exact setRow_blk h7 _
  have HBW : Hid (Below W.heap.size W W2) := by show Below _ _ _; rw [hW2]; exact below_setRow (HB2.out.alloc HB2.out.size _) HB2.out.size _
  rw [← hW2] at hst
  have hz := Try.zero162
  unfold costV at hz
  clear hW2 h7 hb2
  go_wp2_with (first | refine wpList_storeW 162 _ _ rfl rfl rfl rfl hst ?_)
  have h1 := HB2.out.size
  have h2 := HT.out.map.lt
  have h3 := HB.out.size
  have h4 := HY.out.lt
  exact through2 (HTW.out.below HBW.out) HBL.out (GK.below (HB.out.trans (HBW.out.mono HB.out.size))) (HY.out.below HBW.out HY.out.lt) H7.out ⟨by omega, by omega, Nat.le_refl _⟩
end
end Go.Proofs.Ytbfjebglaimcmaa
