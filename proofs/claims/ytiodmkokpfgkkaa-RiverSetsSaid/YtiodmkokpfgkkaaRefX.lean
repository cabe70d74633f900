/- The walks of the reference's Fresh, Bears. No condition. -/
import Derived.Test.YtiodmkokpfgkkaaRefW
namespace Go.Proofs.Ytiodmkokpfgkkaa
open Go.RowKit Go.Hav Go.Shelf Go.Sq
attribute [local go_sem] Oper.semAt_some
theorem orP_snoc : ∀ (l : List Nat) (x : Nat), orP (l ++ [x]) = orP l ||| 2 ^ x
  | [], x => by simp [orP]
  | y :: l, x => by rw [List.cons_append, orP, orP, orP_snoc l x, Nat.or_assoc]
theorem or_bit {n x : Nat} (h : n.testBit x = false) (hn : n < 2 ^ 40) (hx : x < 40) : n ||| 2 ^ x = n + 2 ^ x := by
  have hp : 2 ^ x < 2 ^ 40 := Nat.pow_lt_pow_right (by omega) hx
  have e := BitVec.add_eq_or_of_and_eq_zero (w := 64) (BitVec.ofNat 64 n) (BitVec.ofNat 64 (2 ^ x)) (by
    apply BitVec.eq_of_toNat_eq
    simp only [BitVec.toNat_and, BitVec.toNat_ofNat]
    rw [Nat.mod_eq_of_lt (by omega), Nat.mod_eq_of_lt (by omega)]
    refine Nat.eq_of_testBit_eq fun i => ?_
    rw [Nat.testBit_and, Nat.testBit_two_pow]
    by_cases hi : x = i
    · subst hi; simp [h]
    · simp [hi])
  have h2 := congrArg BitVec.toNat e
  simp only [BitVec.toNat_add, BitVec.toNat_or, BitVec.toNat_ofNat] at h2
  rw [Nat.mod_eq_of_lt (show n < 2 ^ 64 by omega), Nat.mod_eq_of_lt (show 2 ^ x < 2 ^ 64 by omega), Nat.mod_eq_of_lt (by omega)] at h2
  exact h2.symm
theorem or_has {n x : Nat} (h : n.testBit x = true) : n ||| 2 ^ x = n := by
  refine Nat.eq_of_testBit_eq fun i => ?_
  rw [Nat.testBit_or, Nat.testBit_two_pow]
  by_cases hi : x = i
  · subst hi; simp [h]
  · simp [hi]
theorem orP_lt : ∀ {l : List Nat}, (∀ x ∈ l, x ≤ 10) → orP l < 2048
  | [], _ => by simp [orP]
  | y :: l, h => by
    rw [orP]
    have h1 := orP_lt (l := l) fun x hx => h x (by simp [hx])
    have h2 : 2 ^ y < 2 ^ 11 := Nat.pow_lt_pow_right (by omega) (by have := h y (by simp); omega)
    exact Nat.or_lt_two_pow (n := 11) h2 h1
/-- Freshes of truths come on the river's days. -/
theorem truth_days {r : IRiv} (hv : okR r = true) {s : Nat} {t : Tr} (ht : t ∈ truthsP r.nat s) {i : Nat} (hi : i < r.nat.fr.length) : ∃ x, t.ds[i]? = some x ∧ t.dsF i = x ∧ x ≤ 10 := by
  have g := good_of hv
  have hS := truth_small hv ht
  have hl : i < t.ds.length := by rw [hS.ds]; exact hi
  refine ⟨t.ds[i], List.getElem?_eq_getElem hl, ?_, ?_⟩
  · unfold Tr.dsF; rw [List.getD_eq_getElem?_getD, List.getElem?_eq_getElem hl]; rfl
  · unfold truthsP at ht
    obtain ⟨h1, _⟩ := List.mem_filter.1 ht
    obtain ⟨x, hx, rfl⟩ := List.mem_map.1 h1
    obtain ⟨h2, h3⟩ := (mem_listsP _ _).1 hx
    have g1 := h3 (2 + i) (r.nat.fr[i]).days (by
      rw [spansP, show 2 + i = (i + 1) + 1 by omega, List.getElem?_cons_succ, List.getElem?_cons_succ, List.getElem?_append_left (by simpa using hi), List.getElem?_map, List.getElem?_eq_getElem hi]; rfl)
    have e : (trOf r.nat.fr.length x).ds[i] = x.getD (2 + i) 0 := by
      have : (trOf r.nat.fr.length x).ds.getD i 0 = x.getD (2 + i) 0 := by
        unfold trOf; simp only; rw [getD_take hi, getD_drop]
      rw [← this, List.getD_eq_getElem?_getD, List.getElem?_eq_getElem hl]; rfl
    rw [e]
    obtain ⟨⟨q1, q2, q3, q4, q5⟩, q6, q7⟩ := okR_parts hv
    have hm := List.getElem_mem hi
    simp only [IRiv.nat, List.mem_map] at hm
    obtain ⟨c, hc, hce⟩ := hm
    have := List.all_eq_true.1 q6 c hc
    unfold frB at this
    rw [Bool.and_eq_true] at this
    obtain ⟨d1, d2, d3, d4⟩ := spB_iff.1 this.1
    have gd := inB_iff.1 q3
    have e2 : (r.nat.fr[i]).days.hi = c.days.hi.toNat := by
      have : r.nat.fr[i] = c.nat := hce.symm
      rw [this]; rfl
    omega
section
variable {fa la : Option Addr} {fl fc ll lc : Nat} {r : IRiv}
set_option maxRecDepth 100000 in
set_option maxHeartbeats 1600000 in
theorem rFresh_any (i : Int) (w : World) (hP : RvIn w w.heap.size fa fl la ll r) : Calls Try.prog 19 #[(.agg #[.int .i64 r.depth.lo, .int .i64 r.depth.hi, .int .i64 r.fall.lo, .int .i64 r.fall.hi, .int .i64 r.days, .slice fa fl fc, .slice la ll lc]), .int .i64 i] w fun e w' => e = .returned (.tuple #[.int .i64 (freshV r i), .int .i64 (freshE r i)]) ∧ Below w.heap.size w w' := by
  have HP := Lib.hid hP
  have HFN : Hid (r.nat.fr.length = fl) := by show (r.fr.map (·.nat)).length = _; rw [List.length_map]; exact hP.efl
  clear hP
  obtain ⟨is, his⟩ : ∃ is, isFrB r i = is := ⟨_, rfl⟩
  have HDAY : Hid (∀ wv : World, Below w.heap.size w wv → Calls Try.prog 66 #[(.agg #[.int .i64 r.depth.lo, .int .i64 r.depth.hi, .int .i64 r.fall.lo, .int .i64 r.fall.hi, .int .i64 r.days, .slice fa fl fc, .slice la ll lc]), .int .i64 i] wv fun e w' => e = .returned (.bool is) ∧ Below wv.heap.size wv w') := fun wv hb => by
    have h := risFr_any (fc := fc) (lc := lc) i wv (HP.out.grow hb)
    rwa [his] at h
  have HIS := Lib.hid his
  have HE : Hid (freshE r i = toldE r is) := by show _ = _; rw [freshE, his]
  obtain ⟨V, hV⟩ : ∃ V, freshV r i = V := ⟨_, rfl⟩
  obtain ⟨E, hE⟩ : ∃ E, freshE r i = E := ⟨_, rfl⟩
  rw [hV, hE]
  have HV := Lib.hid hV
  have HEE := Lib.hid hE
  clear his hV hE
  obtain ⟨W, hW⟩ : ∃ W, W = w.alloc (.cells #[.int .i64 r.depth.lo, .int .i64 r.depth.hi, .int .i64 r.fall.lo, .int .i64 r.fall.hi, .int .i64 r.days, .slice fa fl fc, .slice la ll lc] 27) := ⟨_, rfl⟩
  have HX : Hid (Blk W w.heap.size 27 #[.int .i64 r.depth.lo, .int .i64 r.depth.hi, .int .i64 r.fall.lo, .int .i64 r.fall.hi, .int .i64 r.days, .slice fa fl fc, .slice la ll lc]) := by rw [hW]; exact Blk.new w 27 _
  have HBW : Hid (Below w.heap.size w W) := by rw [hW]; exact (Below.refl _ _).alloc (Nat.le_refl _) _
  go_enter Try.func19, Try.ntmps19
  go_wp2_with fail
  rw [← hW]
  clear hW
  have q0 := HX.out.cell 0
  have q1 := HX.out.cell 1
  have q2 := HX.out.cell 2
  have q3 := HX.out.cell 3
  have q4 := HX.out.cell 4
  have q5 := HX.out.cell 5
  have q6 := HX.out.cell 6
  have ql := HX.out.lt
  simp at q0 q1 q2 q3 q4 q5 q6
  have HBV := HBW
  go_upto_region 1 with (fail)
  by_cases h0 : toldE r is = 0
  case neg =>
    have HT : Hid (∀ wv : World, Below W.heap.size W wv → Calls Try.prog 51 #[(.agg #[.int .i64 r.depth.lo, .int .i64 r.depth.hi, .int .i64 r.fall.lo, .int .i64 r.fall.hi, .int .i64 r.days, .slice fa fl fc, .slice la ll lc]), .bool is] wv fun e w' => e = .returned (.tuple #[.slice none 0 0, .int .i64 E]) ∧ Below wv.heap.size wv w') := fun wv hg => told_err (by rw [← HE.out, HEE.out]) (by rw [← HEE.out, HE.out]; exact h0) wv (HP.out.grow (HBV.out.trans (hg.mono HBV.out.size)))
    have HE' : Hid (E ≠ 0 ∧ V = 0) := by
      have e : E ≠ 0 := by rw [← HEE.out, HE.out]; exact h0
      exact ⟨e, by rw [← HV.out, freshV, if_neg (by rw [HEE.out]; exact e)]⟩
    have hE10 : E ≤ 10 := by rw [← HEE.out, HE.out]; exact toldE_bd r is
    have hd : ((E : Int) != 0) = true := by have := HE'.out.1; simp; omega
    clear h0
    refine wp_region_havoc [(0,false),(1,false),(2,false),(3,false),(4,false),(5,false),(6,false),(7,false),(8,false),(9,false)] [] (fun _ _ => False) (by kernel_rfl) (by kernel_rfl) (fun _ _ _ _ h => h.elim) ?_
    (apply hav_same (by simp only [List.getElem?_toArray, List.getElem?_cons_zero]; rfl) (by kernel_rfl); (focus (intro wv hgv _; have hcv : ∀ b o, b < _ → wv.cell? ⟨b, o, none⟩ = _ := fun b o hb => Below.cell hgv (p := ⟨b, o, none⟩) hb; (try go_simp); try rfl; done)); simp only [Act.put, List.setIfInBounds_toArray, List.set_cons_succ, List.set_cons_zero])
    iterate 2 (apply hav_same (by simp only [List.getElem?_toArray, List.getElem?_cons_succ, List.getElem?_cons_zero]; rfl) (by kernel_rfl); (focus (intro wv hgv _; have hcv : ∀ b o, b < _ → wv.cell? ⟨b, o, none⟩ = _ := fun b o hb => Below.cell hgv (p := ⟨b, o, none⟩) hb; (try go_simp); try rfl; done)); simp only [Act.put, List.setIfInBounds_toArray, List.set_cons_succ, List.set_cons_zero])
    (apply hav_call (by simp only [List.getElem?_toArray, List.getElem?_cons_succ, List.getElem?_cons_zero]; rfl) (by kernel_rfl); (focus (intro wv; go_simp; try exact ⟨rfl, rfl⟩; done)); (focus (intro wv hgv _; exact HDAY.out wv (HBW.out.trans (Below.mono hgv HBW.out.size)); done)); simp only [Act.put, List.setIfInBounds_toArray, List.set_cons_succ, List.set_cons_zero])
    (apply hav_call (by simp only [List.getElem?_toArray, List.getElem?_cons_succ, List.getElem?_cons_zero]; rfl) (by kernel_rfl); (focus (intro wv; go_simp; try exact ⟨rfl, rfl⟩; done)); (focus (intro wv hgv _; exact HT.out wv hgv; done)); simp only [Act.put, List.setIfInBounds_toArray, List.set_cons_succ, List.set_cons_zero])
    iterate 5 (apply hav_same (by simp only [List.getElem?_toArray, List.getElem?_cons_succ, List.getElem?_cons_zero]; rfl) (by kernel_rfl); (focus (intro wv hgv _; have hcv : ∀ b o, b < _ → wv.cell? ⟨b, o, none⟩ = _ := fun b o hb => Below.cell hgv (p := ⟨b, o, none⟩) hb; (try go_simp); try rfl; done)); simp only [Act.put, List.setIfInBounds_toArray, List.set_cons_succ, List.set_cons_zero])
    refine hav_end (fun X hgX hF => ?_); simp only [List.filterMap]; have hcX : ∀ b o, b < _ → X.cell? ⟨b, o, none⟩ = _ := fun b o hb => Below.cell hgX (p := ⟨b, o, none⟩) hb; have hfX : ∀ b o, b < _ → X.frozen? ⟨b, o, none⟩ = _ := fun b o hb => Below.frozen hgX (p := ⟨b, o, none⟩) hb; have hzX := Below.size hgX; (try simp at hzX)
    have HBX : Hid (Below W.heap.size W X) := hgX
    clear hgX hcX hfX hzX q0 q1 q2 q3 q4 q5 q6 ql hF
    go_wp2
    go_ret2
    exact ⟨by rw [HE'.out.2]; rfl, HBW.out.trans (HBX.out.mono HBW.out.size)⟩
  · obtain ⟨h2, h3, h4⟩ := toldE_zero h0
    subst h3
    have HTK : Hid (∀ wv : World, Below W.heap.size W wv → Calls Try.prog 51 #[(.agg #[.int .i64 r.depth.lo, .int .i64 r.depth.hi, .int .i64 r.fall.lo, .int .i64 r.fall.hi, .int .i64 r.days, .slice fa fl fc, .slice la ll lc]), .bool true] wv fun e w' => ∃ A c, e = .returned (.tuple #[.slice A (truthsA r.nat).length c, .int .i64 0]) ∧ TrsIn w' r.nat.fr.length A (truthsA r.nat) ∧ Below wv.heap.size wv w') := fun wv hg => told_ok h0 wv (HP.out.grow (HBV.out.trans (hg.mono HBV.out.size)))
    refine wp_region_havoc [(0,false),(1,false),(2,false),(3,false),(4,true),(5,false),(6,false),(7,false),(8,false),(9,false)] [] (fun _ _ => False) (by kernel_rfl) (by kernel_rfl) (fun _ _ _ _ h => h.elim) ?_
    (apply hav_same (by simp only [List.getElem?_toArray, List.getElem?_cons_zero]; rfl) (by kernel_rfl); (focus (intro wv hgv _; have hcv : ∀ b o, b < _ → wv.cell? ⟨b, o, none⟩ = _ := fun b o hb => Below.cell hgv (p := ⟨b, o, none⟩) hb; (try go_simp); try rfl; done)); simp only [Act.put, List.setIfInBounds_toArray, List.set_cons_succ, List.set_cons_zero])
    iterate 2 (apply hav_same (by simp only [List.getElem?_toArray, List.getElem?_cons_succ, List.getElem?_cons_zero]; rfl) (by kernel_rfl); (focus (intro wv hgv _; have hcv : ∀ b o, b < _ → wv.cell? ⟨b, o, none⟩ = _ := fun b o hb => Below.cell hgv (p := ⟨b, o, none⟩) hb; (try go_simp); try rfl; done)); simp only [Act.put, List.setIfInBounds_toArray, List.set_cons_succ, List.set_cons_zero])
    (apply hav_call (by simp only [List.getElem?_toArray, List.getElem?_cons_succ, List.getElem?_cons_zero]; rfl) (by kernel_rfl); (focus (intro wv; go_simp; try exact ⟨rfl, rfl⟩; done)); (focus (intro wv hgv _; exact HDAY.out wv (HBW.out.trans (Below.mono hgv HBW.out.size)); done)); simp only [Act.put, List.setIfInBounds_toArray, List.set_cons_succ, List.set_cons_zero])
    apply hav_call_ghost (fun v wv => ∃ A c, v = .tuple #[.slice A (truthsA r.nat).length c, .int .i64 0] ∧ TrsIn wv r.nat.fr.length A (truthsA r.nat)) (by simp only [List.getElem?_toArray, List.getElem?_cons_succ, List.getElem?_cons_zero]; rfl) (by kernel_rfl)
    · intro wv; go_simp; try exact ⟨rfl, rfl⟩
    · rintro v w1 w2 ⟨A, c, h5, h6⟩ hg
      exact ⟨A, c, h5, h6.below hg⟩
    · intro wv hgv _
      refine (HTK.out wv hgv).mono ?_
      rintro e w' ⟨A, c, rfl, h6, hb⟩
      exact .inl ⟨_, rfl, hb, A, c, rfl, h6⟩
    intro v
    simp only [Act.put, List.setIfInBounds_toArray, List.set_cons_succ, List.set_cons_zero]
    by_cases hv : ∃ A c, v = .tuple #[.slice A (truthsA r.nat).length c, .int .i64 0]
    case neg =>
      have hno : ∀ w (Φ : Prop), (Φ ∧ ∃ A c, v = .tuple #[.slice A (truthsA r.nat).length c, .int .i64 0] ∧ TrsIn w r.nat.fr.length A (truthsA r.nat)) → False := fun w _ ⟨_, A, c, h, _⟩ => hv ⟨A, c, h⟩
      iterate 5 (refine hav_det (V := undef) (by simp only [List.getElem?_toArray, List.getElem?_cons_succ, List.getElem?_cons_zero]; rfl) (fun _ _ hF => (hno _ _ hF).elim) ?_; simp only [Act.put, List.setIfInBounds_toArray, List.set_cons_succ, List.set_cons_zero])
      refine hav_end (fun X hgX hF => ?_); simp only [List.filterMap]; have hcX : ∀ b o, b < _ → X.cell? ⟨b, o, none⟩ = _ := fun b o hb => Below.cell hgX (p := ⟨b, o, none⟩) hb; have hfX : ∀ b o, b < _ → X.frozen? ⟨b, o, none⟩ = _ := fun b o hb => Below.frozen hgX (p := ⟨b, o, none⟩) hb; have hzX := Below.size hgX; (try simp at hzX)
      exact (hno _ _ hF).elim
    obtain ⟨A, c, rfl⟩ := hv
    iterate 5 (apply hav_same (by simp only [List.getElem?_toArray, List.getElem?_cons_succ, List.getElem?_cons_zero]; rfl) (by kernel_rfl); (focus (intro wv hgv _; have hcv : ∀ b o, b < _ → wv.cell? ⟨b, o, none⟩ = _ := fun b o hb => Below.cell hgv (p := ⟨b, o, none⟩) hb; (try go_simp); try rfl; done)); simp only [Act.put, List.setIfInBounds_toArray, List.set_cons_succ, List.set_cons_zero])
    refine hav_end (fun X hgX hF => ?_); simp only [List.filterMap]; have hcX : ∀ b o, b < _ → X.cell? ⟨b, o, none⟩ = _ := fun b o hb => Below.cell hgX (p := ⟨b, o, none⟩) hb; have hfX : ∀ b o, b < _ → X.frozen? ⟨b, o, none⟩ = _ := fun b o hb => Below.frozen hgX (p := ⟨b, o, none⟩) hb; have hzX := Below.size hgX; (try simp at hzX)
    have HTR : Hid (TrsIn X r.nat.fr.length A (truthsA r.nat)) := by
      obtain ⟨_, A', c', e, h⟩ := hF
      injection e with e
      have e2 : A = A' := by
        have := congrArg (fun a => a[0]?) e
        simp at this
        exact this.1
      subst e2
      exact h
    clear hF
    have HBX : Hid (Below W.heap.size W X) := hgX
    clear hgX hcX hfX hzX q0 q1 q2 q3 q4 q5 q6 ql
    have hib := inB_iff.1 (show inB i 0 ((r.fr.length : Int) - 1) = true by rw [← isFrB, HIS.out])
    have hfle : (r.fr.length : Int) = fl := by have := HP.out.efl; omega
    obtain ⟨d, hd⟩ : ∃ d : Nat, i = d := ⟨i.toNat, by omega⟩
    have hdf : d < fl := by omega
    have hdf' : (d : Int) < fl := by omega
    have HE' : Hid (E = 0 ∧ V = orP ((truthsA r.nat).map (·.dsF d))) := by
      have e : E = 0 := by rw [← HEE.out, HE.out, h0]
      refine ⟨e, ?_⟩
      rw [← HV.out, freshV, if_pos (by rw [HEE.out, e]), hd, Int.toNat_natCast]
      rfl
    subst hd
    have HDS : Hid (∀ t ∈ truthsA r.nat, ∃ x, t.ds[d]? = some x ∧ t.dsF d = x ∧ x ≤ 10) := fun t ht => truth_days h2 ht (by rw [HFN.out]; exact hdf)
    have hlen := truths_len h2
    obtain ⟨Ts, hTs⟩ : ∃ Ts, truthsA r.nat = Ts := ⟨_, rfl⟩
    rw [hTs] at HTR HE' HDS hlen ⊢
    obtain ⟨N, hN⟩ : ∃ N, Ts.length = N := ⟨_, rfl⟩
    have hN4 : N ≤ 400000 := by omega
    have HL := Lib.hid hN
    rw [hN]
    rw [HFN.out] at HTR
    clear h0 h2 h4 hN hTs hlen hib hfle
    go_wp2
    go_loopw [8, 9] (fun o i wr => ∃ (k v : Nat), k ≤ N ∧ i = .int .i64 k ∧ o = .int .i64 v ∧ Hid (orP ((Ts.take k).map (·.dsF d)) = v) ∧ v < 2048 ∧ wr = X) (fun _ i _ => N - (intOf i).toNat)
    case atStart => exact ⟨0, 0, Nat.zero_le _, rfl, rfl, rfl, by omega, rfl⟩
    case round =>
      obtain ⟨k, v, hk, rfl, rfl, HVK, hv, rfl⟩ := hrel
      by_cases hlt : k < N
      · obtain ⟨t, ht⟩ : ∃ t, Ts[k]? = some t := ⟨_, List.getElem?_eq_getElem (by rw [HL.out]; exact hlt)⟩
        obtain ⟨b, off, dA, dc, rA, rc, hA, hbl, hti, H0, H1, H2, H3⟩ := HTR.out k t ht
        subst hA
        obtain ⟨x, hx, hxd, hx10⟩ := HDS.out t (List.mem_of_getElem? ht)
        obtain ⟨b', o', rfl, hb', H4⟩ := hti.ds.at_ hx
        have HTK : Hid (orP ((Ts.take (k + 1)).map (·.dsF d)) = v ||| 2 ^ x) := by
          show _ = _
          rw [List.take_add_one, ht, List.map_append, Option.toList_some, List.map_cons, List.map_nil, orP_snoc, HVK.out, hxd]
        have hnl : orP ((Ts.take (k + 1)).map (·.dsF d)) < 2048 := orP_lt fun y hy => by
          obtain ⟨u, hu, rfl⟩ := List.mem_map.1 hy
          obtain ⟨z, -, hz, hz2⟩ := HDS.out u (List.mem_of_mem_take hu)
          simp only [hz]; exact hz2
        have HHAS : Hid (∀ wv : World, Calls Try.prog 67 #[.int .i64 v, .int .i64 x] wv fun e w' => e = .returned (.bool (v.testBit x)) ∧ w' = wv) := fun wv => rhas_any v x (by omega) (by omega) wv
        clear ht hti hx hxd H0 H1 H3
        go_wp2_with fail
        refine (HHAS.out _).mono ?_
        cases hbit : v.testBit x
        · obtain ⟨K, hK⟩ : ∃ K : Nat, 2 ^ x = K := ⟨_, rfl⟩
          have hp : 2 ^ x ≤ 2 ^ 10 := Nat.pow_le_pow_right (by omega) hx10
          have HN : Hid (orP ((Ts.take (k + 1)).map (·.dsF d)) = v + K) := by show _ = _; rw [HTK.out, or_bit hbit (by omega) (by omega), hK]
          have HPW : Hid (∀ wv : World, Calls Try.prog 68 #[.int .i64 x] wv fun e w' => e = .returned (.int .i64 (K : Nat)) ∧ w' = wv) := fun wv => (rpower_any x (by omega) wv).mono (by rintro e w' ⟨rfl, rfl⟩; exact ⟨by rw [← hK]; push_cast; rfl, rfl⟩)
          rw [hK] at hp
          rw [HN.out] at hnl
          clear hbit hK
          rintro e w5 ⟨rfl, rfl⟩
          go_wp2_with fail
          refine (HPW.out _).mono ?_
          rintro e w5 ⟨rfl, rfl⟩
          go_wp2
          go_roundw
          case rel => exact ⟨k + 1, v + K, by omega, by go_num, by go_num, HN, hnl, trivial⟩
          case measure => simp [intOf]; omega
        · have HN : Hid (orP ((Ts.take (k + 1)).map (·.dsF d)) = v) := by show _ = _; rw [HTK.out, or_has hbit]
          clear hbit hnl
          rintro e w5 ⟨rfl, rfl⟩
          go_wp2
          go_roundw
          case rel => exact ⟨k + 1, v, by omega, by go_num, rfl, HN, hv, trivial⟩
          case measure => simp [intOf]; omega
      · obtain rfl : N = k := by omega
        have HN : Hid (V = v) := by
          show _ = _
          rw [HE'.out.2, ← HVK.out, List.take_of_length_le (by rw [HL.out]; exact Nat.le_refl _)]
        go_wp2
        go_ret2
        exact ⟨by rw [HN.out, HE'.out.1]; rfl, HBW.out.trans (HBX.out.mono HBW.out.size)⟩
set_option maxRecDepth 100000 in
set_option maxHeartbeats 1600000 in
theorem rBears_any (draws day : Int) (w : World) (hP : RvIn w w.heap.size fa fl la ll r) : Calls Try.prog 21 #[(.agg #[.int .i64 r.depth.lo, .int .i64 r.depth.hi, .int .i64 r.fall.lo, .int .i64 r.fall.hi, .int .i64 r.days, .slice fa fl fc, .slice la ll lc]), .int .i64 draws, .int .i64 day] w fun e w' => e = .returned (.tuple #[.int .i64 (bearsV r draws day), .int .i64 (bearsE r draws day)]) ∧ Below w.heap.size w w' := by
  have HP := Lib.hid hP
  clear hP
  obtain ⟨dr, hdr⟩ : ∃ is, isDrB draws = is := ⟨_, rfl⟩
  obtain ⟨dy, hdy⟩ : ∃ is, isDayB r day = is := ⟨_, rfl⟩
  have HDR : Hid (∀ wv : World, Calls Try.prog 73 #[.int .i64 draws] wv fun e w' => e = .returned (.bool dr) ∧ Below wv.heap.size wv w') := fun wv => by
    have h := rdraws_any draws wv
    rwa [hdr] at h
  have HDAY : Hid (∀ wv : World, Calls Try.prog 52 #[(.agg #[.int .i64 r.depth.lo, .int .i64 r.depth.hi, .int .i64 r.fall.lo, .int .i64 r.fall.hi, .int .i64 r.days, .slice fa fl fc, .slice la ll lc]), .int .i64 day] wv fun e w' => e = .returned (.bool dy) ∧ Below wv.heap.size wv w') := fun wv => by
    have h := rday_any (fa := fa) (la := la) (fl := fl) (fc := fc) (ll := ll) (lc := lc) (r := r) day wv
    rwa [hdy] at h
  have HIS := Lib.hid (And.intro hdr hdy)
  have HE : Hid (bearsE r draws day = toldE r (dr && dy)) := by show _ = _; rw [bearsE, hdr, hdy]
  obtain ⟨V, hV⟩ : ∃ V, bearsV r draws day = V := ⟨_, rfl⟩
  obtain ⟨E, hE⟩ : ∃ E, bearsE r draws day = E := ⟨_, rfl⟩
  rw [hV, hE]
  have HV := Lib.hid hV
  have HEE := Lib.hid hE
  clear hdr hdy hV hE
  obtain ⟨W, hW⟩ : ∃ W, W = w.alloc (.cells #[.int .i64 r.depth.lo, .int .i64 r.depth.hi, .int .i64 r.fall.lo, .int .i64 r.fall.hi, .int .i64 r.days, .slice fa fl fc, .slice la ll lc] 27) := ⟨_, rfl⟩
  have HX : Hid (Blk W w.heap.size 27 #[.int .i64 r.depth.lo, .int .i64 r.depth.hi, .int .i64 r.fall.lo, .int .i64 r.fall.hi, .int .i64 r.days, .slice fa fl fc, .slice la ll lc]) := by rw [hW]; exact Blk.new w 27 _
  have HBW : Hid (Below w.heap.size w W) := by rw [hW]; exact (Below.refl _ _).alloc (Nat.le_refl _) _
  go_enter Try.func21, Try.ntmps21
  go_wp2_with fail
  rw [← hW]
  clear hW
  have q0 := HX.out.cell 0
  have q1 := HX.out.cell 1
  have q2 := HX.out.cell 2
  have q3 := HX.out.cell 3
  have q4 := HX.out.cell 4
  have q5 := HX.out.cell 5
  have q6 := HX.out.cell 6
  have ql := HX.out.lt
  simp at q0 q1 q2 q3 q4 q5 q6
  have HBV := HBW
  go_upto_region 1 with (fail)
  by_cases h0 : toldE r (dr && dy) = 0
  case neg =>
    have HT : Hid (∀ wv : World, Below W.heap.size W wv → Calls Try.prog 51 #[(.agg #[.int .i64 r.depth.lo, .int .i64 r.depth.hi, .int .i64 r.fall.lo, .int .i64 r.fall.hi, .int .i64 r.days, .slice fa fl fc, .slice la ll lc]), .bool (dr && dy)] wv fun e w' => e = .returned (.tuple #[.slice none 0 0, .int .i64 E]) ∧ Below wv.heap.size wv w') := fun wv hg => told_err (by rw [← HE.out, HEE.out]) (by rw [← HEE.out, HE.out]; exact h0) wv (HP.out.grow (HBV.out.trans (hg.mono HBV.out.size)))
    have HE' : Hid (E ≠ 0 ∧ V = 0) := by
      have e : E ≠ 0 := by rw [← HEE.out, HE.out]; exact h0
      exact ⟨e, by rw [← HV.out, bearsV, if_neg (by rw [HEE.out]; exact e)]⟩
    have hE10 : E ≤ 10 := by rw [← HEE.out, HE.out]; exact toldE_bd r _
    have hd : ((E : Int) != 0) = true := by have := HE'.out.1; simp; omega
    clear h0 HIS HE
    cases dr
    · have HT2 : Hid (∀ wv : World, Below W.heap.size W wv → Calls Try.prog 51 #[(.agg #[.int .i64 r.depth.lo, .int .i64 r.depth.hi, .int .i64 r.fall.lo, .int .i64 r.fall.hi, .int .i64 r.days, .slice fa fl fc, .slice la ll lc]), .bool false] wv fun e w' => e = .returned (.tuple #[.slice none 0 0, .int .i64 E]) ∧ Below wv.heap.size wv w') := HT.out
      clear HT
      refine wp_region_havoc [(0,false),(1,false),(2,false),(3,false),(4,false),(5,false),(6,false),(7,false),(8,false),(9,false),(10,false),(11,false),(12,false),(13,false)] [] (fun _ _ => False) (by kernel_rfl) (by kernel_rfl) (fun _ _ _ _ h => h.elim) ?_
      (apply hav_same (by simp only [List.getElem?_toArray, List.getElem?_cons_zero]; rfl) (by kernel_rfl); (focus (intro wv hgv _; have hcv : ∀ b o, b < _ → wv.cell? ⟨b, o, none⟩ = _ := fun b o hb => Below.cell hgv (p := ⟨b, o, none⟩) hb; (try go_simp); try rfl; done)); simp only [Act.put, List.setIfInBounds_toArray, List.set_cons_succ, List.set_cons_zero])
      (apply hav_same (by simp only [List.getElem?_toArray, List.getElem?_cons_succ, List.getElem?_cons_zero]; rfl) (by kernel_rfl); (focus (intro wv hgv _; have hcv : ∀ b o, b < _ → wv.cell? ⟨b, o, none⟩ = _ := fun b o hb => Below.cell hgv (p := ⟨b, o, none⟩) hb; (try go_simp); try rfl; done)); simp only [Act.put, List.setIfInBounds_toArray, List.set_cons_succ, List.set_cons_zero])
      (apply hav_call (by simp only [List.getElem?_toArray, List.getElem?_cons_succ, List.getElem?_cons_zero]; rfl) (by kernel_rfl); (focus (intro wv; go_simp; try exact ⟨rfl, rfl⟩; done)); (focus (intro wv hgv _; exact HDR.out wv; done)); simp only [Act.put, List.setIfInBounds_toArray, List.set_cons_succ, List.set_cons_zero])
      (apply hav_same (by simp only [List.getElem?_toArray, List.getElem?_cons_succ, List.getElem?_cons_zero]; rfl) (by kernel_rfl); (focus (intro wv hgv _; have hcv : ∀ b o, b < _ → wv.cell? ⟨b, o, none⟩ = _ := fun b o hb => Below.cell hgv (p := ⟨b, o, none⟩) hb; (try go_simp); try rfl; done)); simp only [Act.put, List.setIfInBounds_toArray, List.set_cons_succ, List.set_cons_zero])
      iterate 3 (refine hav_skip (by simp only [List.getElem?_toArray, List.getElem?_cons_succ, List.getElem?_cons_zero]; rfl) (by kernel_rfl) ?_; simp only [Act.put, List.setIfInBounds_toArray, List.set_cons_succ, List.set_cons_zero])
      (apply hav_same (by simp only [List.getElem?_toArray, List.getElem?_cons_succ, List.getElem?_cons_zero]; rfl) (by kernel_rfl); (focus (intro wv hgv _; have hcv : ∀ b o, b < _ → wv.cell? ⟨b, o, none⟩ = _ := fun b o hb => Below.cell hgv (p := ⟨b, o, none⟩) hb; (try go_simp); try rfl; done)); simp only [Act.put, List.setIfInBounds_toArray, List.set_cons_succ, List.set_cons_zero])
      (apply hav_call (by simp only [List.getElem?_toArray, List.getElem?_cons_succ, List.getElem?_cons_zero]; rfl) (by kernel_rfl); (focus (intro wv; go_simp; try exact ⟨rfl, rfl⟩; done)); (focus (intro wv hgv _; exact HT2.out wv hgv; done)); simp only [Act.put, List.setIfInBounds_toArray, List.set_cons_succ, List.set_cons_zero])
      iterate 5 (apply hav_same (by simp only [List.getElem?_toArray, List.getElem?_cons_succ, List.getElem?_cons_zero]; rfl) (by kernel_rfl); (focus (intro wv hgv _; have hcv : ∀ b o, b < _ → wv.cell? ⟨b, o, none⟩ = _ := fun b o hb => Below.cell hgv (p := ⟨b, o, none⟩) hb; (try go_simp); try rfl; done)); simp only [Act.put, List.setIfInBounds_toArray, List.set_cons_succ, List.set_cons_zero])
      refine hav_end (fun X hgX hF => ?_); simp only [List.filterMap]; have hcX : ∀ b o, b < _ → X.cell? ⟨b, o, none⟩ = _ := fun b o hb => Below.cell hgX (p := ⟨b, o, none⟩) hb; have hfX : ∀ b o, b < _ → X.frozen? ⟨b, o, none⟩ = _ := fun b o hb => Below.frozen hgX (p := ⟨b, o, none⟩) hb; have hzX := Below.size hgX; (try simp at hzX)
      have HBX : Hid (Below W.heap.size W X) := hgX
      clear hgX hcX hfX hzX q0 q1 q2 q3 q4 q5 q6 ql hF
      go_wp2
      go_ret2
      exact ⟨by rw [HE'.out.2]; rfl, HBW.out.trans (HBX.out.mono HBW.out.size)⟩
    · have HT2 : Hid (∀ wv : World, Below W.heap.size W wv → Calls Try.prog 51 #[(.agg #[.int .i64 r.depth.lo, .int .i64 r.depth.hi, .int .i64 r.fall.lo, .int .i64 r.fall.hi, .int .i64 r.days, .slice fa fl fc, .slice la ll lc]), .bool dy] wv fun e w' => e = .returned (.tuple #[.slice none 0 0, .int .i64 E]) ∧ Below wv.heap.size wv w') := by have h := HT.out; rw [Bool.true_and] at h; exact h
      clear HT
      refine wp_region_havoc [(0,false),(1,false),(2,false),(3,false),(4,false),(5,false),(6,false),(7,false),(8,false),(9,false),(10,false),(11,false),(12,false),(13,false)] [] (fun _ _ => False) (by kernel_rfl) (by kernel_rfl) (fun _ _ _ _ h => h.elim) ?_
      (apply hav_same (by simp only [List.getElem?_toArray, List.getElem?_cons_zero]; rfl) (by kernel_rfl); (focus (intro wv hgv _; have hcv : ∀ b o, b < _ → wv.cell? ⟨b, o, none⟩ = _ := fun b o hb => Below.cell hgv (p := ⟨b, o, none⟩) hb; (try go_simp); try rfl; done)); simp only [Act.put, List.setIfInBounds_toArray, List.set_cons_succ, List.set_cons_zero])
      (apply hav_same (by simp only [List.getElem?_toArray, List.getElem?_cons_succ, List.getElem?_cons_zero]; rfl) (by kernel_rfl); (focus (intro wv hgv _; have hcv : ∀ b o, b < _ → wv.cell? ⟨b, o, none⟩ = _ := fun b o hb => Below.cell hgv (p := ⟨b, o, none⟩) hb; (try go_simp); try rfl; done)); simp only [Act.put, List.setIfInBounds_toArray, List.set_cons_succ, List.set_cons_zero])
      (apply hav_call (by simp only [List.getElem?_toArray, List.getElem?_cons_succ, List.getElem?_cons_zero]; rfl) (by kernel_rfl); (focus (intro wv; go_simp; try exact ⟨rfl, rfl⟩; done)); (focus (intro wv hgv _; exact HDR.out wv; done)); simp only [Act.put, List.setIfInBounds_toArray, List.set_cons_succ, List.set_cons_zero])
      iterate 3 (apply hav_same (by simp only [List.getElem?_toArray, List.getElem?_cons_succ, List.getElem?_cons_zero]; rfl) (by kernel_rfl); (focus (intro wv hgv _; have hcv : ∀ b o, b < _ → wv.cell? ⟨b, o, none⟩ = _ := fun b o hb => Below.cell hgv (p := ⟨b, o, none⟩) hb; (try go_simp); try rfl; done)); simp only [Act.put, List.setIfInBounds_toArray, List.set_cons_succ, List.set_cons_zero])
      (apply hav_call (by simp only [List.getElem?_toArray, List.getElem?_cons_succ, List.getElem?_cons_zero]; rfl) (by kernel_rfl); (focus (intro wv; go_simp; try exact ⟨rfl, rfl⟩; done)); (focus (intro wv hgv _; exact HDAY.out wv; done)); simp only [Act.put, List.setIfInBounds_toArray, List.set_cons_succ, List.set_cons_zero])
      (apply hav_same (by simp only [List.getElem?_toArray, List.getElem?_cons_succ, List.getElem?_cons_zero]; rfl) (by kernel_rfl); (focus (intro wv hgv _; have hcv : ∀ b o, b < _ → wv.cell? ⟨b, o, none⟩ = _ := fun b o hb => Below.cell hgv (p := ⟨b, o, none⟩) hb; (try go_simp); try rfl; done)); simp only [Act.put, List.setIfInBounds_toArray, List.set_cons_succ, List.set_cons_zero])
      (apply hav_call (by simp only [List.getElem?_toArray, List.getElem?_cons_succ, List.getElem?_cons_zero]; rfl) (by kernel_rfl); (focus (intro wv; go_simp; try exact ⟨rfl, rfl⟩; done)); (focus (intro wv hgv _; exact HT2.out wv hgv; done)); simp only [Act.put, List.setIfInBounds_toArray, List.set_cons_succ, List.set_cons_zero])
      iterate 5 (apply hav_same (by simp only [List.getElem?_toArray, List.getElem?_cons_succ, List.getElem?_cons_zero]; rfl) (by kernel_rfl); (focus (intro wv hgv _; have hcv : ∀ b o, b < _ → wv.cell? ⟨b, o, none⟩ = _ := fun b o hb => Below.cell hgv (p := ⟨b, o, none⟩) hb; (try go_simp); try rfl; done)); simp only [Act.put, List.setIfInBounds_toArray, List.set_cons_succ, List.set_cons_zero])
      refine hav_end (fun X hgX hF => ?_); simp only [List.filterMap]; have hcX : ∀ b o, b < _ → X.cell? ⟨b, o, none⟩ = _ := fun b o hb => Below.cell hgX (p := ⟨b, o, none⟩) hb; have hfX : ∀ b o, b < _ → X.frozen? ⟨b, o, none⟩ = _ := fun b o hb => Below.frozen hgX (p := ⟨b, o, none⟩) hb; have hzX := Below.size hgX; (try simp at hzX)
      have HBX : Hid (Below W.heap.size W X) := hgX
      clear hgX hcX hfX hzX q0 q1 q2 q3 q4 q5 q6 ql hF
      go_wp2
      go_ret2
      exact ⟨by rw [HE'.out.2]; rfl, HBW.out.trans (HBX.out.mono HBW.out.size)⟩
  · obtain ⟨h2, h3, h4⟩ := toldE_zero h0
    obtain ⟨h5, h6⟩ := Bool.and_eq_true_iff.1 h3
    subst h5 h6
    clear h3
    have HTK : Hid (∀ wv : World, Below W.heap.size W wv → Calls Try.prog 51 #[(.agg #[.int .i64 r.depth.lo, .int .i64 r.depth.hi, .int .i64 r.fall.lo, .int .i64 r.fall.hi, .int .i64 r.days, .slice fa fl fc, .slice la ll lc]), .bool true] wv fun e w' => ∃ A c, e = .returned (.tuple #[.slice A (truthsA r.nat).length c, .int .i64 0]) ∧ TrsIn w' r.nat.fr.length A (truthsA r.nat) ∧ Below wv.heap.size wv w') := fun wv hg => told_ok h0 wv (HP.out.grow (HBV.out.trans (hg.mono HBV.out.size)))
    refine wp_region_havoc [(0,false),(1,false),(2,false),(3,false),(4,false),(5,false),(6,false),(7,false),(8,true),(9,false),(10,false),(11,false),(12,false),(13,false)] [] (fun _ _ => False) (by kernel_rfl) (by kernel_rfl) (fun _ _ _ _ h => h.elim) ?_
    (apply hav_same (by simp only [List.getElem?_toArray, List.getElem?_cons_zero]; rfl) (by kernel_rfl); (focus (intro wv hgv _; have hcv : ∀ b o, b < _ → wv.cell? ⟨b, o, none⟩ = _ := fun b o hb => Below.cell hgv (p := ⟨b, o, none⟩) hb; (try go_simp); try rfl; done)); simp only [Act.put, List.setIfInBounds_toArray, List.set_cons_succ, List.set_cons_zero])
    (apply hav_same (by simp only [List.getElem?_toArray, List.getElem?_cons_succ, List.getElem?_cons_zero]; rfl) (by kernel_rfl); (focus (intro wv hgv _; have hcv : ∀ b o, b < _ → wv.cell? ⟨b, o, none⟩ = _ := fun b o hb => Below.cell hgv (p := ⟨b, o, none⟩) hb; (try go_simp); try rfl; done)); simp only [Act.put, List.setIfInBounds_toArray, List.set_cons_succ, List.set_cons_zero])
    (apply hav_call (by simp only [List.getElem?_toArray, List.getElem?_cons_succ, List.getElem?_cons_zero]; rfl) (by kernel_rfl); (focus (intro wv; go_simp; try exact ⟨rfl, rfl⟩; done)); (focus (intro wv hgv _; exact HDR.out wv; done)); simp only [Act.put, List.setIfInBounds_toArray, List.set_cons_succ, List.set_cons_zero])
    iterate 3 (apply hav_same (by simp only [List.getElem?_toArray, List.getElem?_cons_succ, List.getElem?_cons_zero]; rfl) (by kernel_rfl); (focus (intro wv hgv _; have hcv : ∀ b o, b < _ → wv.cell? ⟨b, o, none⟩ = _ := fun b o hb => Below.cell hgv (p := ⟨b, o, none⟩) hb; (try go_simp); try rfl; done)); simp only [Act.put, List.setIfInBounds_toArray, List.set_cons_succ, List.set_cons_zero])
    (apply hav_call (by simp only [List.getElem?_toArray, List.getElem?_cons_succ, List.getElem?_cons_zero]; rfl) (by kernel_rfl); (focus (intro wv; go_simp; try exact ⟨rfl, rfl⟩; done)); (focus (intro wv hgv _; exact HDAY.out wv; done)); simp only [Act.put, List.setIfInBounds_toArray, List.set_cons_succ, List.set_cons_zero])
    (apply hav_same (by simp only [List.getElem?_toArray, List.getElem?_cons_succ, List.getElem?_cons_zero]; rfl) (by kernel_rfl); (focus (intro wv hgv _; have hcv : ∀ b o, b < _ → wv.cell? ⟨b, o, none⟩ = _ := fun b o hb => Below.cell hgv (p := ⟨b, o, none⟩) hb; (try go_simp); try rfl; done)); simp only [Act.put, List.setIfInBounds_toArray, List.set_cons_succ, List.set_cons_zero])
    apply hav_call_ghost (fun v wv => ∃ A c, v = .tuple #[.slice A (truthsA r.nat).length c, .int .i64 0] ∧ TrsIn wv r.nat.fr.length A (truthsA r.nat)) (by simp only [List.getElem?_toArray, List.getElem?_cons_succ, List.getElem?_cons_zero]; rfl) (by kernel_rfl)
    · intro wv; go_simp; try exact ⟨rfl, rfl⟩
    · rintro v w1 w2 ⟨A, c, h5, h6⟩ hg
      exact ⟨A, c, h5, h6.below hg⟩
    · intro wv hgv _
      refine (HTK.out wv hgv).mono ?_
      rintro e w' ⟨A, c, rfl, h6, hb⟩
      exact .inl ⟨_, rfl, hb, A, c, rfl, h6⟩
    intro v
    simp only [Act.put, List.setIfInBounds_toArray, List.set_cons_succ, List.set_cons_zero]
    by_cases hv : ∃ A c, v = .tuple #[.slice A (truthsA r.nat).length c, .int .i64 0]
    case neg =>
      have hno : ∀ w (Φ : Prop), (Φ ∧ ∃ A c, v = .tuple #[.slice A (truthsA r.nat).length c, .int .i64 0] ∧ TrsIn w r.nat.fr.length A (truthsA r.nat)) → False := fun w _ ⟨_, A, c, h, _⟩ => hv ⟨A, c, h⟩
      iterate 5 (refine hav_det (V := undef) (by simp only [List.getElem?_toArray, List.getElem?_cons_succ, List.getElem?_cons_zero]; rfl) (fun _ _ hF => (hno _ _ hF).elim) ?_; simp only [Act.put, List.setIfInBounds_toArray, List.set_cons_succ, List.set_cons_zero])
      refine hav_end (fun X hgX hF => ?_); simp only [List.filterMap]; have hcX : ∀ b o, b < _ → X.cell? ⟨b, o, none⟩ = _ := fun b o hb => Below.cell hgX (p := ⟨b, o, none⟩) hb; have hfX : ∀ b o, b < _ → X.frozen? ⟨b, o, none⟩ = _ := fun b o hb => Below.frozen hgX (p := ⟨b, o, none⟩) hb; have hzX := Below.size hgX; (try simp at hzX)
      exact (hno _ _ hF).elim
    obtain ⟨A, c, rfl⟩ := hv
    iterate 5 (apply hav_same (by simp only [List.getElem?_toArray, List.getElem?_cons_succ, List.getElem?_cons_zero]; rfl) (by kernel_rfl); (focus (intro wv hgv _; have hcv : ∀ b o, b < _ → wv.cell? ⟨b, o, none⟩ = _ := fun b o hb => Below.cell hgv (p := ⟨b, o, none⟩) hb; (try go_simp); try rfl; done)); simp only [Act.put, List.setIfInBounds_toArray, List.set_cons_succ, List.set_cons_zero])
    refine hav_end (fun X hgX hF => ?_); simp only [List.filterMap]; have hcX : ∀ b o, b < _ → X.cell? ⟨b, o, none⟩ = _ := fun b o hb => Below.cell hgX (p := ⟨b, o, none⟩) hb; have hfX : ∀ b o, b < _ → X.frozen? ⟨b, o, none⟩ = _ := fun b o hb => Below.frozen hgX (p := ⟨b, o, none⟩) hb; have hzX := Below.size hgX; (try simp at hzX)
    have HTR : Hid (TrsIn X r.nat.fr.length A (truthsA r.nat)) := by
      obtain ⟨_, A', c', e, h⟩ := hF
      injection e with e
      have e2 : A = A' := by
        have := congrArg (fun a => a[0]?) e
        simp at this
        exact this.1
      subst e2
      exact h
    clear hF
    have HBX : Hid (Below W.heap.size W X) := hgX
    clear hgX hcX hfX hzX q0 q1 q2 q3 q4 q5 q6 ql
    have hb1 := inB_iff.1 (show inB draws 0 200 = true from HIS.out.1)
    have hb2 := inB_iff.1 (show inB day 0 r.days = true from HIS.out.2)
    have hb3 := inB_iff.1 (okR_parts h2).1.2.2.1
    obtain ⟨n, hn⟩ : ∃ n : Nat, draws = n := ⟨draws.toNat, by omega⟩
    obtain ⟨d, hd⟩ : ∃ d : Nat, day = d := ⟨day.toNat, by omega⟩
    have hd10 : d ≤ 10 := by omega
    have HE' : Hid (E = 0 ∧ V = bearsT (truthsA r.nat) n d) := by
      have e : E = 0 := by rw [← HEE.out, HE.out, h0]
      refine ⟨e, ?_⟩
      rw [← HV.out, bearsV, if_pos (by rw [HEE.out, e]), hd, hn, Int.toNat_natCast, Int.toNat_natCast]
      rfl
    subst hd hn
    have HS : Hid (∀ t ∈ truthsA r.nat, t.Small r.nat.fr.length) := fun t ht => truth_small h2 ht
    have hlen := truths_len h2
    obtain ⟨Ts, hTs⟩ : ∃ Ts, truthsA r.nat = Ts := ⟨_, rfl⟩
    rw [hTs] at HTR HE' HS hlen h4 ⊢
    obtain ⟨N, hN⟩ : ∃ N, Ts.length = N := ⟨_, rfl⟩
    have hN4 : N ≤ 400000 := by omega
    have hN0 : 0 < N := by rw [← hN]; exact List.length_pos_iff.2 h4
    have HL := Lib.hid hN
    rw [hN]
    clear h0 h2 h4 hN hTs hlen hb1 hb2 hb3
    go_wp2_with fail
    refine (rbears_any HL.out hN0 hN4 HS.out hd10 n X HTR.out).mono ?_
    rintro e Z ⟨rfl, hb⟩
    have HBZ := Lib.hid hb
    clear hb
    go_wp2
    go_ret2
    exact ⟨by rw [HE'.out.1, HE'.out.2]; rfl, (HBW.out.trans (HBX.out.mono HBW.out.size)).trans (HBZ.out.mono (Nat.le_trans HBW.out.size HBX.out.size))⟩
end
end Go.Proofs.Ytiodmkokpfgkkaa
