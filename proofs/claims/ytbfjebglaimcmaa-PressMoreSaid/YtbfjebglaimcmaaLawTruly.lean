/- The walk of the law's truly: a press that is right, and how heavy each fleece truly is; conditions: the press is valid, remainders are of 16 bits. -/
import Derived.Test.YtbfjebglaimcmaaLawB
import Derived.Test.YtbfjebglaimcmaaPlain4
namespace Go.Proofs.Ytbfjebglaimcmaa
open Go.RowKit Go.Hav
def u16F (n : Nat) : List Value := [.int .u16 n]
theorem u16F_len (n : Nat) : (u16F n).length = 1 := rfl
theorem rd_u16 {w : World} {B : Nat} {A : Option Addr} {l : List Nat} (h : RdG u16F 1 w B A l) (k : Nat) (c : Nat) (hc : l[k]? = some c) : ∃ b off, A = some ⟨b, off, none⟩ ∧ b < B ∧ w.cell? ⟨b, off + k, none⟩ = some (.int .u16 c) := by
  obtain ⟨b, off, e, hb, hx⟩ := h k c hc
  exact ⟨b, off, e, hb, by have := hx 0 _ rfl; rwa [Nat.mul_one] at this⟩
/-- How heavy a fleece truly is, by remainders. -/
def truI (p : PressD) (us : List Nat) (i : Nat) : Int := (p.fw i).lo + if us.length = 0 then 0 else Int.tmod (((us[i % us.length]?).getD 0 : Nat) + 7 * (i : Int)) ((p.fw i).hi - (p.fw i).lo + 1)
theorem truI_in {p : PressD} (hv : p.ok = true) (us : List Nat) {i : Nat} (hi : i < p.n) : (p.fw i).lo ≤ truI p us i ∧ truI p us i ≤ (p.fw i).hi := by
  have h := PressD.ok_fl hv hi
  unfold truI
  split
  · omega
  · have h1 := Int.tmod_nonneg ((p.fw i).hi - (p.fw i).lo + 1) (show (0 : Int) ≤ ((us[i % us.length]?).getD 0 : Nat) + 7 * (i : Int) by omega)
    have h2 := Int.tmod_lt_of_pos (((us[i % us.length]?).getD 0 : Nat) + 7 * (i : Int)) (show (0 : Int) < (p.fw i).hi - (p.fw i).lo + 1 by omega)
    omega
theorem truI_bd {p : PressD} (hv : p.ok = true) (us : List Nat) {i : Nat} (hi : i < p.n) : 1 ≤ truI p us i ∧ truI p us i ≤ 20 := by
  have h := PressD.ok_fl hv hi
  have h1 := truI_in hv us hi
  omega
section
variable {low top bales : Int} {fa wa ua : Option Addr} {fl fc wl wp ul uc : Nat} {p : PressD} {us : List Nat}
theorem grown_set (w : World) (b o : Nat) (v : Value) : w.grownBy (w.setCell ⟨b, o, none⟩ v) (some b) :=
  ⟨rfl, rfl, rfl, by simp [World.setCell], fun k _ hn => Below.heap_setCell w ⟨b, o, none⟩ v k (fun e => hn (by rw [e]))⟩
theorem grown_own {X w1 w2 : World} {r row : Option Nat} (h : X.grownBy w1 r) (k : w1.grownBy w2 row) (hr : ∀ g, row = some g → X.heap.size ≤ g) : X.grownBy w2 r :=
  ⟨k.os.trans h.os, k.tape.trans h.tape, k.output.trans h.output, Nat.le_trans h.size k.size, fun i hi hne => (k.block i (Nat.lt_of_lt_of_le hi h.size) (fun e => by have := hr i e.symm; omega)).trans (h.block i hi hne)⟩
theorem take_next {α : Type} (g : α → Ba) {L : List α} {k : Nat} {c : α} (hc : L[k]? = some c) : ((L.take (k + 1)).map g).flatMap baF = ((L.take k).map g).flatMap baF ++ baF (g c) := by
  rw [List.take_add_one, hc]
  simp
/-- An append of one element of some cells: what the row held it still holds, also with the element behind it. -/
theorem append_keepN {P : Program} {w : World} (base : Nat) (t ty e : TypeId) (i : TypeInfo) (z : Value) (size bytes : Nat) (ht : P.underlying t = some (.slice e)) (hi : P.info? e = some i) (hz : i.zero = some z)
    (hsize : i.size = size) (hby : i.bytes = bytes) (hzs : z.cells.size = size) (hsz : 0 < size) (v : Value) (n : Nat) (xs : List Value) (hown : w.ownsRow base e size v n xs)
    (a : Addr) (c : Nat) (ys : List Value) (hl : ys.length = size) (hnews : ∀ j x, ys[j]? = some x → w.cell? (a.add j) = some x) (h1 : ∀ x ∈ ys, x.oneCell' = true) (h63 : n + 1 ≤ 100000) (hb : bytes ≤ 100000) (hbase : base ≤ w.heap.size) :
    ∃ v' w', (Builtin.append_ #[t, t] ty #[v, .slice (some a) 1 c]).run P w = .ok v' w' ∧ w'.ownsRow base e size v' (n + 1) (xs ++ ys) ∧ w.grownBy w' v.ownBlock ∧ w'.ownsRow base e size v n xs ∧
      ∀ v2, w.ownsRow base e size v2 (n + 1) (xs ++ ys) → w'.ownsRow base e size v2 (n + 1) (xs ++ ys) := by
  have hbb : (n + 1) * bytes ≤ 140737488355328 := Nat.le_trans (Nat.mul_le_mul h63 hb) (by decide)
  have hl1 : ys.length = 1 * i.size := by rw [hl, hsize, Nat.one_mul]
  obtain ⟨v', w', hrun, hown', hg, _⟩ := run_append_own (P := P) w base t ty e i z size bytes ht hi hz hsize hby hzs hsz v n xs hown a 1 c ys (by rw [hl, Nat.one_mul]) hnews h1 (by unfold maxLen; omega) hbb hbase
  refine ⟨v', w', hrun, hown', hg, ?_⟩
  have key : Below w.heap.size w w' → w'.ownsRow base e size v n xs ∧ ∀ v2, w.ownsRow base e size v2 (n + 1) (xs ++ ys) → w'.ownsRow base e size v2 (n + 1) (xs ++ ys) :=
    fun hbl => ⟨own_below hown hbl, fun v2 h2 => own_below h2 hbl⟩
  rcases hown.2 with ⟨rfl, rfl⟩ | ⟨g, cap, cur, rfl, hbg, hgg, hnc, hcm, hcs, htake⟩
  · have hr := run_append_nil (P := P) w t ty e i z ht hi hz a 1 c ys hl1 hnews (by decide) (by decide) (by rw [hby]; omega)
    obtain ⟨_, rfl⟩ := result_eq hrun hr
    exact key (below_drew_alloc _ _)
  · by_cases hroom : n + 1 ≤ cap
    · have hns : n * size + size ≤ cap * size := by rw [← Nat.succ_mul]; exact Nat.mul_le_mul hroom (Nat.le_refl _)
      have hfit : n * i.size + ys.length ≤ cur.size := by rw [hsize, hcs, hl]; exact hns
      have hr := run_append_room (P := P) w t ty e i ht hi g n cap cur hgg a 1 c ys hl1 hnews h1 hroom hfit
      obtain ⟨_, rfl⟩ := result_eq hrun hr
      rw [hsize]
      have hset := setRow_heap w g cur (cur.toList.take (n * size) ++ ys ++ cur.toList.drop (n * size + ys.length)).toArray e _ hgg
      have hxl : xs.length = n * size := hown.1
      have hcl : cur.toList.length = cap * size := by simp; omega
      refine ⟨⟨hown.1, .inr ⟨g, cap, _, rfl, hbg, hset, hnc, hcm, ?_, ?_⟩⟩, fun v2 h2 => ⟨h2.1, ?_⟩⟩
      · simp; omega
      · rw [htake]
        have := List.take_left' (l₁ := xs) (l₂ := ys ++ cur.toList.drop (n * size + ys.length)) hxl
        simpa using this
      · rcases h2.2 with ⟨rfl, hh⟩ | ⟨g2, cap2, cur2, rfl, hbg2, hgg2, hnc2, hcm2, hcs2, htake2⟩
        · omega
        · by_cases hgq : g2 = g
          · subst hgq
            rw [hgg] at hgg2
            injection hgg2 with hgg2
            injection hgg2 with hc1 _ _
            subst hc1
            have e1 : (cur.toList.take (n * size) ++ ys ++ cur.toList.drop (n * size + ys.length)).toArray = cur := by
              rw [Nat.succ_mul] at htake2
              rw [htake, hl, ← htake2, List.take_append_drop]
            rw [e1] at hset
            exact .inr ⟨g2, cap2, cur, rfl, hbg2, by rw [e1]; exact hset, hnc2, hcm2, hcs2, htake2⟩
          · exact .inr ⟨g2, cap2, cur2, rfl, hbg2, (setRow_other w g g2 _ hgq).trans hgg2, hnc2, hcm2, hcs2, htake2⟩
    · have holds : ∀ j x, xs[j]? = some x → w.cell? ((⟨g, 0, none⟩ : Addr).add j) = some x := hown.cells (g := g) rfl
      have hr := run_append_grow (P := P) w t ty e i z ht hi hz ⟨g, 0, none⟩ n cap xs (by rw [hsize]; exact hown.1) holds a 1 c ys hl1 hnews (by omega) (by omega) (growslice_fits (by omega) (by rw [hby]; exact hbb))
      obtain ⟨_, rfl⟩ := result_eq hrun hr
      exact key (below_drew_alloc _ _)
/-- All is kept but the row's block, which keeps what it held, also with one element more. -/
def GN (B e sz : Nat) (v : Value) (n : Nat) (xs ys : List Value) : HavG.Rel where
  G w w' := w.grownBy w' v.ownBlock ∧ (w.ownsRow B e sz v n xs → w'.ownsRow B e sz v n xs) ∧ ∀ v2, w.ownsRow B e sz v2 (n + 1) (xs ++ ys) → w'.ownsRow B e sz v2 (n + 1) (xs ++ ys)
  refl w := ⟨World.grownBy.refl w _, id, fun _ => id⟩
  trans h k := ⟨h.1.trans k.1, fun hm => k.2.1 (h.2.1 hm), fun v2 hm => k.2.2 v2 (h.2.2 v2 hm)⟩
  drew _ := ⟨below_grown (Below.drew (Below.refl _ _)) _, fun hm => own_below hm (Below.drew (Below.refl _ _)), fun _ hm => own_below hm (Below.drew (Below.refl _ _))⟩
theorem GN.below {B e sz : Nat} {v : Value} {n : Nat} {xs ys : List Value} {w w' : World} (h : Below w.heap.size w w') : (GN B e sz v n xs ys).G w w' := ⟨below_grown h _, fun hm => own_below hm h, fun _ hm => own_below hm h⟩
theorem GN.far {B e sz : Nat} {v : Value} {n : Nat} {xs ys : List Value} {w w' : World} (h : (GN B e sz v n xs ys).G w w') {b : Nat} (hb : b < w.heap.size) (hn : some b ≠ v.ownBlock) : w'.heap[b]? = w.heap[b]? := h.1.block b hb hn
theorem tot_truI (T : Nat → Int) (n s : Nat) : totL ((List.range n).map T) s n = sb T s n := by
  unfold totL
  refine sb_congr _ fun i hi => ⟨rfl, fun _ => ?_⟩
  simp [hi]
theorem range_next (T : Nat → Int) (k : Nat) : ((List.range (k + 1)).map T).flatMap inF = ((List.range k).map T).flatMap inF ++ inF (T k) := by
  rw [List.range_succ, List.map_append, List.flatMap_append]; simp
set_option maxRecDepth 100000 in
set_option maxHeartbeats 6400000 in
theorem truly_any (hv : p.ok = true) (hu : us.length = ul) (hub : ∀ x ∈ us, x ≤ 65535) (hul : ul ≤ 9223372036854775807) (w : World) (hP : PressIn w w.heap.size fa fl low top bales wa wl p) (hU : RdG u16F 1 w w.heap.size ua us) :
    Calls Try.prog 30 #[pressV fa fl fc low top bales wa wl wp, .slice ua ul uc] w fun e w' => ∃ A2 c2 A c, e = .returned (.tuple #[pressV fa fl fc low top bales A wl c, .slice A2 fl c2]) ∧
      PressIn w' w'.heap.size fa fl low top bales A wl (p.trueP (truI p us)) ∧ RdG inF 1 w' w'.heap.size A2 ((List.range fl).map (truI p us)) ∧ Below w.heap.size w w' := by
  have HP := Lib.hid hP
  have HU := Lib.hid hU
  have HUL := Lib.hid hu
  have HUB := Lib.hid hub
  have HV := Lib.hid hv
  have HEN : Hid (p.n = fl) := hP.efl
  have HEW : Hid (p.weighed.length = wl) := hP.ewl
  have hn10 : fl ≤ 10 := by have := (PressD.ok_head hv).1; rw [HEN.out] at this; exact this
  have hwl4 : wl ≤ 4 := by have := (PressD.ok_head hv).2.2.2.2.2.2; rw [HEW.out] at this; exact this
  obtain ⟨T, hT⟩ : ∃ T, truI p us = T := ⟨_, rfl⟩
  have HT := Lib.hid hT
  have HTB : Hid (∀ i, i < fl → 1 ≤ T i ∧ T i ≤ 20) := fun i hi => by rw [← hT]; exact truI_bd hv us (by rw [HEN.out]; exact hi)
  rw [hT]
  clear hP hU hu hub hv hT
  obtain ⟨i0, hi, hz0, hz1, hz2⟩ := info_parts Try.infoE3
  have HI := Lib.hid hi
  have HI0 := Lib.hid hz0
  have HI1 := Lib.hid hz1
  have HI2 := Lib.hid hz2
  clear hi hz0 hz1 hz2
  unfold pressV
  go_enter Try.func30, Try.ntmps30
  go_wp2
  obtain ⟨W, hW⟩ : ∃ W, W = (w.alloc (Obj.cells #[Value.slice fa fl fc, Value.int IntKind.i64 low, Value.int IntKind.i64 top, Value.int IntKind.i64 bales, Value.slice wa wl wp] 25)).alloc (Obj.cells #[Value.slice none 0 0, Value.int IntKind.i64 0, Value.int IntKind.i64 0, Value.int IntKind.i64 0, Value.slice none 0 0] 25) := ⟨_, rfl⟩
  have HXP : Hid (Blk W w.heap.size 25 #[Value.slice fa fl fc, Value.int IntKind.i64 low, Value.int IntKind.i64 top, Value.int IntKind.i64 bales, Value.slice wa wl wp]) := by rw [hW]; exact (Blk.new w 25 _).alloc _
  have HXX : Hid (Blk W (w.heap.size + 1) 25 #[Value.slice none 0 0, Value.int IntKind.i64 0, Value.int IntKind.i64 0, Value.int IntKind.i64 0, Value.slice none 0 0]) := by rw [hW]; exact Blk.new_ (by simp) 25 _
  have HBW : Hid (Below w.heap.size w W) := by rw [hW]; exact ((Below.refl _ _).alloc (Nat.le_refl _) _).alloc (by simp) _
  have hsW : w.heap.size + 2 ≤ W.heap.size := by rw [hW]; simp
  rw [← hW]
  clear hW
  go_loopw [5, 16] (fun v i wr => ∃ k : Nat, k ≤ fl ∧ i = .int .i64 k ∧ wr.ownsRow W.heap.size 3 1 v k (((List.range k).map T).flatMap inF) ∧ Below W.heap.size W wr) (fun _ i _ => fl - (intOf i).toNat)
  case atStart => exact ⟨0, Nat.zero_le _, rfl, own_nil _ _ _ _, Below.refl _ _⟩
  case round =>
    obtain ⟨k, hk, rfl, hown, hb⟩ := hrel
    have HO := Lib.hid hown
    have HB := Lib.hid hb
    have HBV : Hid (Below w.heap.size w wr) := HBW.out.trans (hb.mono (by omega))
    have hsr := hb.size
    clear hown hb
    by_cases hlt : k < fl
    · obtain ⟨⟨⟨c0, c1⟩, cl⟩, hc⟩ : ∃ c, p.fl[k]? = some c := ⟨_, List.getElem?_eq_getElem (by have := HEN.out; unfold PressD.n at this; omega)⟩
      have HC := Lib.hid (fw_of hc)
      have hcl := PressD.ok_fl HV.out (i := k) (by rw [HEN.out]; exact hlt)
      rw [HC.out.1] at hcl
      simp only at hcl
      obtain ⟨g0, g1, g2, g3, -, -⟩ := hcl
      obtain ⟨b, off, rfl, hbl, H0, H1, H2⟩ := rd_fl ((HP.out.grow HBV.out).hfl) k _ hc
      have hbw : b < wr.heap.size := hbl
      simp only at H0 H1 H2 HC
      clear hc hbl
      have hTB := HTB.out k hlt
      obtain ⟨t, ht⟩ : ∃ t, T k = t := ⟨_, rfl⟩
      have HNX : Hid (((List.range (k + 1)).map T).flatMap inF = ((List.range k).map T).flatMap inF ++ inF t) := by show _ = _; rw [range_next, ht]
      have HTK : Hid (t = c0 + if us.length = 0 then 0 else Int.tmod (((us[k % us.length]?).getD 0 : Nat) + 7 * (k : Int)) (c1 - c0 + 1)) := by
        show _ = _
        rw [← ht, ← HT.out, truI, HC.out.1]
      obtain ⟨V, hV⟩ : ∃ V, V = wr.alloc (.cells #[.int .i64 c0, .int .i64 c1, .int .i64 cl] 58) := ⟨_, rfl⟩
      have HVK : Hid (Blk V wr.heap.size 58 #[.int .i64 c0, .int .i64 c1, .int .i64 cl]) := by rw [hV]; exact Blk.new wr 58 _
      have HVB : Hid (Below W.heap.size W V) := by rw [hV]; exact HB.out.alloc hsr _
      have hvo := own_below HO.out ((Below.refl wr.heap.size wr).alloc (Nat.le_refl _) (.cells #[.int .i64 c0, .int .i64 c1, .int .i64 cl] 58))
      rw [← hV] at hvo
      have HVO := Lib.hid hvo
      clear hvo
      have hsV : W.heap.size ≤ V.heap.size := HVB.out.size
      go_upto_region 4 with fail
      rw [← hV]
      clear hV H0 H1 H2 hbw
      have q0 := HVK.out.cell 0
      have q1 := HVK.out.cell 1
      have ql := HVK.out.lt
      simp at q0 q1
      by_cases hul0 : ul = 0
      · have hd : decide ((0 : Int) < (ul : Int)) = false := by simp; omega
        have hte : t = c0 := by rw [HTK.out, if_pos (by rw [HUL.out]; exact hul0)]; omega
        subst hte
        have hu0 : ¬ 0 < ul := by omega
        clear hul0
        have HOWN := Lib.hid (own_below (w' := V.alloc (.cells #[.int .i64 t] 3)) HVO.out ((Below.refl V.heap.size V).alloc (Nat.le_refl _) _))
        go_wp2_with (at_builtin; refine wpList_append_own _ rfl _ _ 38 rfl W.heap.size 3 i0 _ 1 8 Try.underlying38 HI.out HI0.out HI1.out HI2.out rfl (by decide) _ _ _ rfl HOWN.out ⟨V.heap.size, 0, none⟩ 1 1 (inF t) rfl rfl (news_block (Blk.new V 3 _)) (by simp [inF, Value.oneCell']) (by unfold maxLen; omega) (by omega) (by simp; omega) ?_)
        intro v' w5 hown5 hgrow5 _
        have HO5 := Lib.hid hown5
        have HG5 : Hid (Below W.heap.size W w5) := Below.grown (HVB.out.alloc hsV _) hgrow5 (by simp; omega) (fun k' hk' => (HOWN.out.lt k' hk').1)
        clear hown5 hgrow5 q0 q1 ql
        go_wp2
        go_roundw
        case rel => exact ⟨k + 1, by omega, by go_num, by rw [HNX.out]; exact HO5.out, HG5.out⟩
        case measure => simp [intOf]; omega
      have hd : decide ((0 : Int) < (ul : Int)) = true := by simp; omega
      obtain ⟨j, hj⟩ : ∃ j, k % ul = j := ⟨_, rfl⟩
      have hjl : j < ul := by rw [← hj]; exact Nat.mod_lt _ (by omega)
      have hrem : ((k : Int)).tmod (ul : Int) = (j : Int) := by rw [← hj]; exact (Int.ofNat_tmod k ul).symm
      obtain ⟨x, hx⟩ : ∃ x, us[j]? = some x := ⟨_, List.getElem?_eq_getElem (by rw [HUL.out]; exact hjl)⟩
      have hx16 := HUB.out x (List.mem_of_getElem? hx)
      obtain ⟨ub, uo, hua, hubl, H5⟩ := rd_u16 ((HU.out.below (HBW.out.trans (HVB.out.mono (by omega)))).more (show w.heap.size ≤ V.heap.size by omega)) j x hx
      obtain ⟨r, hr⟩ : ∃ r, ((x : Int) + 7 * (k : Int)).tmod (c1 - c0 + 1) = r := ⟨_, rfl⟩
      have hte : t = c0 + r := by
        rw [HTK.out, if_neg (by rw [HUL.out]; exact hul0), HUL.out, hj, hx]
        rw [← hr]
        rfl
      subst hua
      clear hx
      have w1 : IntKind.i64.wrap (7 * (k : Int)) = 7 * (k : Int) := wrap_i64 (by omega) (by omega)
      have w2 : IntKind.i64.wrap ((x : Int) + 7 * (k : Int)) = (x : Int) + 7 * (k : Int) := wrap_i64 (by omega) (by omega)
      have w3 : IntKind.i64.wrap (c1 - c0) = c1 - c0 := wrap_i64 (by omega) (by omega)
      have w4 : IntKind.i64.wrap (c1 - c0 + 1) = c1 - c0 + 1 := wrap_i64 (by omega) (by omega)
      have w5 : IntKind.i64.wrap (c0 + r) = t := by rw [← hte]; exact wrap_i64 (by omega) (by omega)
      clear hte
      have hj1 : (j : Int) < ul := by omega
      have hj0 : (0 : Int) ≤ j := by omega
      have hnz : ¬ (c1 - c0 + 1 = 0) := by omega
      have hul1 : ¬ ul = 0 := hul0
      go_upto_region 6 with fail
      refine wp_region_havoc [(0,false),(1,false),(2,false),(3,false),(4,false),(5,false),(6,false),(7,false),(8,false),(9,false),(10,false),(11,false),(12,false),(13,false),(14,false),(15,false),(16,false),(17,false),(18,false),(19,false),(20,false),(21,false),(22,false)] [] (fun _ _ => False) (by kernel_rfl) (by kernel_rfl) (fun _ _ _ _ h => h.elim) ?_
      (apply hav_same (by simp only [List.getElem?_toArray, List.getElem?_cons_zero]; rfl) (by kernel_rfl); (focus (intro wv hgv _; have hcv : ∀ b o, b < _ → wv.cell? ⟨b, o, none⟩ = _ := fun b o hb => Below.cell hgv (p := ⟨b, o, none⟩) hb; (try go_simp); try rfl; done)); simp only [Act.put, List.setIfInBounds_toArray, List.set_cons_succ, List.set_cons_zero])
      iterate 7 (apply hav_same (by simp only [List.getElem?_toArray, List.getElem?_cons_succ, List.getElem?_cons_zero]; rfl) (by kernel_rfl); (focus (intro wv hgv _; have hcv : ∀ b o, b < _ → wv.cell? ⟨b, o, none⟩ = _ := fun b o hb => Below.cell hgv (p := ⟨b, o, none⟩) hb; (try go_simp); try rfl; done)); simp only [Act.put, List.setIfInBounds_toArray, List.set_cons_succ, List.set_cons_zero])
      (apply hav_same (by simp only [List.getElem?_toArray, List.getElem?_cons_succ, List.getElem?_cons_zero]; rfl) (by kernel_rfl); (focus (intro wv hgv _; exact conv16 rfl rfl (by omega) (by omega) _)); simp only [Act.put, List.setIfInBounds_toArray, List.set_cons_succ, List.set_cons_zero])
      iterate 11 (apply hav_same (by simp only [List.getElem?_toArray, List.getElem?_cons_succ, List.getElem?_cons_zero]; rfl) (by kernel_rfl); (focus (intro wv hgv _; have hcv : ∀ b o, b < _ → wv.cell? ⟨b, o, none⟩ = _ := fun b o hb => Below.cell hgv (p := ⟨b, o, none⟩) hb; (try go_simp); try rfl; done)); simp only [Act.put, List.setIfInBounds_toArray, List.set_cons_succ, List.set_cons_zero])
      (apply hav_same (by simp only [List.getElem?_toArray, List.getElem?_cons_succ, List.getElem?_cons_zero]; rfl) (by kernel_rfl); (focus (intro wv hgv _; have hcv : ∀ b o, b < _ → wv.cell? ⟨b, o, none⟩ = _ := fun b o hb => Below.cell hgv (p := ⟨b, o, none⟩) hb; (try go_simp); try rfl; done)); simp only [Act.put, List.setIfInBounds_toArray, List.set_cons_succ, List.set_cons_zero])
      (apply hav_same (by simp only [List.getElem?_toArray, List.getElem?_cons_succ, List.getElem?_cons_zero]; rfl) (by kernel_rfl); (focus (intro wv hgv _; have hcv : ∀ b o, b < _ → wv.cell? ⟨b, o, none⟩ = _ := fun b o hb => Below.cell hgv (p := ⟨b, o, none⟩) hb; (try go_simp); try rfl; done)); simp only [Act.put, List.setIfInBounds_toArray, List.set_cons_succ, List.set_cons_zero])
      (apply hav_same (by simp only [List.getElem?_toArray, List.getElem?_cons_succ, List.getElem?_cons_zero]; rfl) (by kernel_rfl); (focus (intro wv hgv _; have hcv : ∀ b o, b < _ → wv.cell? ⟨b, o, none⟩ = _ := fun b o hb => Below.cell hgv (p := ⟨b, o, none⟩) hb; (try go_simp); try rfl; done)); simp only [Act.put, List.setIfInBounds_toArray, List.set_cons_succ, List.set_cons_zero])
      refine hav_end (fun v6 hgv6 _ => ?_); simp only [List.filterMap]; have hcv6 : ∀ b o, b < _ → v6.cell? ⟨b, o, none⟩ = _ := fun b o hb => Below.cell hgv6 (p := ⟨b, o, none⟩) hb; have hfv6 : ∀ b o, b < _ → v6.frozen? ⟨b, o, none⟩ = _ := fun b o hb => Below.frozen hgv6 (p := ⟨b, o, none⟩) hb; have hzv6 := Below.size hgv6; (try simp at hzv6)
      have HO6 := Lib.hid (own_below HVO.out hgv6)
      have H6B : Hid (Below W.heap.size W v6) := HVB.out.trans (hgv6.mono hsV)
      have hs6 : W.heap.size ≤ v6.heap.size := H6B.out.size
      clear hgv6 hcv6 hfv6 q0 q1 ql hrem H5
      have HOWN := Lib.hid (own_below (w' := v6.alloc (.cells #[.int .i64 t] 3)) HO6.out ((Below.refl v6.heap.size v6).alloc (Nat.le_refl _) _))
      go_wp2_with (go_loud (at_builtin; refine wpList_append_own _ rfl _ _ 38 rfl W.heap.size 3 i0 _ 1 8 Try.underlying38 HI.out HI0.out HI1.out HI2.out rfl (by decide) _ _ _ rfl HOWN.out ⟨v6.heap.size, 0, none⟩ 1 1 (inF t) rfl rfl (news_block (Blk.new v6 3 _)) (by simp [inF, Value.oneCell']) (by unfold maxLen; omega) (by omega) (by simp; omega) ?_))
      intro v' w5 hown5 hgrow5 _
      have HO5 := Lib.hid hown5
      have HG5 : Hid (Below W.heap.size W w5) := Below.grown (H6B.out.alloc hs6 _) hgrow5 (by simp; omega) (fun k' hk' => (HOWN.out.lt k' hk').1)
      clear hown5 hgrow5
      go_wp2
      go_roundw
      case rel => exact ⟨k + 1, by omega, by go_num, by rw [HNX.out]; exact HO5.out, HG5.out⟩
      case measure => simp [intOf]; omega
    · obtain rfl : fl = k := by omega
      obtain ⟨A2, c2, hv', hrd, -⟩ := own_rd (l := (List.range fl).map T) inF_len (by decide) (by rw [List.length_map, List.length_range]; exact HO.out)
      rw [List.length_map, List.length_range] at hv'
      subst hv'
      have HWG := Lib.hid hrd
      clear hrd
      have HPX := Lib.hid (HXP.out.below HB.out (by omega))
      have HXY := Lib.hid (HXX.out.below HB.out (by omega))
      have x0 := HPX.out.cell 0
      have x1 := HPX.out.cell 1
      have x2 := HPX.out.cell 2
      have x3 := HPX.out.cell 3
      have x4 := HPX.out.cell 4
      have lx := HPX.out.lt
      have y0 := HXY.out.cell 0
      have y1 := HXY.out.cell 1
      have y2 := HXY.out.cell 2
      have y3 := HXY.out.cell 3
      have y4 := HXY.out.cell 4
      have f0 := HXY.out.frozen 0
      have f1 := HXY.out.frozen 1
      have f2 := HXY.out.frozen 2
      have f3 := HXY.out.frozen 3
      have f4 := HXY.out.frozen 4
      have ly := HXY.out.lt
      simp at x0 x1 x2 x3 x4 y0 y1 y2 y3 y4
      go_upto_region 11 with fail
      obtain ⟨X, hX⟩ : ∃ X, X = ((((((wr.setCell ⟨w.heap.size + 1, 0, none⟩ (.slice fa fl fc)).setCell ⟨w.heap.size + 1, 1, none⟩ (.int .i64 low)).setCell ⟨w.heap.size + 1, 2, none⟩ (.int .i64 top)).setCell ⟨w.heap.size + 1, 3, none⟩ (.int .i64 bales)).setCell ⟨w.heap.size + 1, 4, none⟩ (.slice wa wl wp)).setCell ⟨w.heap.size + 1, 4, none⟩ (.slice none 0 0)) := ⟨_, rfl⟩
      have HGX : Hid (wr.grownBy X (some (w.heap.size + 1))) := by
        rw [hX]
        exact (((((grown_set _ _ _ _).trans (grown_set _ _ _ _)).trans (grown_set _ _ _ _)).trans (grown_set _ _ _ _)).trans (grown_set _ _ _ _)).trans (grown_set _ _ _ _)
      have HXX2 : Hid (Blk X (w.heap.size + 1) 25 #[Value.slice fa fl fc, Value.int IntKind.i64 low, Value.int IntKind.i64 top, Value.int IntKind.i64 bales, Value.slice none 0 0]) := by
        rw [hX]
        have h := (((((HXY.out.set_ 0 (.slice fa fl fc)).set_ 1 (.int .i64 low)).set_ 2 (.int .i64 top)).set_ 3 (.int .i64 bales)).set_ 4 (.slice wa wl wp)).set_ 4 (.slice none 0 0)
        show Blk _ _ _ _
        simpa using h
      rw [← hX]
      clear hX x0 x1 x2 x3 x4 y0 y1 y2 y3 y4 f0 f1 f2 f3 f4 lx ly
      have HPX2 := Lib.hid (HPX.out.grown HGX.out (by simp))
      have hsX := HGX.out.size
      have HOX := Lib.hid (own_keep HO.out fun g hg => HGX.out.block g (HO.out.lt g hg).2 (by have := (HO.out.lt g hg).1; intro e; injection e with e; omega))
      have HBX : Hid (Below w.heap.size w X) := Below.grown HBV.out HGX.out (by omega) (fun k hk => by injection hk with hk; omega)
      have hZ : ∀ g, (Value.slice A2 fl c2).ownBlock = some g → g < X.heap.size ∧ w.heap.size + 1 < g := fun g hg => ⟨(HOX.out.lt g hg).2, by have := (HOX.out.lt g hg).1; omega⟩
      have HZ := Lib.hid hZ
      clear hZ
      obtain ⟨i1, hi, hz0, hz1, hz2⟩ := info_parts Try.infoE56
      have HJ := Lib.hid hi
      have HJ0 := Lib.hid hz0
      have HJ1 := Lib.hid hz1
      have HJ2 := Lib.hid hz2
      clear hi hz0 hz1 hz2
      have hx := HPX2.out
      have x0 := hx.cell 0
      have x1 := hx.cell 1
      have x2 := hx.cell 2
      have x3 := hx.cell 3
      have x4 := hx.cell 4
      simp at x0 x1 x2 x3 x4
      have lx := hx.lt
      clear hx
      go_wp2
      clear x0 x1 x2 x3 x4 lx
      go_loopw [59] (fun i wr' => ∃ k : Nat, k ≤ wl ∧ i = .int .i64 k ∧ ∃ u, Blk wr' (w.heap.size + 1) 25 #[Value.slice fa fl fc, Value.int IntKind.i64 low, Value.int IntKind.i64 top, Value.int IntKind.i64 bales, u] ∧ wr'.ownsRow X.heap.size 56 3 u k (((p.weighed.take k).map (trueBa T p.n)).flatMap baF) ∧ X.grownBy wr' (some (w.heap.size + 1))) (fun i _ => wl - (intOf i).toNat)
      case atStart => exact ⟨0, Nat.zero_le _, rfl, .slice none 0 0, HXX2.out, own_nil _ _ _ _, World.grownBy.refl _ _⟩
      case round =>
        obtain ⟨k, hk, rfl, u, hbu, hown, hgr⟩ := hrel
        have HBU := Lib.hid hbu
        have HOU := Lib.hid hown
        have HGR := Lib.hid hgr
        have hsr2 := hgr.size
        clear hbu hown hgr
        have HBR : Hid (Below w.heap.size w wr) := Below.grown HBX.out HGR.out (by omega) (fun k hk => by injection hk with hk; omega)
        have HOW := Lib.hid (own_keep HOX.out fun g hg => HGR.out.block g (HZ.out g hg).1 (by have := (HZ.out g hg).2; intro e; injection e with e; omega))
        by_cases hlt : k < wl
        · obtain ⟨⟨q, ⟨l, h⟩⟩, hc⟩ : ∃ c, p.weighed[k]? = some c := ⟨_, List.getElem?_eq_getElem (by rw [HEW.out]; exact hlt)⟩
          have hba : p.ba k = ⟨q, ⟨l, h⟩⟩ := by unfold PressD.ba; rw [hc]; rfl
          have hkw : k < p.weighed.length := by rw [HEW.out]; exact hlt
          have hokb := PressD.ok_ba HV.out hkw
          rw [hba] at hokb
          obtain ⟨k1, k2, k3, k4, k5, k6, k7⟩ := hokb
          simp only at k1 k5 k6 k7
          obtain ⟨B, hB⟩ : ∃ B, p.bs k = B := ⟨_, rfl⟩
          rw [hB] at k1 k2 k3 k4
          subst k1
          clear hB k4 hba hkw
          have hB10 : B < 1024 := Nat.lt_of_lt_of_le k2 (PressD.n_pow HV.out)
          obtain ⟨N, hN⟩ : ∃ N, sb T B fl = N := ⟨_, rfl⟩
          have hNb : 0 ≤ N ∧ N ≤ 200 := by
            have := sb_bd (f := T) (s := B) (l := 0) (h := 20) (by omega) (by omega) fl (fun i hi _ => by have := HTB.out i hi; omega)
            omega
          obtain ⟨hN0, hN1⟩ := hNb
          obtain ⟨D, hD⟩ : ∃ D, min 4 (h - l) = D := ⟨_, rfl⟩
          have hD0 : 0 ≤ D := by omega
          have hD4 : D ≤ 4 := by omega
          obtain ⟨D2, hD2⟩ : ∃ D2, D / 2 = D2 := ⟨_, rfl⟩
          have hD20 : 0 ≤ D2 := by omega
          have hD24 : D2 ≤ 2 := by omega
          have hq1 : D.tdiv 2 = D2 := by rw [Int.tdiv_eq_ediv_of_nonneg hD0, hD2]
          obtain ⟨ca, hca⟩ : ∃ x, max 1 (N - D2) = x := ⟨_, rfl⟩
          obtain ⟨cb, hcb⟩ : ∃ x, min 200 (N + D - D2) = x := ⟨_, rfl⟩
          have HTN : Hid (((p.weighed.take (k + 1)).map (trueBa T p.n)).flatMap baF = ((p.weighed.take k).map (trueBa T p.n)).flatMap baF ++ baF ⟨(B : Int), ⟨ca, cb⟩⟩) := by
            show _ = _
            rw [take_next _ hc, trueBa]
            simp only [Int.toNat_natCast]
            rw [HEN.out, hN, hD, hD2, hca, hcb]
          have HMN4 : Hid (∀ w, (Builtin.min_ #[3, 3] 3 #[.int .i64 4, .int .i64 (h - l)]).run Try.prog w = .ok (.int .i64 D) w) := fun w => by rw [min_run, hD]
          have HMX : Hid (∀ w, (Builtin.max_ #[3, 3] 3 #[.int .i64 1, .int .i64 (N - D2)]).run Try.prog w = .ok (.int .i64 ca) w) := fun w => by rw [max_run, hca]
          have HMN : Hid (∀ w, (Builtin.min_ #[3, 3] 3 #[.int .i64 200, .int .i64 (N + D - D2)]).run Try.prog w = .ok (.int .i64 cb) w) := fun w => by rw [min_run, hcb]
          have e1 : IntKind.i64.wrap (h - l) = h - l := wrap_i64 (by omega) (by omega)
          have e2 : IntKind.i64.wrap D2 = D2 := wrap_i64 (by omega) (by omega)
          have e3 : IntKind.i64.wrap (N - D2) = N - D2 := wrap_i64 (by omega) (by omega)
          have e4 : IntKind.i64.wrap (N + D) = N + D := wrap_i64 (by omega) (by omega)
          have e5 : IntKind.i64.wrap (N + D - D2) = N + D - D2 := wrap_i64 (by omega) (by omega)
          have HNT : Hid (totL ((List.range fl).map T) B fl = N) := by show _ = _; rw [tot_truI, hN]
          clear hN hD hD2 hca hcb
          obtain ⟨b, off, rfl, hbl, H0, H1, H2⟩ := rd_ba ((HP.out.grow HBR.out).hwl) k _ hc
          have hbw : b < wr.heap.size := hbl
          simp only at H0 H1 H2
          clear hc hbl
          obtain ⟨V, hV⟩ : ∃ V, V = wr.alloc (.cells #[.int .i64 B, .int .i64 l, .int .i64 h] 56) := ⟨_, rfl⟩
          have HVK : Hid (Blk V wr.heap.size 56 #[.int .i64 B, .int .i64 l, .int .i64 h]) := by rw [hV]; exact Blk.new wr 56 _
          have HWV : Hid (Below wr.heap.size wr V) := by rw [hV]; exact (Below.refl _ _).alloc (Nat.le_refl _) _
          go_upto_region 14 with fail
          rw [← hV]
          clear hV H0 H1 H2 hbw
          have HUV := Lib.hid (HBU.out.below HWV.out HBU.out.lt)
          have HOV := Lib.hid (own_below HOW.out HWV.out)
          have q0 := HVK.out.cell 0
          have q1 := HVK.out.cell 1
          have q2 := HVK.out.cell 2
          have ql := HVK.out.lt
          simp at q0 q1 q2
          go_wp2_with fail
          refine (total_any (n := fl) (l := (List.range fl).map T) (A := A2) (c := c2) (by omega) (by simp) (by simp only [List.mem_map, List.mem_range]; rintro x ⟨i, hi, rfl⟩; have := HTB.out i hi; omega) B hB10 V (RdG.of_own inF_len (by decide) HOV.out (Nat.le_refl _) rfl)).mono ?_
          rw [HNT.out]
          rintro e V' ⟨rfl, rfl⟩
          have hm4 := HMN4.out
          have hVx := HUV.out.cell 4
          have hVl := HUV.out.lt
          simp at hVx
          go_upto_region 16 with fail
          have HOU2 := Lib.hid (own_below HOU.out HWV.out)
          have hne1 : some (w.heap.size + 1) ≠ u.ownBlock := fun e => by have := (HOU.out.lt _ e.symm).1; omega
          have hne2 : some wr.heap.size ≠ u.ownBlock := fun e => by have := (HOU.out.lt _ e.symm).2; omega
          have hXV : X.heap.size ≤ V'.heap.size := Nat.le_trans hsr2 HWV.out.size
          have hX1 : w.heap.size + 1 < X.heap.size := by omega
          have HNE1 := Lib.hid hne1
          have HNE2 := Lib.hid hne2
          clear hne1 hne2
          refine HavG.wp_region_havoc (R := GN X.heap.size 56 3 u k (((p.weighed.take k).map (trueBa T p.n)).flatMap baF) (baF ⟨(B : Int), ⟨ca, cb⟩⟩)) [(0,false),(1,false),(2,false),(3,false),(4,false),(5,false),(6,false),(7,false),(8,false),(9,false),(10,false),(11,false),(12,false),(13,false),(14,false),(15,false),(16,false),(19,false),(17,true),(18,true)] [20] (fun _ _ => False) (by kernel_rfl) (by kernel_rfl) (fun _ _ _ _ h => h.elim) ?_
          (apply HavG.hav_same (by simp only [List.getElem?_toArray, List.getElem?_cons_zero]; rfl) (by kernel_rfl); (focus (intro wv hgv _; have hcv : ∀ b o, b < X.heap.size → wv.cell? ⟨b, o, none⟩ = _ := fun b o hb => World.cell?_of_block (a := ⟨b, o, none⟩) (GN.far (b := b) hgv (by omega) (fun e => by have := (HOU.out.lt _ e.symm).1; omega)); have hcb : ∀ o, wv.cell? ⟨wr.heap.size, o, none⟩ = _ := fun o => World.cell?_of_block (a := ⟨wr.heap.size, o, none⟩) (GN.far hgv HVK.out.lt HNE2.out); (try go_simp); try rfl; done)); simp only [Act.put, List.setIfInBounds_toArray, List.set_cons_succ, List.set_cons_zero])
          iterate 7 (apply HavG.hav_same (by simp only [List.getElem?_toArray, List.getElem?_cons_succ, List.getElem?_cons_zero]; rfl) (by kernel_rfl); (focus (intro wv hgv _; have hcv : ∀ b o, b < X.heap.size → wv.cell? ⟨b, o, none⟩ = _ := fun b o hb => World.cell?_of_block (a := ⟨b, o, none⟩) (GN.far (b := b) hgv (by omega) (fun e => by have := (HOU.out.lt _ e.symm).1; omega)); have hcb : ∀ o, wv.cell? ⟨wr.heap.size, o, none⟩ = _ := fun o => World.cell?_of_block (a := ⟨wr.heap.size, o, none⟩) (GN.far hgv HVK.out.lt HNE2.out); (try go_simp); try rfl; done)); simp only [Act.put, List.setIfInBounds_toArray, List.set_cons_succ, List.set_cons_zero])
          (apply HavG.hav_same (by simp only [List.getElem?_toArray, List.getElem?_cons_succ, List.getElem?_cons_zero]; rfl) (by kernel_rfl); (focus (intro wv hgv _; have hcv : ∀ b o, b < X.heap.size → wv.cell? ⟨b, o, none⟩ = _ := fun b o hb => World.cell?_of_block (a := ⟨b, o, none⟩) (GN.far (b := b) hgv (by omega) (fun e => by have := (HOU.out.lt _ e.symm).1; omega)); have hcb : ∀ o, wv.cell? ⟨wr.heap.size, o, none⟩ = _ := fun o => World.cell?_of_block (a := ⟨wr.heap.size, o, none⟩) (GN.far hgv HVK.out.lt HNE2.out); have hmx := HMX.out; (try go_simp); try rfl; done)); simp only [Act.put, List.setIfInBounds_toArray, List.set_cons_succ, List.set_cons_zero])
          iterate 6 (apply HavG.hav_same (by simp only [List.getElem?_toArray, List.getElem?_cons_succ, List.getElem?_cons_zero]; rfl) (by kernel_rfl); (focus (intro wv hgv _; have hcv : ∀ b o, b < X.heap.size → wv.cell? ⟨b, o, none⟩ = _ := fun b o hb => World.cell?_of_block (a := ⟨b, o, none⟩) (GN.far (b := b) hgv (by omega) (fun e => by have := (HOU.out.lt _ e.symm).1; omega)); have hcb : ∀ o, wv.cell? ⟨wr.heap.size, o, none⟩ = _ := fun o => World.cell?_of_block (a := ⟨wr.heap.size, o, none⟩) (GN.far hgv HVK.out.lt HNE2.out); (try go_simp); try rfl; done)); simp only [Act.put, List.setIfInBounds_toArray, List.set_cons_succ, List.set_cons_zero])
          (apply HavG.hav_same (by simp only [List.getElem?_toArray, List.getElem?_cons_succ, List.getElem?_cons_zero]; rfl) (by kernel_rfl); (focus (intro wv hgv _; have hcv : ∀ b o, b < X.heap.size → wv.cell? ⟨b, o, none⟩ = _ := fun b o hb => World.cell?_of_block (a := ⟨b, o, none⟩) (GN.far (b := b) hgv (by omega) (fun e => by have := (HOU.out.lt _ e.symm).1; omega)); have hcb : ∀ o, wv.cell? ⟨wr.heap.size, o, none⟩ = _ := fun o => World.cell?_of_block (a := ⟨wr.heap.size, o, none⟩) (GN.far hgv HVK.out.lt HNE2.out); have hmn := HMN.out; (try go_simp); try rfl; done)); simp only [Act.put, List.setIfInBounds_toArray, List.set_cons_succ, List.set_cons_zero])
          (apply HavG.hav_call (by simp only [List.getElem?_toArray, List.getElem?_cons_succ, List.getElem?_cons_zero]; rfl) (by kernel_rfl); (focus (intro wv; go_simp; try exact ⟨rfl, rfl⟩; done)); (focus (intro wv hgv _; exact (weighed_any B ca cb wv).mono fun e w' h => ⟨h.1, GN.below h.2⟩; done)); simp only [Act.put, List.setIfInBounds_toArray, List.set_cons_succ, List.set_cons_zero])
          (apply HavG.hav_same (by simp only [List.getElem?_toArray, List.getElem?_cons_succ, List.getElem?_cons_zero]; rfl) (by kernel_rfl); (focus (intro wv hgv _; have hcv : ∀ b o, b < X.heap.size → wv.cell? ⟨b, o, none⟩ = _ := fun b o hb => World.cell?_of_block (a := ⟨b, o, none⟩) (GN.far (b := b) hgv (by omega) (fun e => by have := (HOU.out.lt _ e.symm).1; omega)); have hcb : ∀ o, wv.cell? ⟨wr.heap.size, o, none⟩ = _ := fun o => World.cell?_of_block (a := ⟨wr.heap.size, o, none⟩) (GN.far hgv HVK.out.lt HNE2.out); (try go_simp); try rfl; done)); simp only [Act.put, List.setIfInBounds_toArray, List.set_cons_succ, List.set_cons_zero])
          refine HavG.hav_val_ghost (fun y wq => ∃ g, y = .slice (some ⟨g, 0, none⟩) 1 1 ∧ some g ≠ u.ownBlock ∧ wq.heap[g]? = some (.cells #[.int .i64 B, .int .i64 ca, .int .i64 cb] 56)) (by simp only [List.getElem?_toArray, List.getElem?_cons_succ, List.getElem?_cons_zero]; rfl) (by kernel_rfl) ?_ ?_ (fun y => ?_)
          · rintro y a b ⟨g, rfl, hn, hg⟩ hG
            exact ⟨g, rfl, hn, (hG.1.block g (Array.getElem?_eq_some_iff.1 hg).1 hn).trans hg⟩
          · intro wv hgv _
            refine ⟨.slice (some ⟨wv.heap.size, 0, none⟩) 1 1, wv.alloc (.cells #[.int .i64 B, .int .i64 ca, .int .i64 cb] 56), ?_, GN.below ((Below.refl _ _).alloc (Nat.le_refl _) _), wv.heap.size, rfl, fun e => ?_, heap_alloc_new wv _⟩
            · go_simp
              try rfl
            · have := ((hgv.2.1 HOU2.out).lt _ e.symm).2
              omega
          simp only [Act.put, List.setIfInBounds_toArray, List.set_cons_succ, List.set_cons_zero]
          refine HavG.hav_val_ghost (fun y wq => wq.ownsRow X.heap.size 56 3 y (k + 1) (((p.weighed.take k).map (trueBa T p.n)).flatMap baF ++ baF ⟨(B : Int), ⟨ca, cb⟩⟩)) (by simp only [List.getElem?_toArray, List.getElem?_cons_succ, List.getElem?_cons_zero]; rfl) (by kernel_rfl) (fun _ _ _ h hG => hG.2.2 _ h) ?_ (fun y2 => ?_)
          · rintro wv hgv ⟨_, g, rfl, hne, hh⟩
            obtain ⟨v', w', hrun, ho1, hgr, ho2, ho3⟩ := append_keepN (P := Try.prog) X.heap.size 23 23 56 i1 _ 3 24 Try.underlying23 HJ.out HJ0.out HJ1.out HJ2.out rfl (by decide) u _ _ (hgv.2.1 HOU2.out) ⟨g, 0, none⟩ 1 (baF ⟨(B : Int), ⟨ca, cb⟩⟩) rfl (news_block (t := 56) (show Blk _ g 56 _ from hh)) (baF_one _) (by omega) (by omega) (Nat.le_trans hXV hgv.1.size)
            exact ⟨v', w', append_oper rfl rfl rfl hrun, ⟨hgr, fun _ => ho2, ho3⟩, ho1⟩
          simp only [Act.put, List.setIfInBounds_toArray, List.set_cons_succ, List.set_cons_zero]
          refine HavG.hav_end (fun w2 hg2 hF => ?_)
          simp only [List.filterMap]
          have hown2 := hF.2
          rw [← HTN.out] at hown2
          have hlen : ((p.weighed.take (k + 1)).map (trueBa T p.n)).length = k + 1 := by rw [List.length_map, List.length_take, HEW.out]; omega
          obtain ⟨A3, c3, hv3, -, -⟩ := own_rd (l := (p.weighed.take (k + 1)).map (trueBa T p.n)) baF_len (by decide) (by rw [hlen]; exact hown2)
          rw [hlen] at hv3
          subst hv3
          have HO2 := Lib.hid hown2
          have HG2 := Lib.hid hg2.1
          have HK2 : Hid (Blk w2 (w.heap.size + 1) 25 #[Value.slice fa fl fc, Value.int IntKind.i64 low, Value.int IntKind.i64 top, Value.int IntKind.i64 bales, u]) := (hg2.1.block _ HUV.out.lt HNE1.out).trans HUV.out
          clear hF hown2 hg2 q0 q1 q2 ql hVx hVl hm4 e1 e2 e3 e4 e5
          have k4 := HK2.out.cell 4
          have kf := HK2.out.frozen 4
          have kl := HK2.out.lt
          simp at k4
          go_wp2
          go_roundw
          case rel => exact ⟨k + 1, by omega, by go_num, .slice A3 (k + 1) c3, by have h := HK2.out.set_ 4 (.slice A3 (k + 1) c3); simpa using h, own_keep HO2.out (fun g hg => Below.heap_setCell _ ⟨w.heap.size + 1, 4, none⟩ _ g (by have := (HO2.out.lt g hg).1; show g ≠ w.heap.size + 1; omega)), (grown_own (HGR.out.trans (below_grown HWV.out _)) HG2.out (fun g hg => (HOU.out.lt g hg).1)).trans (grown_set _ _ _ _)⟩
          case measure => simp [intOf]; omega
        · obtain rfl : wl = k := by omega
          have hou := HOU.out
          have hlt : (p.trueP T).weighed.length = wl := by rw [PressD.true_len, HEW.out]
          rw [List.take_of_length_le (by rw [HEW.out]; exact Nat.le_refl _)] at hou
          obtain ⟨A3, c3, hv3, hrd, -⟩ := own_rd (l := (p.trueP T).weighed) baF_len (by decide) (by rw [hlt]; exact hou)
          rw [hlt] at hv3
          subst hv3
          have HOF := Lib.hid hou
          have HLT := Lib.hid hlt
          clear hou hrd hlt
          have hx := HBU.out
          have x0 := hx.cell 0
          have x1 := hx.cell 1
          have x2 := hx.cell 2
          have x3 := hx.cell 3
          have x4 := hx.cell 4
          simp at x0 x1 x2 x3 x4
          have lx := hx.lt
          clear hx
          have f0 := HBU.out.frozen 0
          have f1 := HBU.out.frozen 1
          have f2 := HBU.out.frozen 2
          have f3 := HBU.out.frozen 3
          have f4 := HBU.out.frozen 4
          go_wp2
          obtain ⟨F, hF⟩ : ∃ F, F = ((((wr.setCell ⟨w.heap.size + 1, 0, none⟩ (.slice fa fl fc)).setCell ⟨w.heap.size + 1, 1, none⟩ (.int .i64 low)).setCell ⟨w.heap.size + 1, 2, none⟩ (.int .i64 top)).setCell ⟨w.heap.size + 1, 3, none⟩ (.int .i64 bales)).setCell ⟨w.heap.size + 1, 4, none⟩ (.slice A3 wl c3) := ⟨_, rfl⟩
          have HKF : Hid (Blk F (w.heap.size + 1) 25 #[Value.slice fa fl fc, Value.int IntKind.i64 low, Value.int IntKind.i64 top, Value.int IntKind.i64 bales, Value.slice A3 wl c3]) := by
            rw [hF]
            have h := ((((HBU.out.set_ 0 (.slice fa fl fc)).set_ 1 (.int .i64 low)).set_ 2 (.int .i64 top)).set_ 3 (.int .i64 bales)).set_ 4 (.slice A3 wl c3)
            show Blk _ _ _ _
            simpa using h
          have HGF : Hid (wr.grownBy F (some (w.heap.size + 1))) := by
            rw [hF]
            exact ((((grown_set _ _ _ _).trans (grown_set _ _ _ _)).trans (grown_set _ _ _ _)).trans (grown_set _ _ _ _)).trans (grown_set _ _ _ _)
          rw [← hF]
          clear hF x0 x1 x2 x3 x4 lx f0 f1 f2 f3 f4
          have HBF : Hid (Below w.heap.size w F) := Below.grown HBR.out HGF.out (by omega) (fun k hk => by injection hk with hk; omega)
          have HOA := Lib.hid (own_keep HOF.out fun g hg => HGF.out.block g (HOF.out.lt g hg).2 (by have := (HOF.out.lt g hg).1; intro e; injection e with e; omega))
          have HOB := Lib.hid (own_keep HOW.out fun g hg => HGF.out.block g (HOW.out.lt g hg).2 (by have := (HZ.out g hg).2; intro e; injection e with e; omega))
          have hx := HKF.out
          have x0 := hx.cell 0
          have x1 := hx.cell 1
          have x2 := hx.cell 2
          have x3 := hx.cell 3
          have x4 := hx.cell 4
          simp at x0 x1 x2 x3 x4
          have lx := hx.lt
          clear hx
          refine bodyPost_ret (v := .tuple #[.agg #[.slice fa fl fc, .int .i64 low, .int .i64 top, .int .i64 bales, .slice A3 wl c3], .slice A2 fl c2]) (by simp [results, Try.results30, go_sem, x0, x1, x2, x3, x4]) rfl ?_
          refine ⟨A2, c2, A3, c3, rfl, ?_, ?_, HBF.out⟩
          · have h := HP.out.grow HBF.out
            exact ⟨h.elow, h.etop, h.ebales, h.efl, HLT.out, h.mfl, h.mwl, h.hfl, RdG.of_own baF_len (by decide) HOA.out (Nat.le_refl _) rfl⟩
          · exact RdG.of_own inF_len (by decide) HOB.out (Nat.le_refl _) rfl
end
end Go.Proofs.Ytbfjebglaimcmaa
