/- The law RiverMore: the calls ahead of the loop; copies of the lists. Conditions: what the frame holds. The law RiverMore: freshes and looks are told the other way round. Conditions: what the frame holds. -/
import Derived.Test.YtiodmkokpfgkkaaLawMoreP
import Derived.Test.YtiodmkokpfgkkaaLawWith
import Derived.Test.YtiodmkokpfgkkaaHavV
import Derived.Test.YtiodmkokpfgkkaaAppB
namespace Go.Proofs.Ytiodmkokpfgkkaa
open Go.RowKit Go.Hav Go.Shelf Go.Sq
attribute [local go_sem] Oper.semAt_some
theorem infoM55 : (Try.prog.info? 55).map (fun i => (i.zero, i.size, i.bytes)) = some (some (.agg #[.int .i64 0, .int .i64 0, .int .i64 0, .int .i64 0]), 4, 32) := by kernel_rfl
/-- What the middle of RiverMore leans on: also the two rivers that are known better. -/
structure MA (w0 w : World) (b5 b13 b14 b15 fl fc ll lc cz cl llx lcx cy fcx lly lcy : Nat) (fa la fz lz A1 A2 fx lx fy ly : Option Addr) (r x y : IRiv) : Prop where
 m : MoreIn w0 w b5 b15 fl fc ll lc cz cl fa la fz lz A1 A2 r
 hx : RBox w b13 fx fl fcx lx llx lcx x
 hy : RBox w b14 fy fl cy ly lly lcy y
section
variable {w0 K : World} {b5 b13 b14 b15 fl fc ll lc cz cl c1 c2 d n llx lcx cy fcx lly lcy : Nat} {fa la fz lz A1 A2 fx lx fy ly : Option Addr} {r x y : IRiv}
theorem MA.below {w w' : World} (h : MA w0 w b5 b13 b14 b15 fl fc ll lc cz cl llx lcx cy fcx lly lcy fa la fz lz A1 A2 fx lx fy ly r x y) (hb : Below w.heap.size w w') : MA w0 w' b5 b13 b14 b15 fl fc ll lc cz cl llx lcx cy fcx lly lcy fa la fz lz A1 A2 fx lx fy ly r x y := ⟨h.m.below hb, h.hx.below hb, h.hy.below hb⟩
set_option maxRecDepth 100000 in
set_option maxHeartbeats 6400000 in
theorem more12 (hok : okR r = true) (hC : MA w0 K b5 b13 b14 b15 fl fc ll lc cz cl llx lcx cy fcx lly lcy fa la fz lz A1 A2 fx lx fy ly r x y) (hd : d ≤ r.nat.days) (hn : n ≤ 200) (sx : okR x = true → SubT x.nat r.nat) (sy : okR y = true → SubT y.nat r.nat) :
  WM2 12 w0 (.pointer (some ⟨b5, 0, none⟩)) (.int .i64 d) (.int .i64 n) (.pointer (some ⟨b13, 0, none⟩)) (.pointer (some ⟨b14, 0, none⟩)) (.pointer (some ⟨b15, 0, none⟩)) (.slice A1 fl c1) (.slice A2 ll c2) K := by
 unfold WM2
 intros
 have hfl : fl ≤ 3 := by rw [← hC.m.hr.inn.efl]; exact (okR_pts hok).1.2.2.2.1
 have hll : ll ≤ 5 := by rw [← hC.m.hr.inn.ell]; exact (okR_pts hok).1.2.2.2.2
 obtain ⟨lo, hi, flo, fhi, sv, pv, E, M⟩ := mv_of hok hd hn
 have D0 := Lib.hid M.vd
 have D1 := Lib.hid M.vf
 have D2 := Lib.hid M.vy
 have hV : FrsV r fl E := fun i hi => by
  have h := M.fresh hok (i := i) (by rw [hC.m.hr.inn.efl]; exact hi)
  rw [hC.m.hr.inn.efl] at h
  exact h
 have HF : Hid (∀ wz b22 b24, Below K.heap.size K wz → Blk wz b22 23 #[.int .i64 (lo : Nat), .int .i64 (hi : Nat)] → Blk wz b24 23 #[.int .i64 (flo : Nat), .int .i64 (fhi : Nat)] → WM1 16 w0 (.pointer (some ⟨b5, 0, none⟩)) (.int .i64 d) (.int .i64 n) (.pointer (some ⟨b13, 0, none⟩)) (.pointer (some ⟨b14, 0, none⟩)) (.pointer (some ⟨b15, 0, none⟩)) (.slice A1 fl c1) (.slice A2 ll c2) (.pointer (some ⟨b22, 0, none⟩)) (.int .i64 E) (.pointer (some ⟨b24, 0, none⟩)) (.int .i64 E) (.int .i64 sv) (.int .i64 pv) (.int .i64 E) wz) := fun wz b22 b24 hb h22 h24 => more16 hok (hC.below hb).m hll hfl hd hn M hV h22 h24 (hC.below hb).hx (hC.below hb).hy sx sy
 have HC := Lib.hid hC
 have HBK : Hid (Below K.heap.size K K) := Below.refl _ _
 clear hok hC hd hn sx sy M hV hfl hll
 conv => arg 2; whnf
 conv => arg 2; arg 2; arg 2; arg 2; arg 2; change moreK 16
 have HX := HC.out.m.hr.box
 have x0 := HX.cell 0
 have x1 := HX.cell 1
 have x2 := HX.cell 2
 have x3 := HX.cell 3
 have x4 := HX.cell 4
 have x5 := HX.cell 5
 have x6 := HX.cell 6
 have xl := HX.lt
 simp [boxR] at x0 x1 x2 x3 x4 x5 x6
 clear HX
 go_wp2_with fail
 refine (PDepth_any (fa := fa) (fl := fl) (fc := fc) (la := la) (ll := ll) (lc := lc) (r := r) (w := K) (d : Int) (by exact HC.out.m.hr.inn)).mono ?_
 rw [D0.out]
 rintro e vK1 ⟨rfl, hb⟩
 obtain ⟨V1, hV1⟩ : ∃ W, W = vK1.alloc (.cells #[.int .i64 (lo : Nat), .int .i64 (hi : Nat)] 23) := ⟨_, rfl⟩
 obtain ⟨b22, hbs⟩ : ∃ g, g = vK1.heap.size := ⟨_, rfl⟩
 obtain ⟨K1, hw1⟩ : ∃ x, x = V1 := ⟨_, rfl⟩
 have HA : Below K.heap.size K K1 := by rw [hw1, hV1]; exact hb.alloc hb.size _
 have HN220 : Hid (Blk K1 b22 23 #[.int .i64 (lo : Nat), .int .i64 (hi : Nat)]) := by rw [hw1, hV1, hbs]; exact Blk.new vK1 23 _
 have HC1 := Lib.hid (HC.out.below HA)
 have HBK := Lib.hid (HBK.out.trans (HA.mono HBK.out.size))
 clear hb HA HC
 clear x0 x1 x2 x3 x4 x5 x6 xl
 go_upto_region 28 with (fail)
 rw [← hV1, ← hbs, ← hw1]
 clear hV1 hbs hw1
 have HX := HC1.out.m.hr.box
 have x0 := HX.cell 0
 have x1 := HX.cell 1
 have x2 := HX.cell 2
 have x3 := HX.cell 3
 have x4 := HX.cell 4
 have x5 := HX.cell 5
 have x6 := HX.cell 6
 have xl := HX.lt
 simp [boxR] at x0 x1 x2 x3 x4 x5 x6
 clear HX
 go_wp2_with fail
 refine (PFall_any (fa := fa) (fl := fl) (fc := fc) (la := la) (ll := ll) (lc := lc) (r := r) (w := K1) (by exact HC1.out.m.hr.inn)).mono ?_
 rw [D1.out]
 rintro e vK2 ⟨rfl, hb⟩
 obtain ⟨V1, hV1⟩ : ∃ W, W = vK2.alloc (.cells #[.int .i64 (flo : Nat), .int .i64 (fhi : Nat)] 23) := ⟨_, rfl⟩
 obtain ⟨b24, hbs⟩ : ∃ g, g = vK2.heap.size := ⟨_, rfl⟩
 obtain ⟨K2, hw1⟩ : ∃ x, x = V1 := ⟨_, rfl⟩
 have HA : Below K1.heap.size K1 K2 := by rw [hw1, hV1]; exact hb.alloc hb.size _
 have HN240 : Hid (Blk K2 b24 23 #[.int .i64 (flo : Nat), .int .i64 (fhi : Nat)]) := by rw [hw1, hV1, hbs]; exact Blk.new vK2 23 _
 have HC2 := Lib.hid (HC1.out.below HA)
 have HN221 := Lib.hid (HN220.out.below HA HN220.out.lt)
 have HBK := Lib.hid (HBK.out.trans (HA.mono HBK.out.size))
 clear hb HA HC1
 clear x0 x1 x2 x3 x4 x5 x6 xl
 go_upto_region 29 with (fail)
 rw [← hV1, ← hbs, ← hw1]
 clear hV1 hbs hw1
 have HX := HC2.out.m.hr.box
 have x0 := HX.cell 0
 have x1 := HX.cell 1
 have x2 := HX.cell 2
 have x3 := HX.cell 3
 have x4 := HX.cell 4
 have x5 := HX.cell 5
 have x6 := HX.cell 6
 have xl := HX.lt
 simp [boxR] at x0 x1 x2 x3 x4 x5 x6
 clear HX
 go_wp2_with fail
 refine (PDays_any (fa := fa) (fl := fl) (fc := fc) (la := la) (ll := ll) (lc := lc) (r := r) (w := K2) (n : Int) (by exact HC2.out.m.hr.inn)).mono ?_
 rw [D2.out]
 rintro e K3 ⟨rfl, hb⟩
 have HA : Below K2.heap.size K2 K3 := hb
 have HC3 := Lib.hid (HC2.out.below HA)
 have HN222 := Lib.hid (HN221.out.below HA HN221.out.lt)
 have HN241 := Lib.hid (HN240.out.below HA HN240.out.lt)
 have HBK := Lib.hid (HBK.out.trans (HA.mono HBK.out.size))
 clear hb HA HC2
 clear x0 x1 x2 x3 x4 x5 x6 xl
 go_wp2
 exact HF.out _ _ _ HBK.out HN222.out HN241.out _ _ _ _ _ _ _ _ _ _ _ _ _ _ _ _ _ _ _ _ _ _ _ _ _ _ _ _ _ _ _ _ _ _ _ _ _ _ _ _ _ _ _ _ _ _ _ _ _ _ _ _ _ _ _ _ _ _ _ _ _ _ _ _ _ _ _ _ _ _ _ _ _ _ _ _ _ _ _ _ _ _ _ _ _ _ _ _ _ _ _ _ _ _ _ _ _ _ _ _ _ _ _ _ _ _ _ _ _ _ _ _ _ _ _ _ _ _ _ _ _ _ _ _ _ _ _ _ _ _ _ _ _ _ _ _ _ _ _ _ _ _ _ _ _ _ _ _ _ _ _ _ _ _ _ _ _ _ _ _ _ _ _ _ _ _ _ _ _ _ _ _ _ _ _ _ _ _ _ _ _ _ _ _ _ _ _ _ _ _ _ _ _ _ _ _ _ _ _ _ _ _ _ _ _ _ _ _ _ _ _ _ _ _ _ _ _ _ _ _ _ _ _ _ _ _ _ _ _ _ _ _ _ _ _ _ _ _ _ _ _ _ _ _ _ _ _ _ _ _ _ _ _ _ _ _ _ _ _ _ _ _ _ _ _ _ _ _ _ _ _ _ _ _ _ _ _ _ _ _ _ _ _ _ _ _ _ _ _ _ _ _ _ _ _ _ _ _ _ _ _ _ _ _ _ _ _ _ _ _ _ _ _ _ _ _ _ _ _ _ _ _ _ _ _ _ _ _ _ _ _ _ _ _ _ _ _ _ _ _ _ _ _ _ _ _ _ _ _ _ _ _ _ _ _ _ _ _ _ _ _ _ _ _ _ _ _ _ _ _ _ _ _ _ _ _ _ _ _ _ _ _ _ _ _ _ _ _ _ _ _ _ _ _ _ _ _ _ _ _
def more11T (B b5 : Nat) (fa : Option Addr) (fl fc : Nat) (la : Option Addr) (ll lc : Nat) (r : IRiv) (i : Nat) (v : Value) (w : World) : Prop :=
 match i with
 | 0 => ∃ g, v = .slice (some ⟨g, 0, none⟩) 0 0 ∧ w.ownsRow B 55 4 (.slice (some ⟨g, 0, none⟩) 0 0) 0 []
 | 1 => v = .pointer (some ⟨b5, 5, none⟩)
 | 2 => v = .slice fa fl fc
 | 3 => ∃ g c, v = .slice (some ⟨g, 0, none⟩) fl c ∧ w.ownsRow B 55 4 (.slice (some ⟨g, 0, none⟩) fl c) fl (r.fr.flatMap frI)
 | 4 => ∃ g, v = .slice (some ⟨g, 0, none⟩) 0 0 ∧ w.ownsRow B 58 3 (.slice (some ⟨g, 0, none⟩) 0 0) 0 []
 | 5 => v = .pointer (some ⟨b5, 6, none⟩)
 | 6 => v = .slice la ll lc
 | 7 => ∃ g c, v = .slice (some ⟨g, 0, none⟩) ll c ∧ w.ownsRow B 58 3 (.slice (some ⟨g, 0, none⟩) ll c) ll (r.lk.flatMap lkI)
 | 8 => ∃ g c, v = .slice (some ⟨g, 0, none⟩) fl c ∧ w.ownsRow B 55 4 (.slice (some ⟨g, 0, none⟩) fl c) fl (r.fr.flatMap frI)
 | 9 => ∃ g c, v = .slice (some ⟨g, 0, none⟩) ll c ∧ w.ownsRow B 58 3 (.slice (some ⟨g, 0, none⟩) ll c) ll (r.lk.flatMap lkI)
 | _ => True
theorem more11_keep {B i : Nat} {v : Value} {w w' : World} (h : more11T B b5 fa fl fc la ll lc r i v w) (hb : RelB.G w w') : more11T B b5 fa fl fc la ll lc r i v w' := by
 have hb : Below w.heap.size w w' := hb
 unfold more11T at h ⊢
 split at h
 case h_1 => obtain ⟨g, e, h⟩ := h; exact ⟨g, e, own_below h hb⟩
 case h_4 => obtain ⟨g, c, e, h⟩ := h; exact ⟨g, c, e, own_below h hb⟩
 case h_5 => obtain ⟨g, e, h⟩ := h; exact ⟨g, e, own_below h hb⟩
 case h_8 => obtain ⟨g, c, e, h⟩ := h; exact ⟨g, c, e, own_below h hb⟩
 case h_9 => obtain ⟨g, c, e, h⟩ := h; exact ⟨g, c, e, own_below h hb⟩
 case h_10 => obtain ⟨g, c, e, h⟩ := h; exact ⟨g, c, e, own_below h hb⟩
 all_goals exact h
theorem more11_cg {B i : Nat} {v v' : Value} {w : World} (e : v = v') (h : more11T B b5 fa fl fc la ll lc r i v w) : more11T B b5 fa fl fc la ll lc r i v' w := e ▸ h
/-- The same, ahead of the copies. -/
structure MB (w0 w : World) (b5 b13 b14 b15 fl fc ll lc cz cl llx lcx cy fcx lly lcy : Nat) (fa la fz lz fx lx fy ly : Option Addr) (r x y : IRiv) : Prop where
 bw : Below w0.heap.size w0 w
 hr : RBox w b5 fa fl fc la ll lc r
 hz : RBox w b15 fz fl cz lz ll cl (flipR r)
 hx : RBox w b13 fx fl fcx lx llx lcx x
 hy : RBox w b14 fy fl cy ly lly lcy y
theorem MB.below {w w' : World} (h : MB w0 w b5 b13 b14 b15 fl fc ll lc cz cl llx lcx cy fcx lly lcy fa la fz lz fx lx fy ly r x y) (hb : Below w.heap.size w w') : MB w0 w' b5 b13 b14 b15 fl fc ll lc cz cl llx lcx cy fcx lly lcy fa la fz lz fx lx fy ly r x y :=
 ⟨h.bw.trans (hb.mono h.bw.size), h.hr.below hb, h.hz.below hb, h.hx.below hb, h.hy.below hb⟩
set_option maxRecDepth 100000 in
set_option maxHeartbeats 6400000 in
theorem more11 {W : World} (hok : okR r = true) (hC : MB w0 W b5 b13 b14 b15 fl fc ll lc cz cl llx lcx cy fcx lly lcy fa la fz lz fx lx fy ly r x y) (hd : d ≤ r.nat.days) (hn : n ≤ 200) (sx : okR x = true → SubT x.nat r.nat) (sy : okR y = true → SubT y.nat r.nat) :
  WM3 11 w0 (.pointer (some ⟨b5, 0, none⟩)) (.int .i64 d) (.int .i64 n) (.pointer (some ⟨b13, 0, none⟩)) (.pointer (some ⟨b14, 0, none⟩)) (.pointer (some ⟨b15, 0, none⟩)) W := by
 unfold WM3
 intros
 have hfl : fl ≤ 3 := by rw [← hC.hr.inn.efl]; exact (okR_pts hok).1.2.2.2.1
 have hll : ll ≤ 5 := by rw [← hC.hr.inn.ell]; exact (okR_pts hok).1.2.2.2.2
 have HF : Hid (∀ wz A1 A2 c1 c2, Below W.heap.size W wz → RdG frI 4 wz wz.heap.size A1 r.fr → RdG lkI 3 wz wz.heap.size A2 r.lk → WM2 12 w0 (.pointer (some ⟨b5, 0, none⟩)) (.int .i64 d) (.int .i64 n) (.pointer (some ⟨b13, 0, none⟩)) (.pointer (some ⟨b14, 0, none⟩)) (.pointer (some ⟨b15, 0, none⟩)) (.slice A1 fl c1) (.slice A2 ll c2) wz) := fun wz A1 A2 c1 c2 hb h1 h2 => more12 hok ⟨⟨(hC.below hb).bw, (hC.below hb).hr, (hC.below hb).hz, h1, h2⟩, (hC.below hb).hx, (hC.below hb).hy⟩ hd hn sx sy
 have HEF : Hid (r.fr.length = fl) := hC.hr.inn.efl
 have HEL : Hid (r.lk.length = ll) := hC.hr.inn.ell
 have HC := Lib.hid hC
 obtain ⟨I, hi, hz0, hz1, hz2⟩ := info_parts infoM55
 have HI := Lib.hid hi
 have HI0 := Lib.hid hz0
 have HI1 := Lib.hid hz1
 have HI2 := Lib.hid hz2
 obtain ⟨J, hj, hy0, hy1, hy2⟩ := info_parts infoW58
 have HJ := Lib.hid hj
 have HJ0 := Lib.hid hy0
 have HJ1 := Lib.hid hy1
 have HJ2 := Lib.hid hy2
 clear hok hC hd hn sx sy hi hz0 hz1 hz2 hj hy0 hy1 hy2
 conv => arg 2; whnf
 conv => arg 2; arg 2; change moreK 12
 go_upto_region 26 with (fail)
 rename ∀ a w, Code.wp Try.prog (moreK 12) _ a w → _ => hKU
 have HKU := Lib.hid hKU
 clear hKU
 refine HavG.wp_region_tabW (R := RelB) (fun i V w => more11T W.heap.size b5 fa fl fc la ll lc r i (V i) w) (fun i w => True) [] [some 180, some 181, some 182, some 183, some 184, some 185, some 186, some 187, some 20, some 21] (by kernel_rfl) (by kernel_rfl) (by rfl) (fun i V w w' => more11_keep) (fun _ _ => trivial) (fun i hi V V' w h hV => more11_cg (hV i (.inl rfl)) h) (fun i hi => by cases hi) ?_ ?_
 ·intro i hi oo a' w' ho hag hg hd hps
  match i, hi, ho, hd, hps with
  | 0, _, ho, hd, hps =>
   (simp only [List.getElem?_toArray, List.getElem?_cons_zero, Option.some.injEq] at ho; subst ho)
   refine HavG.tabW_val rfl (by simp) ⟨.slice (some ⟨w'.heap.size, 0, none⟩) 0 0, w'.alloc (.cells #[] 55), ?_, (Below.refl _ _).alloc (Nat.le_refl _) _, fun _ _ _ _ h => h, fun V _ hv => ⟨w'.heap.size, hv, own_base (ownsRow_empty rfl 55 4) (Below.size hg)⟩, fun h => by simp at h⟩
   go_simp
  | 1, _, ho, hd, hps =>
   (simp only [List.getElem?_toArray, List.getElem?_cons_succ, List.getElem?_cons_zero, Option.some.injEq] at ho; subst ho)
   have s5 : a'.tmps[5]?.getD undef = (.pointer (some ⟨b5, 0, none⟩)) := by rw [← Array.getD_eq_getD_getElem?]; exact hag.slot 5 (by kernel_rfl)
   have r5 : a'.tmps.getD 5 undef = (.pointer (some ⟨b5, 0, none⟩)) := hag.slot 5 (by kernel_rfl)
   refine HavG.tabW_val rfl (by simp) ⟨.pointer (some ⟨b5, 5, none⟩), w', ?_, HavG.Rel.refl _ _, fun _ _ _ _ h => h, fun V _ hv => hv, fun h => by simp at h⟩
   go_simp
   try rfl
  | 2, _, ho, hd, hps =>
   (simp only [List.getElem?_toArray, List.getElem?_cons_succ, List.getElem?_cons_zero, Option.some.injEq] at ho; subst ho)
   have d181 : a'.tmps.getD 181 undef = (.pointer (some ⟨b5, 5, none⟩)) := hd 1 (by kernel_rfl) (by decide)
   have c181 : a'.tmps[181]?.getD undef = (.pointer (some ⟨b5, 5, none⟩)) := by rw [← Array.getD_eq_getD_getElem?]; exact d181
   have HX := (HC.out.below hg).hr.box
   have x5 := HX.cell 5
   have x6 := HX.cell 6
   have xl := HX.lt
   simp [boxR] at x5 x6
   clear HX
   refine HavG.tabW_val rfl (by simp) ⟨.slice fa fl fc, w', ?_, HavG.Rel.refl _ _, fun _ _ _ _ h => h, fun V _ hv => hv, fun h => by simp at h⟩
   go_simp
   try rfl
  | 3, _, ho, hd, hps =>
   (simp only [List.getElem?_toArray, List.getElem?_cons_succ, List.getElem?_cons_zero, Option.some.injEq] at ho; subst ho)
   obtain ⟨g, e3, h3⟩ : ∃ g, HavG.slot a' 180 = .slice (some ⟨g, 0, none⟩) 0 0 ∧ _ := hd 0 (by kernel_rfl) (by decide)
   have e4 : HavG.slot a' 182 = .slice fa fl fc := hd 2 (by kernel_rfl) (by decide)
   obtain ⟨v', w2, hrun, ⟨g', c', rfl, -⟩, hown, hb⟩ := append_copy (P := Try.prog) (f := frI) (n := fl) (c := fc) (A := fa) (l := r.fr) 24 24 55 I _ 4 32 Try.underlying24 HI.out HI0.out HI1.out HI2.out rfl (by decide) frI_len HEF.out (HC.out.hr.inn.grow hg).hfr (by omega) (by omega) (Below.size hg) h3
   exact HavG.tabW_val rfl (by simp) ⟨_, w2, append_oper rfl e3 e4 hrun, hb, fun _ _ _ _ h => h, fun V _ hv => ⟨_, _, hv, hown⟩, fun h => by simp at h⟩
  | 4, _, ho, hd, hps =>
   (simp only [List.getElem?_toArray, List.getElem?_cons_succ, List.getElem?_cons_zero, Option.some.injEq] at ho; subst ho)
   refine HavG.tabW_val rfl (by simp) ⟨.slice (some ⟨w'.heap.size, 0, none⟩) 0 0, w'.alloc (.cells #[] 58), ?_, (Below.refl _ _).alloc (Nat.le_refl _) _, fun _ _ _ _ h => h, fun V _ hv => ⟨w'.heap.size, hv, own_base (ownsRow_empty rfl 58 3) (Below.size hg)⟩, fun h => by simp at h⟩
   go_simp
  | 5, _, ho, hd, hps =>
   (simp only [List.getElem?_toArray, List.getElem?_cons_succ, List.getElem?_cons_zero, Option.some.injEq] at ho; subst ho)
   have s5 : a'.tmps[5]?.getD undef = (.pointer (some ⟨b5, 0, none⟩)) := by rw [← Array.getD_eq_getD_getElem?]; exact hag.slot 5 (by kernel_rfl)
   have r5 : a'.tmps.getD 5 undef = (.pointer (some ⟨b5, 0, none⟩)) := hag.slot 5 (by kernel_rfl)
   refine HavG.tabW_val rfl (by simp) ⟨.pointer (some ⟨b5, 6, none⟩), w', ?_, HavG.Rel.refl _ _, fun _ _ _ _ h => h, fun V _ hv => hv, fun h => by simp at h⟩
   go_simp
   try rfl
  | 6, _, ho, hd, hps =>
   (simp only [List.getElem?_toArray, List.getElem?_cons_succ, List.getElem?_cons_zero, Option.some.injEq] at ho; subst ho)
   have d185 : a'.tmps.getD 185 undef = (.pointer (some ⟨b5, 6, none⟩)) := hd 5 (by kernel_rfl) (by decide)
   have c185 : a'.tmps[185]?.getD undef = (.pointer (some ⟨b5, 6, none⟩)) := by rw [← Array.getD_eq_getD_getElem?]; exact d185
   have HX := (HC.out.below hg).hr.box
   have x5 := HX.cell 5
   have x6 := HX.cell 6
   have xl := HX.lt
   simp [boxR] at x5 x6
   clear HX
   refine HavG.tabW_val rfl (by simp) ⟨.slice la ll lc, w', ?_, HavG.Rel.refl _ _, fun _ _ _ _ h => h, fun V _ hv => hv, fun h => by simp at h⟩
   go_simp
   try rfl
  | 7, _, ho, hd, hps =>
   (simp only [List.getElem?_toArray, List.getElem?_cons_succ, List.getElem?_cons_zero, Option.some.injEq] at ho; subst ho)
   obtain ⟨g, e3, h3⟩ : ∃ g, HavG.slot a' 184 = .slice (some ⟨g, 0, none⟩) 0 0 ∧ _ := hd 4 (by kernel_rfl) (by decide)
   have e4 : HavG.slot a' 186 = .slice la ll lc := hd 6 (by kernel_rfl) (by decide)
   obtain ⟨v', w2, hrun, ⟨g', c', rfl, -⟩, hown, hb⟩ := append_copy (P := Try.prog) (f := lkI) (n := ll) (c := lc) (A := la) (l := r.lk) 25 25 58 J _ 3 24 Try.underlying25 HJ.out HJ0.out HJ1.out HJ2.out rfl (by decide) lkI_len HEL.out (HC.out.hr.inn.grow hg).hlk (by omega) (by omega) (Below.size hg) h3
   exact HavG.tabW_val rfl (by simp) ⟨_, w2, append_oper rfl e3 e4 hrun, hb, fun _ _ _ _ h => h, fun V _ hv => ⟨_, _, hv, hown⟩, fun h => by simp at h⟩
  | 8, _, ho, hd, hps =>
   (simp only [List.getElem?_toArray, List.getElem?_cons_succ, List.getElem?_cons_zero, Option.some.injEq] at ho; subst ho)
   obtain ⟨g, c, e9, h9⟩ : ∃ g c, HavG.slot a' 183 = .slice (some ⟨g, 0, none⟩) fl c ∧ _ := hd 3 (by kernel_rfl) (by decide)
   have d183 : a'.tmps.getD 183 undef = .slice (some ⟨g, 0, none⟩) fl c := e9
   have c183 : a'.tmps[183]?.getD undef = .slice (some ⟨g, 0, none⟩) fl c := by rw [← Array.getD_eq_getD_getElem?]; exact d183
   refine HavG.tabW_val rfl (by simp) ⟨.slice (some ⟨g, 0, none⟩) fl c, w', ?_, HavG.Rel.refl _ _, fun _ _ _ _ h => h, fun V _ hv => ⟨_, _, hv, h9⟩, fun h => by simp at h⟩
   go_simp
   try rfl
  | 9, _, ho, hd, hps =>
   (simp only [List.getElem?_toArray, List.getElem?_cons_succ, List.getElem?_cons_zero, Option.some.injEq] at ho; subst ho)
   obtain ⟨g, c, e9, h9⟩ : ∃ g c, HavG.slot a' 187 = .slice (some ⟨g, 0, none⟩) ll c ∧ _ := hd 7 (by kernel_rfl) (by decide)
   have d187 : a'.tmps.getD 187 undef = .slice (some ⟨g, 0, none⟩) ll c := e9
   have c187 : a'.tmps[187]?.getD undef = .slice (some ⟨g, 0, none⟩) ll c := by rw [← Array.getD_eq_getD_getElem?]; exact d187
   refine HavG.tabW_val rfl (by simp) ⟨.slice (some ⟨g, 0, none⟩) ll c, w', ?_, HavG.Rel.refl _ _, fun _ _ _ _ h => h, fun V _ hv => ⟨_, _, hv, h9⟩, fun h => by simp at h⟩
   go_simp
   try rfl
  | j + 10, hj, _, _, _ => exact absurd hj (by simp)
 intro f w2 hg hf _
 obtain ⟨g0, q0, -⟩ : ∃ g, f 180 = .slice (some ⟨g, 0, none⟩) 0 0 ∧ _ := hf 0 (by decide)
 have q1 : f 181 = _ := hf 1 (by decide)
 have q2 : f 182 = _ := hf 2 (by decide)
 obtain ⟨g3, c3, q3, -⟩ : ∃ g c, f 183 = .slice (some ⟨g, 0, none⟩) fl c ∧ _ := hf 3 (by decide)
 obtain ⟨g4, q4, -⟩ : ∃ g, f 184 = .slice (some ⟨g, 0, none⟩) 0 0 ∧ _ := hf 4 (by decide)
 have q5 : f 185 = _ := hf 5 (by decide)
 have q6 : f 186 = _ := hf 6 (by decide)
 obtain ⟨g7, c7, q7, -⟩ : ∃ g c, f 187 = .slice (some ⟨g, 0, none⟩) ll c ∧ _ := hf 7 (by decide)
 obtain ⟨g8, c8, q8, h8⟩ : ∃ g c, f 20 = .slice (some ⟨g, 0, none⟩) fl c ∧ w2.ownsRow W.heap.size 55 4 (.slice (some ⟨g, 0, none⟩) fl c) fl (r.fr.flatMap frI) := hf 8 (by decide)
 obtain ⟨g9, c9, q9, h9⟩ : ∃ g c, f 21 = .slice (some ⟨g, 0, none⟩) ll c ∧ w2.ownsRow W.heap.size 58 3 (.slice (some ⟨g, 0, none⟩) ll c) ll (r.lk.flatMap lkI) := hf 9 (by decide)
 simp only [List.filterMap, HavG.puts, List.foldl_cons, List.foldl_nil, Act.put, List.setIfInBounds_toArray, List.set_cons_succ, List.set_cons_zero]
 rw [q0, q1, q2, q3, q4, q5, q6, q7, q8, q9]
 have HB2 : Hid (Below W.heap.size W w2) := hg
 have HO8 : Hid (RdG frI 4 w2 w2.heap.size (some ⟨g8, 0, none⟩) r.fr) := by
  rw [← HEF.out] at h8
  obtain ⟨A, cq, he, hrd, -⟩ := own_rd frI_len (by decide) h8
  injection he with e1 e2 e3
  rw [e1]
  exact hrd
 have HO9 : Hid (RdG lkI 3 w2 w2.heap.size (some ⟨g9, 0, none⟩) r.lk) := by
  rw [← HEL.out] at h9
  obtain ⟨A, cq, he, hrd, -⟩ := own_rd lkI_len (by decide) h9
  injection he with e1 e2 e3
  rw [e1]
  exact hrd
 clear hf q0 q1 q2 q3 q4 q5 q6 q7 q8 q9 h8 h9 hg
 go_wp2
 exact HKU.out _ _ (HF.out w2 _ _ _ _ HB2.out HO8.out HO9.out _ _ _ _ _ _ _ _ _ _ _ _ _ _ _ _ _ _ _ _ _ _ _ _ _ _ _ _ _ _ _ _ _ _ _ _ _ _ _ _ _ _ _ _ _ _ _ _ _ _ _ _ _ _ _ _ _ _ _ _ _ _ _ _ _ _ _ _ _ _ _ _ _ _ _ _ _ _ _ _ _ _ _ _ _ _ _ _ _ _ _ _ _ _ _ _ _ _ _ _ _ _ _ _ _ _ _ _ _ _ _ _ _ _ _ _ _ _ _ _ _ _ _ _ _ _ _ _ _ _ _ _ _ _ _ _ _ _ _ _ _ _ _ _ _ _ _ _ _ _ _ _ _ _ _ _ _ _ _ _ _ _ _ _ _ _ _ _ _ _ _ _ _ _ _ _ _ _ _ _ _ _ _ _ _ _ _ _ _ _ _ _ _ _ _ _ _ _ _ _ _ _ _ _ _ _ _ _ _ _ _ _ _ _ _ _ _ _ _ _ _ _ _ _ _ _ _ _ _ _ _ _ _ _ _ _ _ _ _ _ _ _ _ _ _ _ _ _ _ _ _ _ _ _ _ _ _ _ _ _ _ _ _ _ _ _ _ _ _ _ _ _ _ _ _ _ _ _ _ _ _ _ _ _ _ _ _ _ _ _ _ _ _ _ _ _ _ _ _ _ _ _ _ _ _ _ _ _ _ _ _ _ _ _ _ _ _ _ _ _ _ _ _ _ _ _ _ _ _ _ _ _ _ _ _ _ _ _ _ _ _ _ _ _ _ _ _ _ _ _ _ _ _ _ _ _ _ _ _ _ _ _ _ _ _ _ _ _ _ _ _ _ _ _ _ _ _ _ _ _ _ _ _ _ _ _ _ _ _ _ _ _ _ _ _ _ _ _ _ _ _ _ _ _ _ _ _)
end
end Go.Proofs.Ytiodmkokpfgkkaa
namespace Go.Proofs.Ytiodmkokpfgkkaa
open Go.RowKit Go.Hav Go.Shelf Go.Sq
attribute [local go_sem] Oper.semAt_some
/-- Not in a block. -/
def Away (A : Option Addr) (g : Nat) : Prop := ∀ b off, A = some ⟨b, off, none⟩ → b ≠ g
theorem own_addr {w : World} {B e sz n k c : Nat} {A : Option Addr} {xs : List Value} (h : w.ownsRow B e sz (.slice A n c) k xs) {a : Addr} (ha : A = some a) : a.block < w.heap.size := by
 obtain ⟨-, cs, hb⟩ := own_block h (g := a.block) (by rw [ha]; rfl)
 exact hb.lt
theorem own_addr2 {w : World} {B e sz n k c b off : Nat} {A : Option Addr} {xs : List Value} (h : w.ownsRow B e sz (.slice A n c) k xs) (ha : A = some ⟨b, off, none⟩) : B ≤ b := (own_block h (g := b) (by rw [ha]; rfl)).1
theorem RdG.awayB {α : Type} {f : α → List Value} {sz g : Nat} {w w' : World} {A : Option Addr} {l : List α} (h : RdG f sz w w.heap.size A l) (t : Turn (fun x => x = g ∨ w.heap.size ≤ x) w w') (ha : l ≠ [] → Away A g) : RdG f sz w' w.heap.size A l := by
 cases l with
 | nil => exact RdG.nil _ _ _ _ _
 | cons x l => exact h.keep fun b hb ⟨off, e⟩ => t.block b hb (fun hs => hs.elim (ha (by simp) b off e) (by omega))
theorem RBox.away {w w' : World} {b g fl fc ll lc : Nat} {fa la : Option Addr} {q : IRiv} (h : RBox w b fa fl fc la ll lc q) (t : Turn (fun x => x = g ∨ w.heap.size ≤ x) w w') (hb : b ≠ g) (h1 : q.fr ≠ [] → Away fa g) (h2 : q.lk ≠ [] → Away la g) : RBox w' b fa fl fc la ll lc q :=
 ⟨h.box.turn t (by have := h.box.lt; omega), { h.inn with hfr := (h.inn.hfr.awayB t h1).more t.size, hlk := (h.inn.hlk.awayB t h2).more t.size }⟩
/-- What the making of the third river leans on. -/
structure ML (w0 w : World) (b5 b13 b14 b15 fl fc ll lc llx lcx cy fcx lly lcy : Nat) (fa la fx lx fy ly : Option Addr) (r x y : IRiv) : Prop where
 bw : Below w0.heap.size w0 w
 hr : RBox w b5 fa fl fc la ll lc r
 hx : RBox w b13 fx fl fcx lx llx lcx x
 hy : RBox w b14 fy fl cy ly lly lcy y
 ge : w0.heap.size ≤ b15
 n5 : b5 ≠ b15
 n13 : b13 ≠ b15
 n14 : b14 ≠ b15
 af : r.fr ≠ [] → Away fa b15
 al : r.lk ≠ [] → Away la b15
 axf : x.fr ≠ [] → Away fx b15
 axl : x.lk ≠ [] → Away lx b15
 ayf : y.fr ≠ [] → Away fy b15
 ayl : y.lk ≠ [] → Away ly b15
theorem ML.turned {w0 : World} {b5 b13 b14 b15 fl fc ll lc llx lcx cy fcx lly lcy : Nat} {fa la fx lx fy ly : Option Addr} {r x y : IRiv} {w w' : World} (h : ML w0 w b5 b13 b14 b15 fl fc ll lc llx lcx cy fcx lly lcy fa la fx lx fy ly r x y) (t : Turn (fun x => x = b15 ∨ w.heap.size ≤ x) w w') : ML w0 w' b5 b13 b14 b15 fl fc ll lc llx lcx cy fcx lly lcy fa la fx lx fy ly r x y :=
 { h with bw := h.bw.trans (t.below h.bw.size (fun b e => by have := h.ge; have := h.bw.size; omega)), hr := h.hr.away t h.n5 h.af h.al, hx := h.hx.away t h.n13 h.axf h.axl, hy := h.hy.away t h.n14 h.ayf h.ayl }
/-- What each step of a round leaves: an element is taken from behind, and put behind a row of one's own. -/
def flipT (e sz : Nat) (ys xs : List Value) (B b15 b5 o : Nat) (cs : Value → Array Value) (A : Option Addr) (k ck : Nat) (fa : Option Addr) (fl fc j bf fo : Nat) (i : Nat) (V : Nat → Value) (w : World) : Prop :=
 match i with
 | 0 => V 0 = .pointer (some ⟨b15, o, none⟩)
 | 1 => V 1 = .slice A k ck
 | 2 => V 2 = .pointer (some ⟨b5, o, none⟩)
 | 3 => V 3 = .slice fa fl fc
 | 4 => V 4 = .pointer (some ⟨b5, o, none⟩)
 | 5 => V 5 = .slice fa fl fc
 | 6 => V 6 = .int .i64 fl
 | 7 => V 7 = .int .i64 ((fl : Int) - 1)
 | 8 => V 8 = .int .i64 k
 | 9 => V 9 = .int .i64 j
 | 10 => V 10 = .pointer (some ⟨bf, fo + j * sz, none⟩)
 | 11 => V 11 = .agg ys.toArray
 | 12 => ∃ g, V 12 = .slice (some ⟨g, 0, none⟩) 1 1 ∧ Blk w g e ys.toArray ∧ B ≤ g ∧ ∀ a, A = some a → a.block ≠ g
 | 13 => ∃ g cp, V 13 = .slice (some ⟨g, 0, none⟩) (k + 1) cp ∧ w.ownsRow B e sz (.slice (some ⟨g, 0, none⟩) (k + 1) cp) (k + 1) (xs ++ ys)
 | 14 => V 14 = .pointer (some ⟨b15, o, none⟩)
 | 15 => ∃ g cp, V 13 = .slice (some ⟨g, 0, none⟩) (k + 1) cp ∧ Blk w b15 27 (cs (.slice (some ⟨g, 0, none⟩) (k + 1) cp))
 | _ => True
def flipS (e sz : Nat) (xs : List Value) (B b15 : Nat) (cs : Value → Array Value) (A : Option Addr) (k ck : Nat) (i : Nat) (w : World) : Prop :=
 match i with
 | 1 => Blk w b15 27 (cs (.slice A k ck))
 | 12 => w.ownsRow B e sz (.slice A k ck) k xs
 | 13 => w.ownsRow B e sz (.slice A k ck) k xs
 | 15 => Blk w b15 27 (cs (.slice A k ck))
 | _ => True
section
variable {e sz B b15 b5 o k ck fl fc j bf fo i : Nat} {ys xs : List Value} {cs : Value → Array Value} {A fa : Option Addr} {V : Nat → Value} {w w' : World} {S : Nat → Prop}
theorem flip_grow (h : flipT e sz ys xs B b15 b5 o cs A k ck fa fl fc j bf fo i V w) (hb : Below w.heap.size w w') : flipT e sz ys xs B b15 b5 o cs A k ck fa fl fc j bf fo i V w' := by
 unfold flipT at h ⊢
 split at h
 case h_13 => obtain ⟨g, e1, h, r⟩ := h; exact ⟨g, e1, h.below hb h.lt, r⟩
 case h_14 => obtain ⟨g, c, e1, h⟩ := h; exact ⟨g, c, e1, own_below h hb⟩
 case h_16 => obtain ⟨g, c, e1, h⟩ := h; exact ⟨g, c, e1, h.below hb h.lt⟩
 all_goals exact h
theorem flipS_grow (h : flipS e sz xs B b15 cs A k ck i w) (hb : Below w.heap.size w w') : flipS e sz xs B b15 cs A k ck i w' := by
 unfold flipS at h ⊢
 split at h
 case h_1 => exact h.below hb h.lt
 case h_2 => exact own_below h hb
 case h_3 => exact own_below h hb
 case h_4 => exact h.below hb h.lt
 all_goals exact h
theorem flipS_zero (hz : Blk w b15 27 (cs (.slice A k ck))) (ho : w.ownsRow B e sz (.slice A k ck) k xs) (i : Nat) : flipS e sz xs B b15 cs A k ck i w := by
 unfold flipS
 split
 ·exact hz
 ·exact ho
 ·exact ho
 ·exact hz
 ·trivial
theorem flip_app (h : flipT e sz ys xs B b15 b5 o cs A k ck fa fl fc j bf fo i V w) (t : Turn (fun b => (Value.slice A k ck).ownBlock = some b) w w') (hb : ∀ b, (Value.slice A k ck).ownBlock = some b → b ≠ b15) (hi : i ≠ 13) : flipT e sz ys xs B b15 b5 o cs A k ck fa fl fc j bf fo i V w' := by
 unfold flipT at h ⊢
 split at h
 case h_13 =>
  obtain ⟨g, e1, h, h2, h3⟩ := h
  refine ⟨g, e1, h.turn t (fun e2 => ?_), h2, h3⟩
  cases A with
  | none => cases e2
  | some a => injection e2 with e2; exact h3 a rfl e2
 case h_14 => exact absurd rfl hi
 case h_16 => obtain ⟨g, c, e1, h⟩ := h; exact ⟨g, c, e1, h.turn t (fun e2 => hb _ e2 rfl)⟩
 all_goals exact h
theorem flipS_app (h : flipS e sz xs B b15 cs A k ck i w) (t : Turn (fun b => (Value.slice A k ck).ownBlock = some b) w w') (hb : ∀ b, (Value.slice A k ck).ownBlock = some b → b ≠ b15) (hi : i ≠ 13) (hi2 : i ≠ 12) : flipS e sz xs B b15 cs A k ck i w' := by
 unfold flipS at h ⊢
 split at h
 case h_1 => exact h.turn t (fun e2 => hb _ e2 rfl)
 case h_2 => exact absurd rfl hi2
 case h_3 => exact absurd rfl hi
 case h_4 => exact h.turn t (fun e2 => hb _ e2 rfl)
 all_goals exact h
theorem flip_set (h : flipT e sz ys xs B b15 b5 o cs A k ck fa fl fc j bf fo i V w) (t : Turn (fun b => b = b15) w w') (hb : b15 < B) (hi : i ≠ 15) : flipT e sz ys xs B b15 b5 o cs A k ck fa fl fc j bf fo i V w' := by
 unfold flipT at h ⊢
 split at h
 case h_13 => obtain ⟨g, e1, h, h2, h3⟩ := h; exact ⟨g, e1, h.turn t (fun e2 => by have e3 : g = b15 := e2; omega), h2, h3⟩
 case h_14 => obtain ⟨g, c, e1, h⟩ := h; exact ⟨g, c, e1, own_turn h t (fun q hq e2 => by have := (own_block h hq).1; have e3 : q = b15 := e2; omega)⟩
 case h_16 => exact absurd rfl hi
 all_goals exact h
theorem flipS_set (hi : i ≠ 15) (hi2 : ¬ (i = 1 ∨ i = 12 ∨ i = 13)) : flipS e sz xs B b15 cs A k ck i w' := by
 unfold flipS
 split
 ·exact absurd (.inl rfl) hi2
 ·exact absurd (.inr (.inl rfl)) hi2
 ·exact absurd (.inr (.inr rfl)) hi2
 ·exact absurd rfl hi
 ·trivial
end
section
variable {w0 : World} {b5 b13 b14 b15 fl fc ll lc d n llx lcx cy fcx lly lcy : Nat} {fa la fx lx fy ly : Option Addr} {r x y : IRiv}
set_option maxRecDepth 100000 in
set_option maxHeartbeats 6400000 in
theorem more10 {W : World} {fz : Option Addr} {cz : Nat} (hok : okR r = true) (hC : ML w0 W b5 b13 b14 b15 fl fc ll lc llx lcx cy fcx lly lcy fa la fx lx fy ly r x y) (hfz : Blk W b15 27 #[.int .i64 r.depth.lo, .int .i64 r.depth.hi, .int .i64 r.fall.lo, .int .i64 r.fall.hi, .int .i64 r.days, .slice fz fl cz, .slice none 0 0]) (hzr : RdG frI 4 W W.heap.size fz r.fr.reverse) (hza : Away fz b15) (hd : d ≤ r.nat.days) (hn : n ≤ 200) (sx : okR x = true → SubT x.nat r.nat) (sy : okR y = true → SubT y.nat r.nat) :
  WM3 10 w0 (.pointer (some ⟨b5, 0, none⟩)) (.int .i64 d) (.int .i64 n) (.pointer (some ⟨b13, 0, none⟩)) (.pointer (some ⟨b14, 0, none⟩)) (.pointer (some ⟨b15, 0, none⟩)) W := by
 unfold WM3
 intros
 have hfl : fl ≤ 3 := by rw [← hC.hr.inn.efl]; exact (okR_pts hok).1.2.2.2.1
 have hll : ll ≤ 5 := by rw [← hC.hr.inn.ell]; exact (okR_pts hok).1.2.2.2.2
 have HF : Hid (∀ wz A ck, Turn (fun b => b = b15 ∨ W.heap.size ≤ b) W wz → Blk wz b15 27 #[.int .i64 r.depth.lo, .int .i64 r.depth.hi, .int .i64 r.fall.lo, .int .i64 r.fall.hi, .int .i64 r.days, .slice fz fl cz, .slice A ll ck] → RdG lkI 3 wz wz.heap.size A r.lk.reverse → Away A b15 → WM3 11 w0 (.pointer (some ⟨b5, 0, none⟩)) (.int .i64 d) (.int .i64 n) (.pointer (some ⟨b13, 0, none⟩)) (.pointer (some ⟨b14, 0, none⟩)) (.pointer (some ⟨b15, 0, none⟩)) wz) := fun wz A ck t hb hr _ => more11 (fz := fz) (lz := A) (cz := cz) (cl := ck) hok ⟨(hC.turned t).bw, (hC.turned t).hr, ⟨hb, ⟨by show r.fr.reverse.length = fl; rw [List.length_reverse]; exact hC.hr.inn.efl, by show r.lk.reverse.length = ll; rw [List.length_reverse]; exact hC.hr.inn.ell, (hzr.keep fun g hg ⟨off, e⟩ => t.block g hg (fun hs => hs.elim (hza g off e) (by omega))).more t.size, hr, by omega, by omega⟩⟩, (hC.turned t).hx, (hC.turned t).hy⟩ hd hn sx sy
 have HEF : Hid (r.lk.length = ll) := hC.hr.inn.ell
 have HRDA : Hid (∀ w', Turn (fun b => b = b15 ∨ W.heap.size ≤ b) W w' → RdG lkI 3 w' W.heap.size la r.lk) := fun w' t => hC.hr.inn.hlk.awayB t hC.al
 have HN5 : Hid (¬ (b5 = b15 ∨ W.heap.size ≤ b5)) := by have := hC.n5; have := hC.hr.box.lt; show ¬ _; omega
 have HL15 : Hid (b15 < W.heap.size) := hfz.lt
 have HFZ := Lib.hid hfz
 have HC := Lib.hid hC
 obtain ⟨I, hi, hz0, hz1, hz2⟩ := info_parts infoW58
 have HI := Lib.hid hi
 have HI0 := Lib.hid hz0
 have HI1 := Lib.hid hz1
 have HI2 := Lib.hid hz2
 have HX := hC.hr.box
 have x6 := HX.cell 6
 have xl := HX.lt
 simp [boxR] at x6
 clear HX hok hC hfz hzr hza hd hn sx sy hi hz0 hz1 hz2
 conv => arg 2; whnf
 conv => arg 2; arg 2; change moreK 11
 go_wp2
 clear x6 xl
 rename ∀ a w, Code.wp Try.prog (moreK 11) _ a w → _ => hKU
 have HKU := Lib.hid hKU
 clear hKU
 go_loopw [161] (fun i wr => ∃ (k : Nat) (A : Option Addr) (ck : Nat), k ≤ ll ∧ i = .int .i64 k ∧ Hid (Turn (fun b => b = b15 ∨ W.heap.size ≤ b) W wr) ∧ Hid (Blk wr b15 27 #[.int .i64 r.depth.lo, .int .i64 r.depth.hi, .int .i64 r.fall.lo, .int .i64 r.fall.hi, .int .i64 r.days, .slice fz fl cz, .slice A k ck]) ∧ Hid (wr.ownsRow W.heap.size 58 3 (.slice A k ck) k ((r.lk.reverse.take k).flatMap lkI))) (fun i _ => ll - (intOf i).toNat)
 case atStart => exact ⟨0, none, 0, Nat.zero_le _, rfl, Turn.refl _ _, HFZ.out, own_nil _ _ _ _⟩
 case round =>
  obtain ⟨k, A, ck, hk, rfl, HT, HZR, HOR⟩ := hrel
  by_cases hlt : k < ll
  ·obtain ⟨j, hj⟩ : ∃ j, j = ll - 1 - k := ⟨_, rfl⟩
   have HJ := Lib.hid hj
   have hjl : j < ll := by omega
   obtain ⟨c, hc⟩ : ∃ c, r.lk[j]? = some c := ⟨_, List.getElem?_eq_getElem (by rw [HEF.out]; exact hjl)⟩
   have hsucc : ((r.lk.reverse.take (k + 1)).flatMap lkI) = (r.lk.reverse.take k).flatMap lkI ++ [Value.int .i64 c.day, .int .i64 c.dep.lo, .int .i64 c.dep.hi] := by
    have h1 : r.lk.reverse[k]? = some c := by rw [List.getElem?_reverse (by rw [HEF.out]; exact hlt), HEF.out, ← hj]; exact hc
    rw [List.take_add_one, h1, List.flatMap_append]
    simp [lkI]
   obtain ⟨XS, hXS⟩ : ∃ XS, XS = (r.lk.reverse.take k).flatMap lkI := ⟨_, rfl⟩
   rw [← hXS] at hsucc HOR
   have HSU := Lib.hid hsucc
   have HCJ := Lib.hid hc
   obtain ⟨bf, fo, rfl, -⟩ := rd_lkI (HRDA.out W (Turn.refl _ _)) j c hc
   have HRD := HRDA
   clear hsucc hXS hc hj
   go_upto_region 24 with (fail)
   refine HavG.wp_region_tabX (R := (TP (ι := Empty) (fun b => b = b15 ∨ W.heap.size ≤ b) (fun i _ => i.elim) (fun i => i.elim))) (fun i V w => flipT 58 3 [Value.int .i64 c.day, .int .i64 c.dep.lo, .int .i64 c.dep.hi] XS W.heap.size b15 b5 6 (fun v => #[.int .i64 r.depth.lo, .int .i64 r.depth.hi, .int .i64 r.fall.lo, .int .i64 r.fall.hi, .int .i64 r.days, .slice fz fl cz, v]) A k ck (some ⟨bf, fo, none⟩) ll lc j bf fo i V w) (fun i w => flipS 58 3 XS W.heap.size b15 (fun v => #[.int .i64 r.depth.lo, .int .i64 r.depth.hi, .int .i64 r.fall.lo, .int .i64 r.fall.hi, .int .i64 r.days, .slice fz fl cz, v]) A k ck i w) [] [some 164, some 165, some 166, some 167, some 168, some 169, some 170, some 171, some 172, some 173, some 174, some 175, some 176, some 177, some 178, none] (by kernel_rfl) (by kernel_rfl) (by rfl) (fun i _ => flipS_grow (flipS_zero HZR.out HOR.out i) (Below.drew (Below.refl _ _))) ?_ (fun i hi => by cases hi) ?_ ?_
   ·intro i hi V V' w h hV
    match i, hi, h, hV with
    | 0, _, h, hV => exact (hV _ (.inl rfl)).symm.trans h
    | 1, _, h, hV => exact (hV _ (.inl rfl)).symm.trans h
    | 2, _, h, hV => exact (hV _ (.inl rfl)).symm.trans h
    | 3, _, h, hV => exact (hV _ (.inl rfl)).symm.trans h
    | 4, _, h, hV => exact (hV _ (.inl rfl)).symm.trans h
    | 5, _, h, hV => exact (hV _ (.inl rfl)).symm.trans h
    | 6, _, h, hV => exact (hV _ (.inl rfl)).symm.trans h
    | 7, _, h, hV => exact (hV _ (.inl rfl)).symm.trans h
    | 8, _, h, hV => exact (hV _ (.inl rfl)).symm.trans h
    | 9, _, h, hV => exact (hV _ (.inl rfl)).symm.trans h
    | 10, _, h, hV => exact (hV _ (.inl rfl)).symm.trans h
    | 11, _, h, hV => exact (hV _ (.inl rfl)).symm.trans h
    | 12, _, h, hV => (obtain ⟨g, e, h⟩ := h; exact ⟨g, (hV 12 (.inl rfl)).symm.trans e, h⟩)
    | 13, _, h, hV => (obtain ⟨g, c, e, h⟩ := h; exact ⟨g, c, (hV 13 (.inl rfl)).symm.trans e, h⟩)
    | 14, _, h, hV => exact (hV _ (.inl rfl)).symm.trans h
    | 15, _, h, hV => (obtain ⟨g, c, e, h⟩ := h; exact ⟨g, c, (hV 13 (.inr (by kernel_rfl))).symm.trans e, h⟩)
    | j + 16, hj, _, _ => exact absurd hj (by simp)
   ·intro i hi oo a' w' ho hag hg hd hps
    match i, hi, ho, hd, hps with
    | 0, _, ho, hd, hps =>
     (simp only [List.getElem?_toArray, List.getElem?_cons_zero, Option.some.injEq] at ho; subst ho)
     have s15 : a'.tmps[15]?.getD undef = (.pointer (some ⟨b15, 0, none⟩)) := by rw [← Array.getD_eq_getD_getElem?]; exact hag.slot 15 (by kernel_rfl)
     have r15 : a'.tmps.getD 15 undef = (.pointer (some ⟨b15, 0, none⟩)) := hag.slot 15 (by kernel_rfl)
     refine HavG.tabX_val rfl (by simp) ⟨.pointer (some ⟨b15, 6, none⟩), w', ?_, HavG.Rel.refl _ _, fun _ _ _ _ h => h, fun _ _ _ _ h => h, fun V _ hv => hv, fun h => by simp at h⟩
     go_simp
     try rfl
    | 1, _, ho, hd, hps =>
     (simp only [List.getElem?_toArray, List.getElem?_cons_succ, List.getElem?_cons_zero, Option.some.injEq] at ho; subst ho)
     have d164 : a'.tmps.getD 164 undef = (.pointer (some ⟨b15, 6, none⟩)) := hd 0 (by kernel_rfl) (by decide)
     have c164 : a'.tmps[164]?.getD undef = (.pointer (some ⟨b15, 6, none⟩)) := by rw [← Array.getD_eq_getD_getElem?]; exact d164
     have hps' : Blk w' b15 27 #[.int .i64 r.depth.lo, .int .i64 r.depth.hi, .int .i64 r.fall.lo, .int .i64 r.fall.hi, .int .i64 r.days, .slice fz fl cz, .slice A k ck] := hps
     have z6 := hps'.cell 6
     have zl := hps'.lt
     simp at z6
     clear hps hps'
     refine HavG.tabX_val rfl (by simp) ⟨.slice A k ck, w', ?_, HavG.Rel.refl _ _, fun _ _ _ _ h => h, fun _ _ _ _ h => h, fun V _ hv => hv, fun h => by simp at h⟩
     go_simp
     try rfl
    | 2, _, ho, hd, hps =>
     (simp only [List.getElem?_toArray, List.getElem?_cons_succ, List.getElem?_cons_zero, Option.some.injEq] at ho; subst ho)
     have s5 : a'.tmps[5]?.getD undef = (.pointer (some ⟨b5, 0, none⟩)) := by rw [← Array.getD_eq_getD_getElem?]; exact hag.slot 5 (by kernel_rfl)
     have r5 : a'.tmps.getD 5 undef = (.pointer (some ⟨b5, 0, none⟩)) := hag.slot 5 (by kernel_rfl)
     refine HavG.tabX_val rfl (by simp) ⟨.pointer (some ⟨b5, 6, none⟩), w', ?_, HavG.Rel.refl _ _, fun _ _ _ _ h => h, fun _ _ _ _ h => h, fun V _ hv => hv, fun h => by simp at h⟩
     go_simp
     try rfl
    | 3, _, ho, hd, hps =>
     (simp only [List.getElem?_toArray, List.getElem?_cons_succ, List.getElem?_cons_zero, Option.some.injEq] at ho; subst ho)
     have d166 : a'.tmps.getD 166 undef = (.pointer (some ⟨b5, 6, none⟩)) := hd 2 (by kernel_rfl) (by decide)
     have c166 : a'.tmps[166]?.getD undef = (.pointer (some ⟨b5, 6, none⟩)) := by rw [← Array.getD_eq_getD_getElem?]; exact d166
     have HX := HC.out.hr.box.turn (HT.out.trans hg.1) HN5.out
     have z6 := HX.cell 6
     have zl := HX.lt
     simp [boxR] at z6
     clear HX
     refine HavG.tabX_val rfl (by simp) ⟨.slice (some ⟨bf, fo, none⟩) ll lc, w', ?_, HavG.Rel.refl _ _, fun _ _ _ _ h => h, fun _ _ _ _ h => h, fun V _ hv => hv, fun h => by simp at h⟩
     go_simp
     try rfl
    | 4, _, ho, hd, hps =>
     (simp only [List.getElem?_toArray, List.getElem?_cons_succ, List.getElem?_cons_zero, Option.some.injEq] at ho; subst ho)
     have s5 : a'.tmps[5]?.getD undef = (.pointer (some ⟨b5, 0, none⟩)) := by rw [← Array.getD_eq_getD_getElem?]; exact hag.slot 5 (by kernel_rfl)
     have r5 : a'.tmps.getD 5 undef = (.pointer (some ⟨b5, 0, none⟩)) := hag.slot 5 (by kernel_rfl)
     refine HavG.tabX_val rfl (by simp) ⟨.pointer (some ⟨b5, 6, none⟩), w', ?_, HavG.Rel.refl _ _, fun _ _ _ _ h => h, fun _ _ _ _ h => h, fun V _ hv => hv, fun h => by simp at h⟩
     go_simp
     try rfl
    | 5, _, ho, hd, hps =>
     (simp only [List.getElem?_toArray, List.getElem?_cons_succ, List.getElem?_cons_zero, Option.some.injEq] at ho; subst ho)
     have d168 : a'.tmps.getD 168 undef = (.pointer (some ⟨b5, 6, none⟩)) := hd 4 (by kernel_rfl) (by decide)
     have c168 : a'.tmps[168]?.getD undef = (.pointer (some ⟨b5, 6, none⟩)) := by rw [← Array.getD_eq_getD_getElem?]; exact d168
     have HX := HC.out.hr.box.turn (HT.out.trans hg.1) HN5.out
     have z6 := HX.cell 6
     have zl := HX.lt
     simp [boxR] at z6
     clear HX
     refine HavG.tabX_val rfl (by simp) ⟨.slice (some ⟨bf, fo, none⟩) ll lc, w', ?_, HavG.Rel.refl _ _, fun _ _ _ _ h => h, fun _ _ _ _ h => h, fun V _ hv => hv, fun h => by simp at h⟩
     go_simp
     try rfl
    | 6, _, ho, hd, hps =>
     (simp only [List.getElem?_toArray, List.getElem?_cons_succ, List.getElem?_cons_zero, Option.some.injEq] at ho; subst ho)
     have d169 : a'.tmps.getD 169 undef = (.slice (some ⟨bf, fo, none⟩) ll lc) := hd 5 (by kernel_rfl) (by decide)
     have c169 : a'.tmps[169]?.getD undef = (.slice (some ⟨bf, fo, none⟩) ll lc) := by rw [← Array.getD_eq_getD_getElem?]; exact d169
     refine HavG.tabX_val rfl (by simp) ⟨.int .i64 ll, w', ?_, HavG.Rel.refl _ _, fun _ _ _ _ h => h, fun _ _ _ _ h => h, fun V _ hv => hv, fun h => by simp at h⟩
     go_simp
     try rfl
    | 7, _, ho, hd, hps =>
     (simp only [List.getElem?_toArray, List.getElem?_cons_succ, List.getElem?_cons_zero, Option.some.injEq] at ho; subst ho)
     have d170 : a'.tmps.getD 170 undef = (.int .i64 ll) := hd 6 (by kernel_rfl) (by decide)
     have c170 : a'.tmps[170]?.getD undef = (.int .i64 ll) := by rw [← Array.getD_eq_getD_getElem?]; exact d170
     have hw7 : IntKind.i64.wrap ((ll : Int) - 1) = (ll : Int) - 1 := IntWalk.i64_in _ (by omega)
     refine HavG.tabX_val rfl (by simp) ⟨.int .i64 ((ll : Int) - 1), w', ?_, HavG.Rel.refl _ _, fun _ _ _ _ h => h, fun _ _ _ _ h => h, fun V _ hv => hv, fun h => by simp at h⟩
     go_simp
     try rfl
    | 8, _, ho, hd, hps =>
     (simp only [List.getElem?_toArray, List.getElem?_cons_succ, List.getElem?_cons_zero, Option.some.injEq] at ho; subst ho)
     have s19 : a'.tmps[19]?.getD undef = (.int .i64 k) := by rw [← Array.getD_eq_getD_getElem?]; exact hag.slot 19 (by kernel_rfl)
     have r19 : a'.tmps.getD 19 undef = (.int .i64 k) := hag.slot 19 (by kernel_rfl)
     refine HavG.tabX_val rfl (by simp) ⟨.int .i64 k, w', ?_, HavG.Rel.refl _ _, fun _ _ _ _ h => h, fun _ _ _ _ h => h, fun V _ hv => hv, fun h => by simp at h⟩
     go_simp
     try rfl
    | 9, _, ho, hd, hps =>
     (simp only [List.getElem?_toArray, List.getElem?_cons_succ, List.getElem?_cons_zero, Option.some.injEq] at ho; subst ho)
     have d171 : a'.tmps.getD 171 undef = (.int .i64 ((ll : Int) - 1)) := hd 7 (by kernel_rfl) (by decide)
     have c171 : a'.tmps[171]?.getD undef = (.int .i64 ((ll : Int) - 1)) := by rw [← Array.getD_eq_getD_getElem?]; exact d171
     have d172 : a'.tmps.getD 172 undef = (.int .i64 k) := hd 8 (by kernel_rfl) (by decide)
     have c172 : a'.tmps[172]?.getD undef = (.int .i64 k) := by rw [← Array.getD_eq_getD_getElem?]; exact d172
     have hw9 : IntKind.i64.wrap ((ll : Int) - 1 - (k : Int)) = (ll : Int) - 1 - (k : Int) := IntWalk.i64_in _ (by omega)
     have hj9 : (ll : Int) - 1 - (k : Int) = (j : Int) := by have := HJ.out; omega
     have hw9' : IntKind.i64.wrap (j : Int) = (j : Int) := IntWalk.i64_in _ (by omega)
     refine HavG.tabX_val rfl (by simp) ⟨.int .i64 j, w', ?_, HavG.Rel.refl _ _, fun _ _ _ _ h => h, fun _ _ _ _ h => h, fun V _ hv => hv, fun h => by simp at h⟩
     go_simp
     try rfl
    | 10, _, ho, hd, hps =>
     (simp only [List.getElem?_toArray, List.getElem?_cons_succ, List.getElem?_cons_zero, Option.some.injEq] at ho; subst ho)
     have d167 : a'.tmps.getD 167 undef = (.slice (some ⟨bf, fo, none⟩) ll lc) := hd 3 (by kernel_rfl) (by decide)
     have c167 : a'.tmps[167]?.getD undef = (.slice (some ⟨bf, fo, none⟩) ll lc) := by rw [← Array.getD_eq_getD_getElem?]; exact d167
     have d173 : a'.tmps.getD 173 undef = (.int .i64 j) := hd 9 (by kernel_rfl) (by decide)
     have c173 : a'.tmps[173]?.getD undef = (.int .i64 j) := by rw [← Array.getD_eq_getD_getElem?]; exact d173
     refine HavG.tabX_val rfl (by simp) ⟨.pointer (some ⟨bf, fo + j * 3, none⟩), w', ?_, HavG.Rel.refl _ _, fun _ _ _ _ h => h, fun _ _ _ _ h => h, fun V _ hv => hv, fun h => by simp at h⟩
     go_simp
     try rfl
    | 11, _, ho, hd, hps =>
     (simp only [List.getElem?_toArray, List.getElem?_cons_succ, List.getElem?_cons_zero, Option.some.injEq] at ho; subst ho)
     have d174 : a'.tmps.getD 174 undef = (.pointer (some ⟨bf, fo + j * 3, none⟩)) := hd 10 (by kernel_rfl) (by decide)
     have c174 : a'.tmps[174]?.getD undef = (.pointer (some ⟨bf, fo + j * 3, none⟩)) := by rw [← Array.getD_eq_getD_getElem?]; exact d174
     obtain ⟨bf', fo', e, hl, y0, y1, y2⟩ := rd_lkI (HRD.out w' (HT.out.trans hg.1)) j c HCJ.out
     cases e
     have hl2 : bf < w'.heap.size := Nat.lt_of_lt_of_le hl (HT.out.trans hg.1).size
     refine HavG.tabX_val rfl (by simp) ⟨.agg #[.int .i64 c.day, .int .i64 c.dep.lo, .int .i64 c.dep.hi], w', ?_, HavG.Rel.refl _ _, fun _ _ _ _ h => h, fun _ _ _ _ h => h, fun V _ hv => hv, fun h => by simp at h⟩
     go_simp
     try rfl
    | 12, _, ho, hd, hps =>
     (simp only [List.getElem?_toArray, List.getElem?_cons_succ, List.getElem?_cons_zero, Option.some.injEq] at ho; subst ho)
     have d175 : a'.tmps.getD 175 undef = (.agg #[.int .i64 c.day, .int .i64 c.dep.lo, .int .i64 c.dep.hi]) := hd 11 (by kernel_rfl) (by decide)
     have c175 : a'.tmps[175]?.getD undef = (.agg #[.int .i64 c.day, .int .i64 c.dep.lo, .int .i64 c.dep.hi]) := by rw [← Array.getD_eq_getD_getElem?]; exact d175
     have HB : Below w'.heap.size w' (w'.alloc (.cells #[.int .i64 c.day, .int .i64 c.dep.lo, .int .i64 c.dep.hi] 58)) := (Below.refl _ _).alloc (Nat.le_refl _) _
     have hfar : ∀ a, A = some a → a.block ≠ w'.heap.size := fun a ha => by have := own_addr (show w'.ownsRow W.heap.size 58 3 (.slice A k ck) k _ from hps) ha; omega
     clear hps
     refine HavG.tabX_val rfl (by simp) ⟨.slice (some ⟨w'.heap.size, 0, none⟩) 1 1, w'.alloc (.cells #[.int .i64 c.day, .int .i64 c.dep.lo, .int .i64 c.dep.hi] 58), ?_, ⟨Turn.of_below HB, fun i => i.elim⟩, fun j V _ _ h => flip_grow h HB, fun j _ _ _ h => flipS_grow h HB, fun V _ hv => ⟨w'.heap.size, hv, Blk.new w' 58 _, (HT.out.trans hg.1).size, hfar⟩, fun h => by simp at h⟩
     clear hfar
     go_simp
     try rfl
    | 13, _, ho, hd, hps =>
     (simp only [List.getElem?_toArray, List.getElem?_cons_succ, List.getElem?_cons_zero, Option.some.injEq] at ho; subst ho)
     have e3 : HavG.slot a' 165 = .slice A k ck := hd 1 (by kernel_rfl) (by decide)
     obtain ⟨g, e5, hk5, hgB, hgA⟩ : ∃ g, HavG.slot a' 176 = .slice (some ⟨g, 0, none⟩) 1 1 ∧ Blk w' g 58 [Value.int .i64 c.day, .int .i64 c.dep.lo, .int .i64 c.dep.hi].toArray ∧ W.heap.size ≤ g ∧ ∀ a, A = some a → a.block ≠ g := hd 12 (by kernel_rfl) (by decide)
     have h3 : w'.ownsRow W.heap.size 58 3 (.slice A k ck) k XS := hps
     obtain ⟨g2, cp, w2, hrun, hown, ht, -⟩ := append_at (P := Try.prog) W.heap.size 25 25 58 I _ 3 24 Try.underlying25 HI.out HI0.out HI1.out HI2.out rfl (by decide) _ k _ h3 ⟨g, 0, none⟩ 1 [Value.int .i64 c.day, .int .i64 c.dep.lo, .int .i64 c.dep.hi] rfl (news_block hk5) (by simp [Value.oneCell']) (by omega) (by omega) (HT.out.trans hg.1).size
     have hge : ∀ b, (Value.slice A k ck).ownBlock = some b → W.heap.size ≤ b := fun b e => (own_block h3 e).1
     exact HavG.tabX_val rfl (by simp) ⟨_, w2, append_oper rfl e3 e5 hrun, ⟨ht.mono (fun b e => .inr (hge b e)), fun i => i.elim⟩, fun j V _ hji h => flip_app h ht (fun b e => by have := hge b e; have := HL15.out; omega) hji, fun j _ hji hbf h => flipS_app h ht (fun b e => by have := hge b e; have := HL15.out; omega) hji (fun e => by subst e; exact Bool.false_ne_true (hbf.symm.trans (by kernel_rfl))), fun V _ hv => ⟨_, _, hv, hown⟩, fun h => by simp at h⟩
    | 14, _, ho, hd, hps =>
     (simp only [List.getElem?_toArray, List.getElem?_cons_succ, List.getElem?_cons_zero, Option.some.injEq] at ho; subst ho)
     have s15 : a'.tmps[15]?.getD undef = (.pointer (some ⟨b15, 0, none⟩)) := by rw [← Array.getD_eq_getD_getElem?]; exact hag.slot 15 (by kernel_rfl)
     have r15 : a'.tmps.getD 15 undef = (.pointer (some ⟨b15, 0, none⟩)) := hag.slot 15 (by kernel_rfl)
     refine HavG.tabX_val rfl (by simp) ⟨.pointer (some ⟨b15, 6, none⟩), w', ?_, HavG.Rel.refl _ _, fun _ _ _ _ h => h, fun _ _ _ _ h => h, fun V _ hv => hv, fun h => by simp at h⟩
     go_simp
     try rfl
    | 15, _, ho, hd, hps =>
     (simp only [List.getElem?_toArray, List.getElem?_cons_succ, List.getElem?_cons_zero, Option.some.injEq] at ho; subst ho)
     have d178 : a'.tmps.getD 178 undef = (.pointer (some ⟨b15, 6, none⟩)) := hd 14 (by kernel_rfl) (by decide)
     have c178 : a'.tmps[178]?.getD undef = (.pointer (some ⟨b15, 6, none⟩)) := by rw [← Array.getD_eq_getD_getElem?]; exact d178
     obtain ⟨g2, cp, e6, ho⟩ : ∃ g cp, HavG.slot a' 177 = .slice (some ⟨g, 0, none⟩) (k + 1) cp ∧ w'.ownsRow W.heap.size 58 3 (.slice (some ⟨g, 0, none⟩) (k + 1) cp) (k + 1) (XS ++ [Value.int .i64 c.day, .int .i64 c.dep.lo, .int .i64 c.dep.hi]) := hd 13 (by kernel_rfl) (by decide)
     have d177 : a'.tmps.getD 177 undef = .slice (some ⟨g2, 0, none⟩) (k + 1) cp := e6
     have c177 : a'.tmps[177]?.getD undef = .slice (some ⟨g2, 0, none⟩) (k + 1) cp := by rw [← Array.getD_eq_getD_getElem?]; exact d177
     have hps' : Blk w' b15 27 #[.int .i64 r.depth.lo, .int .i64 r.depth.hi, .int .i64 r.fall.lo, .int .i64 r.fall.hi, .int .i64 r.days, .slice fz fl cz, .slice A k ck] := hps
     have z6 := hps'.cell 6
     have z9 := hps'.frozen 6
     have zl := hps'.lt
     simp at z6
     have hset : Turn (fun b => b = b15) w' (w'.setCell ⟨b15, 6, none⟩ (.slice (some ⟨g2, 0, none⟩) (k + 1) cp)) := Turn.set _ _ (fun _ => rfl)
     have hnew : Blk (w'.setCell ⟨b15, 6, none⟩ (.slice (some ⟨g2, 0, none⟩) (k + 1) cp)) b15 27 #[.int .i64 r.depth.lo, .int .i64 r.depth.hi, .int .i64 r.fall.lo, .int .i64 r.fall.hi, .int .i64 r.days, .slice fz fl cz, .slice (some ⟨g2, 0, none⟩) (k + 1) cp] := by have h := hps'.set_ 6 (.slice (some ⟨g2, 0, none⟩) (k + 1) cp); simpa using h
     refine HavG.tabX_store rfl rfl (by simp) ⟨w'.setCell ⟨b15, 6, none⟩ (.slice (some ⟨g2, 0, none⟩) (k + 1) cp), ?_, ⟨hset.mono (fun b e => .inl e), fun i => i.elim⟩, fun j V _ hji h => flip_set h hset HL15.out hji, fun j _ hji hbf h => flipS_set hji (fun e => by rcases e with rfl | rfl | rfl <;> exact Bool.false_ne_true (hbf.symm.trans (by kernel_rfl))), fun V hv => ⟨g2, cp, (hv 13 (by decide)).trans e6, hnew⟩⟩
     clear hnew hset hps hps' e6 ho
     go_simp
     try rfl
    | j + 16, hj, _, _, _ => exact absurd hj (by simp)
   intro f w2 hg hf _
   have q0 : f 164 = _ := hf 0 (by decide)
   have q1 : f 165 = _ := hf 1 (by decide)
   have q2 : f 166 = _ := hf 2 (by decide)
   have q3 : f 167 = _ := hf 3 (by decide)
   have q4 : f 168 = _ := hf 4 (by decide)
   have q5 : f 169 = _ := hf 5 (by decide)
   have q6 : f 170 = _ := hf 6 (by decide)
   have q7 : f 171 = _ := hf 7 (by decide)
   have q8 : f 172 = _ := hf 8 (by decide)
   have q9 : f 173 = _ := hf 9 (by decide)
   have q10 : f 174 = _ := hf 10 (by decide)
   have q11 : f 175 = _ := hf 11 (by decide)
   obtain ⟨g12, q12, -⟩ : ∃ g, f 176 = .slice (some ⟨g, 0, none⟩) 1 1 ∧ _ := hf 12 (by decide)
   obtain ⟨g2, cp, q13, ho⟩ : ∃ g cp, f 177 = .slice (some ⟨g, 0, none⟩) (k + 1) cp ∧ w2.ownsRow W.heap.size 58 3 (.slice (some ⟨g, 0, none⟩) (k + 1) cp) (k + 1) (XS ++ [Value.int .i64 c.day, .int .i64 c.dep.lo, .int .i64 c.dep.hi]) := hf 13 (by decide)
   have q14 : f 178 = _ := hf 14 (by decide)
   obtain ⟨g9, c9, k9, hb2⟩ : ∃ g cp, f 177 = .slice (some ⟨g, 0, none⟩) (k + 1) cp ∧ Blk w2 b15 27 #[.int .i64 r.depth.lo, .int .i64 r.depth.hi, .int .i64 r.fall.lo, .int .i64 r.fall.hi, .int .i64 r.days, .slice fz fl cz, .slice (some ⟨g, 0, none⟩) (k + 1) cp] := hf 15 (by decide)
   obtain ⟨rfl, rfl⟩ : g2 = g9 ∧ cp = c9 := by rw [q13] at k9; injection k9 with a1 a2 a3; injection a1 with a1; injection a1 with a1; exact ⟨a1, a3⟩
   rw [← HSU.out] at ho
   have HT2 : Hid (Turn (fun b => b = b15 ∨ W.heap.size ≤ b) W w2) := HT.out.trans hg.1
   have HB2 := Lib.hid hb2
   have HO2 := Lib.hid ho
   simp only [List.filterMap, HavG.puts, List.foldl_cons, List.foldl_nil, Act.put, List.setIfInBounds_toArray, List.set_cons_succ, List.set_cons_zero]
   rw [q0, q1, q2, q3, q4, q5, q6, q7, q8, q9, q10, q11, q12, q13, q14]
   clear hf hg k9 hb2 ho q0 q1 q2 q3 q4 q5 q6 q7 q8 q9 q10 q11 q12 q13 q14
   go_wp2
   go_roundw
   case rel => exact ⟨k + 1, _, _, by omega, by go_num, HT2, HB2, HO2⟩
   case measure => simp [intOf]; omega
  ·obtain rfl : ll = k := by omega
   have HRW : Hid (RdG lkI 3 wr wr.heap.size A r.lk.reverse ∧ Away A b15) := by
    have h := HOR.out
    have ht : r.lk.reverse.take ll = r.lk.reverse := List.take_of_length_le (by rw [List.length_reverse, HEF.out]; exact Nat.le_refl _)
    rw [ht] at h
    refine ⟨?_, fun b off e => ?_⟩
    ·have hl : ll = r.lk.reverse.length := by rw [List.length_reverse, HEF.out]
     have h' : wr.ownsRow W.heap.size 58 3 (.slice A ll ck) r.lk.reverse.length (r.lk.reverse.flatMap lkI) := by rw [← hl]; exact h
     obtain ⟨A', cq, he, hrd, -⟩ := own_rd lkI_len (by decide) h'
     injection he with e1 e2 e3
     rw [e1]
     exact hrd
    ·have := own_addr2 h e
     have := HL15.out
     show b ≠ b15
     omega
   go_wp2
   exact HKU.out _ _ (HF.out wr A ck HT.out HZR.out HRW.out.1 HRW.out.2 _ _ _ _ _ _ _ _ _ _ _ _ _ _ _ _ _ _ _ _ _ _ _ _ _ _ _ _ _ _ _ _ _ _ _ _ _ _ _ _ _ _ _ _ _ _ _ _ _ _ _ _ _ _ _ _ _ _ _ _ _ _ _ _ _ _ _ _ _ _ _ _ _ _ _ _ _ _ _ _ _ _ _ _ _ _ _ _ _ _ _ _ _ _ _ _ _ _ _ _ _ _ _ _ _ _ _ _ _ _ _ _ _ _ _ _ _ _ _ _ _ _ _ _ _ _ _ _ _ _ _ _ _ _ _ _ _ _ _ _ _ _ _ _ _ _ _ _ _ _ _ _ _ _ _ _ _ _ _ _ _ _ _ _ _ _ _ _ _ _ _ _ _ _ _ _ _ _ _ _ _ _ _ _ _ _ _ _ _ _ _ _ _ _ _ _ _ _ _ _ _ _ _ _ _ _ _ _ _ _ _ _ _ _ _ _ _ _ _ _ _ _ _ _ _ _ _ _ _ _ _ _ _ _ _ _ _ _ _ _ _ _ _ _ _ _ _ _ _ _ _ _ _ _ _ _ _ _ _ _ _ _ _ _ _ _ _ _ _ _ _ _ _ _ _ _ _ _ _ _ _ _ _ _ _ _ _ _ _ _ _ _ _ _ _ _ _ _ _ _ _ _ _ _ _ _ _ _ _ _ _ _ _ _ _ _ _ _ _ _ _ _ _ _ _ _ _ _ _ _ _ _ _ _ _ _ _ _ _ _ _ _ _ _ _ _ _ _ _ _ _ _ _ _ _ _ _ _ _ _ _ _ _ _ _ _ _ _ _ _ _ _ _ _ _ _ _ _ _ _ _ _ _ _ _ _ _ _ _ _ _ _ _ _ _ _ _ _ _ _ _ _ _ _ _ _ _ _ _)
set_option maxRecDepth 100000 in
set_option maxHeartbeats 6400000 in
theorem more9 {W : World} (hok : okR r = true) (hC : ML w0 W b5 b13 b14 b15 fl fc ll lc llx lcx cy fcx lly lcy fa la fx lx fy ly r x y) (hfz : Blk W b15 27 #[.int .i64 r.depth.lo, .int .i64 r.depth.hi, .int .i64 r.fall.lo, .int .i64 r.fall.hi, .int .i64 r.days, .slice none 0 0, .slice none 0 0]) (hd : d ≤ r.nat.days) (hn : n ≤ 200) (sx : okR x = true → SubT x.nat r.nat) (sy : okR y = true → SubT y.nat r.nat) :
  WM3 9 w0 (.pointer (some ⟨b5, 0, none⟩)) (.int .i64 d) (.int .i64 n) (.pointer (some ⟨b13, 0, none⟩)) (.pointer (some ⟨b14, 0, none⟩)) (.pointer (some ⟨b15, 0, none⟩)) W := by
 unfold WM3
 intros
 have hfl : fl ≤ 3 := by rw [← hC.hr.inn.efl]; exact (okR_pts hok).1.2.2.2.1
 have hll : ll ≤ 5 := by rw [← hC.hr.inn.ell]; exact (okR_pts hok).1.2.2.2.2
 have HF : Hid (∀ wz A ck, Turn (fun b => b = b15 ∨ W.heap.size ≤ b) W wz → Blk wz b15 27 #[.int .i64 r.depth.lo, .int .i64 r.depth.hi, .int .i64 r.fall.lo, .int .i64 r.fall.hi, .int .i64 r.days, .slice A fl ck, .slice none 0 0] → RdG frI 4 wz wz.heap.size A r.fr.reverse → Away A b15 → WM3 10 w0 (.pointer (some ⟨b5, 0, none⟩)) (.int .i64 d) (.int .i64 n) (.pointer (some ⟨b13, 0, none⟩)) (.pointer (some ⟨b14, 0, none⟩)) (.pointer (some ⟨b15, 0, none⟩)) wz) := fun wz A ck t hb hr ha => more10 hok (hC.turned t) (hfz := hb) (hzr := hr) (hza := ha) hd hn sx sy
 have HEF : Hid (r.fr.length = fl) := hC.hr.inn.efl
 have HRDA : Hid (∀ w', Turn (fun b => b = b15 ∨ W.heap.size ≤ b) W w' → RdG frI 4 w' W.heap.size fa r.fr) := fun w' t => hC.hr.inn.hfr.awayB t hC.af
 have HN5 : Hid (¬ (b5 = b15 ∨ W.heap.size ≤ b5)) := by have := hC.n5; have := hC.hr.box.lt; show ¬ _; omega
 have HL15 : Hid (b15 < W.heap.size) := hfz.lt
 have HFZ := Lib.hid hfz
 have HC := Lib.hid hC
 obtain ⟨I, hi, hz0, hz1, hz2⟩ := info_parts infoM55
 have HI := Lib.hid hi
 have HI0 := Lib.hid hz0
 have HI1 := Lib.hid hz1
 have HI2 := Lib.hid hz2
 have HX := hC.hr.box
 have x5 := HX.cell 5
 have xl := HX.lt
 simp [boxR] at x5
 clear HX hok hC hfz hd hn sx sy hi hz0 hz1 hz2
 conv => arg 2; whnf
 conv => arg 2; arg 2; change moreK 10
 go_wp2
 clear x5 xl
 rename ∀ a w, Code.wp Try.prog (moreK 10) _ a w → _ => hKU
 have HKU := Lib.hid hKU
 clear hKU
 go_loopw [139] (fun i wr => ∃ (k : Nat) (A : Option Addr) (ck : Nat), k ≤ fl ∧ i = .int .i64 k ∧ Hid (Turn (fun b => b = b15 ∨ W.heap.size ≤ b) W wr) ∧ Hid (Blk wr b15 27 #[.int .i64 r.depth.lo, .int .i64 r.depth.hi, .int .i64 r.fall.lo, .int .i64 r.fall.hi, .int .i64 r.days, .slice A k ck, .slice none 0 0]) ∧ Hid (wr.ownsRow W.heap.size 55 4 (.slice A k ck) k ((r.fr.reverse.take k).flatMap frI))) (fun i _ => fl - (intOf i).toNat)
 case atStart => exact ⟨0, none, 0, Nat.zero_le _, rfl, Turn.refl _ _, HFZ.out, own_nil _ _ _ _⟩
 case round =>
  obtain ⟨k, A, ck, hk, rfl, HT, HZR, HOR⟩ := hrel
  by_cases hlt : k < fl
  ·obtain ⟨j, hj⟩ : ∃ j, j = fl - 1 - k := ⟨_, rfl⟩
   have HJ := Lib.hid hj
   have hjl : j < fl := by omega
   obtain ⟨c, hc⟩ : ∃ c, r.fr[j]? = some c := ⟨_, List.getElem?_eq_getElem (by rw [HEF.out]; exact hjl)⟩
   have hsucc : ((r.fr.reverse.take (k + 1)).flatMap frI) = (r.fr.reverse.take k).flatMap frI ++ [Value.int .i64 c.days.lo, .int .i64 c.days.hi, .int .i64 c.rise.lo, .int .i64 c.rise.hi] := by
    have h1 : r.fr.reverse[k]? = some c := by rw [List.getElem?_reverse (by rw [HEF.out]; exact hlt), HEF.out, ← hj]; exact hc
    rw [List.take_add_one, h1, List.flatMap_append]
    simp [frI]
   obtain ⟨XS, hXS⟩ : ∃ XS, XS = (r.fr.reverse.take k).flatMap frI := ⟨_, rfl⟩
   rw [← hXS] at hsucc HOR
   have HSU := Lib.hid hsucc
   have HCJ := Lib.hid hc
   obtain ⟨bf, fo, rfl, -⟩ := rd_frI (HRDA.out W (Turn.refl _ _)) j c hc
   have HRD := HRDA
   clear hsucc hXS hc hj
   go_upto_region 19 with (fail)
   refine HavG.wp_region_tabX (R := (TP (ι := Empty) (fun b => b = b15 ∨ W.heap.size ≤ b) (fun i _ => i.elim) (fun i => i.elim))) (fun i V w => flipT 55 4 [Value.int .i64 c.days.lo, .int .i64 c.days.hi, .int .i64 c.rise.lo, .int .i64 c.rise.hi] XS W.heap.size b15 b5 5 (fun v => #[.int .i64 r.depth.lo, .int .i64 r.depth.hi, .int .i64 r.fall.lo, .int .i64 r.fall.hi, .int .i64 r.days, v, .slice none 0 0]) A k ck (some ⟨bf, fo, none⟩) fl fc j bf fo i V w) (fun i w => flipS 55 4 XS W.heap.size b15 (fun v => #[.int .i64 r.depth.lo, .int .i64 r.depth.hi, .int .i64 r.fall.lo, .int .i64 r.fall.hi, .int .i64 r.days, v, .slice none 0 0]) A k ck i w) [] [some 142, some 143, some 144, some 145, some 146, some 147, some 148, some 149, some 150, some 151, some 152, some 153, some 154, some 155, some 156, none] (by kernel_rfl) (by kernel_rfl) (by rfl) (fun i _ => flipS_grow (flipS_zero HZR.out HOR.out i) (Below.drew (Below.refl _ _))) ?_ (fun i hi => by cases hi) ?_ ?_
   ·intro i hi V V' w h hV
    match i, hi, h, hV with
    | 0, _, h, hV => exact (hV _ (.inl rfl)).symm.trans h
    | 1, _, h, hV => exact (hV _ (.inl rfl)).symm.trans h
    | 2, _, h, hV => exact (hV _ (.inl rfl)).symm.trans h
    | 3, _, h, hV => exact (hV _ (.inl rfl)).symm.trans h
    | 4, _, h, hV => exact (hV _ (.inl rfl)).symm.trans h
    | 5, _, h, hV => exact (hV _ (.inl rfl)).symm.trans h
    | 6, _, h, hV => exact (hV _ (.inl rfl)).symm.trans h
    | 7, _, h, hV => exact (hV _ (.inl rfl)).symm.trans h
    | 8, _, h, hV => exact (hV _ (.inl rfl)).symm.trans h
    | 9, _, h, hV => exact (hV _ (.inl rfl)).symm.trans h
    | 10, _, h, hV => exact (hV _ (.inl rfl)).symm.trans h
    | 11, _, h, hV => exact (hV _ (.inl rfl)).symm.trans h
    | 12, _, h, hV => (obtain ⟨g, e, h⟩ := h; exact ⟨g, (hV 12 (.inl rfl)).symm.trans e, h⟩)
    | 13, _, h, hV => (obtain ⟨g, c, e, h⟩ := h; exact ⟨g, c, (hV 13 (.inl rfl)).symm.trans e, h⟩)
    | 14, _, h, hV => exact (hV _ (.inl rfl)).symm.trans h
    | 15, _, h, hV => (obtain ⟨g, c, e, h⟩ := h; exact ⟨g, c, (hV 13 (.inr (by kernel_rfl))).symm.trans e, h⟩)
    | j + 16, hj, _, _ => exact absurd hj (by simp)
   ·intro i hi oo a' w' ho hag hg hd hps
    match i, hi, ho, hd, hps with
    | 0, _, ho, hd, hps =>
     (simp only [List.getElem?_toArray, List.getElem?_cons_zero, Option.some.injEq] at ho; subst ho)
     have s15 : a'.tmps[15]?.getD undef = (.pointer (some ⟨b15, 0, none⟩)) := by rw [← Array.getD_eq_getD_getElem?]; exact hag.slot 15 (by kernel_rfl)
     have r15 : a'.tmps.getD 15 undef = (.pointer (some ⟨b15, 0, none⟩)) := hag.slot 15 (by kernel_rfl)
     refine HavG.tabX_val rfl (by simp) ⟨.pointer (some ⟨b15, 5, none⟩), w', ?_, HavG.Rel.refl _ _, fun _ _ _ _ h => h, fun _ _ _ _ h => h, fun V _ hv => hv, fun h => by simp at h⟩
     go_simp
     try rfl
    | 1, _, ho, hd, hps =>
     (simp only [List.getElem?_toArray, List.getElem?_cons_succ, List.getElem?_cons_zero, Option.some.injEq] at ho; subst ho)
     have d142 : a'.tmps.getD 142 undef = (.pointer (some ⟨b15, 5, none⟩)) := hd 0 (by kernel_rfl) (by decide)
     have c142 : a'.tmps[142]?.getD undef = (.pointer (some ⟨b15, 5, none⟩)) := by rw [← Array.getD_eq_getD_getElem?]; exact d142
     have hps' : Blk w' b15 27 #[.int .i64 r.depth.lo, .int .i64 r.depth.hi, .int .i64 r.fall.lo, .int .i64 r.fall.hi, .int .i64 r.days, .slice A k ck, .slice none 0 0] := hps
     have z5 := hps'.cell 5
     have zl := hps'.lt
     simp at z5
     clear hps hps'
     refine HavG.tabX_val rfl (by simp) ⟨.slice A k ck, w', ?_, HavG.Rel.refl _ _, fun _ _ _ _ h => h, fun _ _ _ _ h => h, fun V _ hv => hv, fun h => by simp at h⟩
     go_simp
     try rfl
    | 2, _, ho, hd, hps =>
     (simp only [List.getElem?_toArray, List.getElem?_cons_succ, List.getElem?_cons_zero, Option.some.injEq] at ho; subst ho)
     have s5 : a'.tmps[5]?.getD undef = (.pointer (some ⟨b5, 0, none⟩)) := by rw [← Array.getD_eq_getD_getElem?]; exact hag.slot 5 (by kernel_rfl)
     have r5 : a'.tmps.getD 5 undef = (.pointer (some ⟨b5, 0, none⟩)) := hag.slot 5 (by kernel_rfl)
     refine HavG.tabX_val rfl (by simp) ⟨.pointer (some ⟨b5, 5, none⟩), w', ?_, HavG.Rel.refl _ _, fun _ _ _ _ h => h, fun _ _ _ _ h => h, fun V _ hv => hv, fun h => by simp at h⟩
     go_simp
     try rfl
    | 3, _, ho, hd, hps =>
     (simp only [List.getElem?_toArray, List.getElem?_cons_succ, List.getElem?_cons_zero, Option.some.injEq] at ho; subst ho)
     have d144 : a'.tmps.getD 144 undef = (.pointer (some ⟨b5, 5, none⟩)) := hd 2 (by kernel_rfl) (by decide)
     have c144 : a'.tmps[144]?.getD undef = (.pointer (some ⟨b5, 5, none⟩)) := by rw [← Array.getD_eq_getD_getElem?]; exact d144
     have HX := HC.out.hr.box.turn (HT.out.trans hg.1) HN5.out
     have z5 := HX.cell 5
     have zl := HX.lt
     simp [boxR] at z5
     clear HX
     refine HavG.tabX_val rfl (by simp) ⟨.slice (some ⟨bf, fo, none⟩) fl fc, w', ?_, HavG.Rel.refl _ _, fun _ _ _ _ h => h, fun _ _ _ _ h => h, fun V _ hv => hv, fun h => by simp at h⟩
     go_simp
     try rfl
    | 4, _, ho, hd, hps =>
     (simp only [List.getElem?_toArray, List.getElem?_cons_succ, List.getElem?_cons_zero, Option.some.injEq] at ho; subst ho)
     have s5 : a'.tmps[5]?.getD undef = (.pointer (some ⟨b5, 0, none⟩)) := by rw [← Array.getD_eq_getD_getElem?]; exact hag.slot 5 (by kernel_rfl)
     have r5 : a'.tmps.getD 5 undef = (.pointer (some ⟨b5, 0, none⟩)) := hag.slot 5 (by kernel_rfl)
     refine HavG.tabX_val rfl (by simp) ⟨.pointer (some ⟨b5, 5, none⟩), w', ?_, HavG.Rel.refl _ _, fun _ _ _ _ h => h, fun _ _ _ _ h => h, fun V _ hv => hv, fun h => by simp at h⟩
     go_simp
     try rfl
    | 5, _, ho, hd, hps =>
     (simp only [List.getElem?_toArray, List.getElem?_cons_succ, List.getElem?_cons_zero, Option.some.injEq] at ho; subst ho)
     have d146 : a'.tmps.getD 146 undef = (.pointer (some ⟨b5, 5, none⟩)) := hd 4 (by kernel_rfl) (by decide)
     have c146 : a'.tmps[146]?.getD undef = (.pointer (some ⟨b5, 5, none⟩)) := by rw [← Array.getD_eq_getD_getElem?]; exact d146
     have HX := HC.out.hr.box.turn (HT.out.trans hg.1) HN5.out
     have z5 := HX.cell 5
     have zl := HX.lt
     simp [boxR] at z5
     clear HX
     refine HavG.tabX_val rfl (by simp) ⟨.slice (some ⟨bf, fo, none⟩) fl fc, w', ?_, HavG.Rel.refl _ _, fun _ _ _ _ h => h, fun _ _ _ _ h => h, fun V _ hv => hv, fun h => by simp at h⟩
     go_simp
     try rfl
    | 6, _, ho, hd, hps =>
     (simp only [List.getElem?_toArray, List.getElem?_cons_succ, List.getElem?_cons_zero, Option.some.injEq] at ho; subst ho)
     have d147 : a'.tmps.getD 147 undef = (.slice (some ⟨bf, fo, none⟩) fl fc) := hd 5 (by kernel_rfl) (by decide)
     have c147 : a'.tmps[147]?.getD undef = (.slice (some ⟨bf, fo, none⟩) fl fc) := by rw [← Array.getD_eq_getD_getElem?]; exact d147
     refine HavG.tabX_val rfl (by simp) ⟨.int .i64 fl, w', ?_, HavG.Rel.refl _ _, fun _ _ _ _ h => h, fun _ _ _ _ h => h, fun V _ hv => hv, fun h => by simp at h⟩
     go_simp
     try rfl
    | 7, _, ho, hd, hps =>
     (simp only [List.getElem?_toArray, List.getElem?_cons_succ, List.getElem?_cons_zero, Option.some.injEq] at ho; subst ho)
     have d148 : a'.tmps.getD 148 undef = (.int .i64 fl) := hd 6 (by kernel_rfl) (by decide)
     have c148 : a'.tmps[148]?.getD undef = (.int .i64 fl) := by rw [← Array.getD_eq_getD_getElem?]; exact d148
     have hw7 : IntKind.i64.wrap ((fl : Int) - 1) = (fl : Int) - 1 := IntWalk.i64_in _ (by omega)
     refine HavG.tabX_val rfl (by simp) ⟨.int .i64 ((fl : Int) - 1), w', ?_, HavG.Rel.refl _ _, fun _ _ _ _ h => h, fun _ _ _ _ h => h, fun V _ hv => hv, fun h => by simp at h⟩
     go_simp
     try rfl
    | 8, _, ho, hd, hps =>
     (simp only [List.getElem?_toArray, List.getElem?_cons_succ, List.getElem?_cons_zero, Option.some.injEq] at ho; subst ho)
     have s18 : a'.tmps[18]?.getD undef = (.int .i64 k) := by rw [← Array.getD_eq_getD_getElem?]; exact hag.slot 18 (by kernel_rfl)
     have r18 : a'.tmps.getD 18 undef = (.int .i64 k) := hag.slot 18 (by kernel_rfl)
     refine HavG.tabX_val rfl (by simp) ⟨.int .i64 k, w', ?_, HavG.Rel.refl _ _, fun _ _ _ _ h => h, fun _ _ _ _ h => h, fun V _ hv => hv, fun h => by simp at h⟩
     go_simp
     try rfl
    | 9, _, ho, hd, hps =>
     (simp only [List.getElem?_toArray, List.getElem?_cons_succ, List.getElem?_cons_zero, Option.some.injEq] at ho; subst ho)
     have d149 : a'.tmps.getD 149 undef = (.int .i64 ((fl : Int) - 1)) := hd 7 (by kernel_rfl) (by decide)
     have c149 : a'.tmps[149]?.getD undef = (.int .i64 ((fl : Int) - 1)) := by rw [← Array.getD_eq_getD_getElem?]; exact d149
     have d150 : a'.tmps.getD 150 undef = (.int .i64 k) := hd 8 (by kernel_rfl) (by decide)
     have c150 : a'.tmps[150]?.getD undef = (.int .i64 k) := by rw [← Array.getD_eq_getD_getElem?]; exact d150
     have hw9 : IntKind.i64.wrap ((fl : Int) - 1 - (k : Int)) = (fl : Int) - 1 - (k : Int) := IntWalk.i64_in _ (by omega)
     have hj9 : (fl : Int) - 1 - (k : Int) = (j : Int) := by have := HJ.out; omega
     have hw9' : IntKind.i64.wrap (j : Int) = (j : Int) := IntWalk.i64_in _ (by omega)
     refine HavG.tabX_val rfl (by simp) ⟨.int .i64 j, w', ?_, HavG.Rel.refl _ _, fun _ _ _ _ h => h, fun _ _ _ _ h => h, fun V _ hv => hv, fun h => by simp at h⟩
     go_simp
     try rfl
    | 10, _, ho, hd, hps =>
     (simp only [List.getElem?_toArray, List.getElem?_cons_succ, List.getElem?_cons_zero, Option.some.injEq] at ho; subst ho)
     have d145 : a'.tmps.getD 145 undef = (.slice (some ⟨bf, fo, none⟩) fl fc) := hd 3 (by kernel_rfl) (by decide)
     have c145 : a'.tmps[145]?.getD undef = (.slice (some ⟨bf, fo, none⟩) fl fc) := by rw [← Array.getD_eq_getD_getElem?]; exact d145
     have d151 : a'.tmps.getD 151 undef = (.int .i64 j) := hd 9 (by kernel_rfl) (by decide)
     have c151 : a'.tmps[151]?.getD undef = (.int .i64 j) := by rw [← Array.getD_eq_getD_getElem?]; exact d151
     refine HavG.tabX_val rfl (by simp) ⟨.pointer (some ⟨bf, fo + j * 4, none⟩), w', ?_, HavG.Rel.refl _ _, fun _ _ _ _ h => h, fun _ _ _ _ h => h, fun V _ hv => hv, fun h => by simp at h⟩
     go_simp
     try rfl
    | 11, _, ho, hd, hps =>
     (simp only [List.getElem?_toArray, List.getElem?_cons_succ, List.getElem?_cons_zero, Option.some.injEq] at ho; subst ho)
     have d152 : a'.tmps.getD 152 undef = (.pointer (some ⟨bf, fo + j * 4, none⟩)) := hd 10 (by kernel_rfl) (by decide)
     have c152 : a'.tmps[152]?.getD undef = (.pointer (some ⟨bf, fo + j * 4, none⟩)) := by rw [← Array.getD_eq_getD_getElem?]; exact d152
     obtain ⟨bf', fo', e, hl, y0, y1, y2, y3⟩ := rd_frI (HRD.out w' (HT.out.trans hg.1)) j c HCJ.out
     cases e
     have hl2 : bf < w'.heap.size := Nat.lt_of_lt_of_le hl (HT.out.trans hg.1).size
     refine HavG.tabX_val rfl (by simp) ⟨.agg #[.int .i64 c.days.lo, .int .i64 c.days.hi, .int .i64 c.rise.lo, .int .i64 c.rise.hi], w', ?_, HavG.Rel.refl _ _, fun _ _ _ _ h => h, fun _ _ _ _ h => h, fun V _ hv => hv, fun h => by simp at h⟩
     go_simp
     try rfl
    | 12, _, ho, hd, hps =>
     (simp only [List.getElem?_toArray, List.getElem?_cons_succ, List.getElem?_cons_zero, Option.some.injEq] at ho; subst ho)
     have d153 : a'.tmps.getD 153 undef = (.agg #[.int .i64 c.days.lo, .int .i64 c.days.hi, .int .i64 c.rise.lo, .int .i64 c.rise.hi]) := hd 11 (by kernel_rfl) (by decide)
     have c153 : a'.tmps[153]?.getD undef = (.agg #[.int .i64 c.days.lo, .int .i64 c.days.hi, .int .i64 c.rise.lo, .int .i64 c.rise.hi]) := by rw [← Array.getD_eq_getD_getElem?]; exact d153
     have HB : Below w'.heap.size w' (w'.alloc (.cells #[.int .i64 c.days.lo, .int .i64 c.days.hi, .int .i64 c.rise.lo, .int .i64 c.rise.hi] 55)) := (Below.refl _ _).alloc (Nat.le_refl _) _
     have hfar : ∀ a, A = some a → a.block ≠ w'.heap.size := fun a ha => by have := own_addr (show w'.ownsRow W.heap.size 55 4 (.slice A k ck) k _ from hps) ha; omega
     clear hps
     refine HavG.tabX_val rfl (by simp) ⟨.slice (some ⟨w'.heap.size, 0, none⟩) 1 1, w'.alloc (.cells #[.int .i64 c.days.lo, .int .i64 c.days.hi, .int .i64 c.rise.lo, .int .i64 c.rise.hi] 55), ?_, ⟨Turn.of_below HB, fun i => i.elim⟩, fun j V _ _ h => flip_grow h HB, fun j _ _ _ h => flipS_grow h HB, fun V _ hv => ⟨w'.heap.size, hv, Blk.new w' 55 _, (HT.out.trans hg.1).size, hfar⟩, fun h => by simp at h⟩
     clear hfar
     go_simp
     try rfl
    | 13, _, ho, hd, hps =>
     (simp only [List.getElem?_toArray, List.getElem?_cons_succ, List.getElem?_cons_zero, Option.some.injEq] at ho; subst ho)
     have e3 : HavG.slot a' 143 = .slice A k ck := hd 1 (by kernel_rfl) (by decide)
     obtain ⟨g, e5, hk5, hgB, hgA⟩ : ∃ g, HavG.slot a' 154 = .slice (some ⟨g, 0, none⟩) 1 1 ∧ Blk w' g 55 [Value.int .i64 c.days.lo, .int .i64 c.days.hi, .int .i64 c.rise.lo, .int .i64 c.rise.hi].toArray ∧ W.heap.size ≤ g ∧ ∀ a, A = some a → a.block ≠ g := hd 12 (by kernel_rfl) (by decide)
     have h3 : w'.ownsRow W.heap.size 55 4 (.slice A k ck) k XS := hps
     obtain ⟨g2, cp, w2, hrun, hown, ht, -⟩ := append_at (P := Try.prog) W.heap.size 24 24 55 I _ 4 32 Try.underlying24 HI.out HI0.out HI1.out HI2.out rfl (by decide) _ k _ h3 ⟨g, 0, none⟩ 1 [Value.int .i64 c.days.lo, .int .i64 c.days.hi, .int .i64 c.rise.lo, .int .i64 c.rise.hi] rfl (news_block hk5) (by simp [Value.oneCell']) (by omega) (by omega) (HT.out.trans hg.1).size
     have hge : ∀ b, (Value.slice A k ck).ownBlock = some b → W.heap.size ≤ b := fun b e => (own_block h3 e).1
     exact HavG.tabX_val rfl (by simp) ⟨_, w2, append_oper rfl e3 e5 hrun, ⟨ht.mono (fun b e => .inr (hge b e)), fun i => i.elim⟩, fun j V _ hji h => flip_app h ht (fun b e => by have := hge b e; have := HL15.out; omega) hji, fun j _ hji hbf h => flipS_app h ht (fun b e => by have := hge b e; have := HL15.out; omega) hji (fun e => by subst e; exact Bool.false_ne_true (hbf.symm.trans (by kernel_rfl))), fun V _ hv => ⟨_, _, hv, hown⟩, fun h => by simp at h⟩
    | 14, _, ho, hd, hps =>
     (simp only [List.getElem?_toArray, List.getElem?_cons_succ, List.getElem?_cons_zero, Option.some.injEq] at ho; subst ho)
     have s15 : a'.tmps[15]?.getD undef = (.pointer (some ⟨b15, 0, none⟩)) := by rw [← Array.getD_eq_getD_getElem?]; exact hag.slot 15 (by kernel_rfl)
     have r15 : a'.tmps.getD 15 undef = (.pointer (some ⟨b15, 0, none⟩)) := hag.slot 15 (by kernel_rfl)
     refine HavG.tabX_val rfl (by simp) ⟨.pointer (some ⟨b15, 5, none⟩), w', ?_, HavG.Rel.refl _ _, fun _ _ _ _ h => h, fun _ _ _ _ h => h, fun V _ hv => hv, fun h => by simp at h⟩
     go_simp
     try rfl
    | 15, _, ho, hd, hps =>
     (simp only [List.getElem?_toArray, List.getElem?_cons_succ, List.getElem?_cons_zero, Option.some.injEq] at ho; subst ho)
     have d156 : a'.tmps.getD 156 undef = (.pointer (some ⟨b15, 5, none⟩)) := hd 14 (by kernel_rfl) (by decide)
     have c156 : a'.tmps[156]?.getD undef = (.pointer (some ⟨b15, 5, none⟩)) := by rw [← Array.getD_eq_getD_getElem?]; exact d156
     obtain ⟨g2, cp, e6, ho⟩ : ∃ g cp, HavG.slot a' 155 = .slice (some ⟨g, 0, none⟩) (k + 1) cp ∧ w'.ownsRow W.heap.size 55 4 (.slice (some ⟨g, 0, none⟩) (k + 1) cp) (k + 1) (XS ++ [Value.int .i64 c.days.lo, .int .i64 c.days.hi, .int .i64 c.rise.lo, .int .i64 c.rise.hi]) := hd 13 (by kernel_rfl) (by decide)
     have d155 : a'.tmps.getD 155 undef = .slice (some ⟨g2, 0, none⟩) (k + 1) cp := e6
     have c155 : a'.tmps[155]?.getD undef = .slice (some ⟨g2, 0, none⟩) (k + 1) cp := by rw [← Array.getD_eq_getD_getElem?]; exact d155
     have hps' : Blk w' b15 27 #[.int .i64 r.depth.lo, .int .i64 r.depth.hi, .int .i64 r.fall.lo, .int .i64 r.fall.hi, .int .i64 r.days, .slice A k ck, .slice none 0 0] := hps
     have z5 := hps'.cell 5
     have z9 := hps'.frozen 5
     have zl := hps'.lt
     simp at z5
     have hset : Turn (fun b => b = b15) w' (w'.setCell ⟨b15, 5, none⟩ (.slice (some ⟨g2, 0, none⟩) (k + 1) cp)) := Turn.set _ _ (fun _ => rfl)
     have hnew : Blk (w'.setCell ⟨b15, 5, none⟩ (.slice (some ⟨g2, 0, none⟩) (k + 1) cp)) b15 27 #[.int .i64 r.depth.lo, .int .i64 r.depth.hi, .int .i64 r.fall.lo, .int .i64 r.fall.hi, .int .i64 r.days, .slice (some ⟨g2, 0, none⟩) (k + 1) cp, .slice none 0 0] := by have h := hps'.set_ 5 (.slice (some ⟨g2, 0, none⟩) (k + 1) cp); simpa using h
     refine HavG.tabX_store rfl rfl (by simp) ⟨w'.setCell ⟨b15, 5, none⟩ (.slice (some ⟨g2, 0, none⟩) (k + 1) cp), ?_, ⟨hset.mono (fun b e => .inl e), fun i => i.elim⟩, fun j V _ hji h => flip_set h hset HL15.out hji, fun j _ hji hbf h => flipS_set hji (fun e => by rcases e with rfl | rfl | rfl <;> exact Bool.false_ne_true (hbf.symm.trans (by kernel_rfl))), fun V hv => ⟨g2, cp, (hv 13 (by decide)).trans e6, hnew⟩⟩
     clear hnew hset hps hps' e6 ho
     go_simp
     try rfl
    | j + 16, hj, _, _, _ => exact absurd hj (by simp)
   intro f w2 hg hf _
   have q0 : f 142 = _ := hf 0 (by decide)
   have q1 : f 143 = _ := hf 1 (by decide)
   have q2 : f 144 = _ := hf 2 (by decide)
   have q3 : f 145 = _ := hf 3 (by decide)
   have q4 : f 146 = _ := hf 4 (by decide)
   have q5 : f 147 = _ := hf 5 (by decide)
   have q6 : f 148 = _ := hf 6 (by decide)
   have q7 : f 149 = _ := hf 7 (by decide)
   have q8 : f 150 = _ := hf 8 (by decide)
   have q9 : f 151 = _ := hf 9 (by decide)
   have q10 : f 152 = _ := hf 10 (by decide)
   have q11 : f 153 = _ := hf 11 (by decide)
   obtain ⟨g12, q12, -⟩ : ∃ g, f 154 = .slice (some ⟨g, 0, none⟩) 1 1 ∧ _ := hf 12 (by decide)
   obtain ⟨g2, cp, q13, ho⟩ : ∃ g cp, f 155 = .slice (some ⟨g, 0, none⟩) (k + 1) cp ∧ w2.ownsRow W.heap.size 55 4 (.slice (some ⟨g, 0, none⟩) (k + 1) cp) (k + 1) (XS ++ [Value.int .i64 c.days.lo, .int .i64 c.days.hi, .int .i64 c.rise.lo, .int .i64 c.rise.hi]) := hf 13 (by decide)
   have q14 : f 156 = _ := hf 14 (by decide)
   obtain ⟨g9, c9, k9, hb2⟩ : ∃ g cp, f 155 = .slice (some ⟨g, 0, none⟩) (k + 1) cp ∧ Blk w2 b15 27 #[.int .i64 r.depth.lo, .int .i64 r.depth.hi, .int .i64 r.fall.lo, .int .i64 r.fall.hi, .int .i64 r.days, .slice (some ⟨g, 0, none⟩) (k + 1) cp, .slice none 0 0] := hf 15 (by decide)
   obtain ⟨rfl, rfl⟩ : g2 = g9 ∧ cp = c9 := by rw [q13] at k9; injection k9 with a1 a2 a3; injection a1 with a1; injection a1 with a1; exact ⟨a1, a3⟩
   rw [← HSU.out] at ho
   have HT2 : Hid (Turn (fun b => b = b15 ∨ W.heap.size ≤ b) W w2) := HT.out.trans hg.1
   have HB2 := Lib.hid hb2
   have HO2 := Lib.hid ho
   simp only [List.filterMap, HavG.puts, List.foldl_cons, List.foldl_nil, Act.put, List.setIfInBounds_toArray, List.set_cons_succ, List.set_cons_zero]
   rw [q0, q1, q2, q3, q4, q5, q6, q7, q8, q9, q10, q11, q12, q13, q14]
   clear hf hg k9 hb2 ho q0 q1 q2 q3 q4 q5 q6 q7 q8 q9 q10 q11 q12 q13 q14
   go_wp2
   go_roundw
   case rel => exact ⟨k + 1, _, _, by omega, by go_num, HT2, HB2, HO2⟩
   case measure => simp [intOf]; omega
  ·obtain rfl : fl = k := by omega
   have HRW : Hid (RdG frI 4 wr wr.heap.size A r.fr.reverse ∧ Away A b15) := by
    have h := HOR.out
    have ht : r.fr.reverse.take fl = r.fr.reverse := List.take_of_length_le (by rw [List.length_reverse, HEF.out]; exact Nat.le_refl _)
    rw [ht] at h
    refine ⟨?_, fun b off e => ?_⟩
    ·have hl : fl = r.fr.reverse.length := by rw [List.length_reverse, HEF.out]
     have h' : wr.ownsRow W.heap.size 55 4 (.slice A fl ck) r.fr.reverse.length (r.fr.reverse.flatMap frI) := by rw [← hl]; exact h
     obtain ⟨A', cq, he, hrd, -⟩ := own_rd frI_len (by decide) h'
     injection he with e1 e2 e3
     rw [e1]
     exact hrd
    ·have := own_addr2 h e
     have := HL15.out
     show b ≠ b15
     omega
   go_wp2
   exact HKU.out _ _ (HF.out wr A ck HT.out HZR.out HRW.out.1 HRW.out.2 _ _ _ _ _ _ _ _ _ _ _ _ _ _ _ _ _ _ _ _ _ _ _ _ _ _ _ _ _ _ _ _ _ _ _ _ _ _ _ _ _ _ _ _ _ _ _ _ _ _ _ _ _ _ _ _ _ _ _ _ _ _ _ _ _ _ _ _ _ _ _ _ _ _ _ _ _ _ _ _ _ _ _ _ _ _ _ _ _ _ _ _ _ _ _ _ _ _ _ _ _ _ _ _ _ _ _ _ _ _ _ _ _ _ _ _ _ _ _ _ _ _ _ _ _ _ _ _ _ _ _ _ _ _ _ _ _ _ _ _ _ _ _ _ _ _ _ _ _ _ _ _ _ _ _ _ _ _ _ _ _ _ _ _ _ _ _ _ _ _ _ _ _ _ _ _ _ _ _ _ _ _ _ _ _ _ _ _ _ _ _ _ _ _ _ _ _ _ _ _ _ _ _ _ _ _ _ _ _ _ _ _ _ _ _ _ _ _ _ _ _ _ _ _ _ _ _ _ _ _ _ _ _ _ _ _ _ _ _ _ _ _ _ _ _ _ _ _ _ _ _ _ _ _ _ _ _ _ _ _ _ _ _ _ _ _ _ _ _ _ _ _ _ _ _ _ _ _ _ _ _ _ _ _ _ _ _ _ _ _ _ _ _ _ _ _ _ _ _ _ _ _ _ _ _ _ _ _ _ _ _ _ _ _ _ _ _ _ _ _ _ _ _ _ _ _ _ _ _ _ _ _ _ _ _ _ _ _ _ _ _ _ _ _ _ _ _ _ _ _ _ _ _ _ _ _ _ _ _ _ _ _ _ _ _ _ _ _ _ _ _ _ _ _ _ _ _ _ _ _ _ _ _ _ _ _ _ _ _ _ _ _ _ _ _ _ _ _ _ _ _ _ _ _ _ _ _ _ _)
end
end Go.Proofs.Ytiodmkokpfgkkaa
