/- The walk of Fall, for every river. No condition. The walk of boat: a river that has a truth, if a number is one that a boat can draw; of days: how it bears a boat on all days. No condition but that the river comes in. The walk of Days, for every river and boat. No condition. The walk of days: how a river bears a boat on all days, as a list. Conditions: the river is good, has a truth. Printed by gen_river_last.py. The walk of Last, for every river and boat. No condition. Printed by gen_river_last.py. The walk of Until, for every river and boat. No condition. -/
import Derived.Test.YtiodmkokpfgkkaaApiX
namespace Go.Proofs.Ytiodmkokpfgkkaa
open Go.RowKit Go.Hav Go.Shelf Go.Sq
attribute [local go_sem] Oper.semAt_some
section
variable {fa la : Option Addr} {fl fc ll lc : Nat} {r : IRiv} {w : World}
set_option maxRecDepth 100000 in
set_option maxHeartbeats 1600000 in
theorem PFall_err (hP : RvIn w w.heap.size fa fl la ll r) (h : okR r = false) :
  Calls Try.prog 16 #[(.agg #[.int .i64 r.depth.lo, .int .i64 r.depth.hi, .int .i64 r.fall.lo, .int .i64 r.fall.hi, .int .i64 r.days, .slice fa fl fc, .slice la ll lc])] w fun e w' => e = .returned (.tuple #[hullV (fallV r), .int .i64 (fallE r)]) ∧ Below w.heap.size w w' := by
 obtain ⟨EE, hEE⟩ : ∃ EE : Int, EE = (fallE r : Int) := ⟨_, rfl⟩
 have hE2 : fallE r = if okR r = false then 1 else 2 := toldE_bad (.inl h)
 have HR : Hid (Value.tuple #[hullV (fallV r), .int .i64 (fallE r)] = .tuple #[hullV (0, 0), .int .i64 EE]) := by
  show _ = _
  rw [hEE]
  unfold fallV
  rw [if_neg (by rw [hE2]; split <;> omega)]
 have HEE : Hid (((if okR r = false then 1 else 2 : Int)) = EE) := by show _ = _; rw [hEE, hE2]; split <;> rfl
 have HP := Lib.hid hP
 have HH := Lib.hid h
 have EG := Lib.hid (enters_of Try.func55 (by kernel_rfl) rfl)
 have EG54 := Lib.hid (enters_of Try.func54 (by kernel_rfl) rfl)
 clear hP h hEE hE2
 refine (callsIn_wide (n := 6)).1 (callsIn_of_wp_marks Try.func16 rfl trivial ?_ rfl)
 simp only [Try.ntmps16, List.size_toArray, List.length_cons, List.length_nil, Nat.reduceAdd, Nat.reduceSub, Array.replicate_succ, Array.replicate_zero, List.push_toArray, List.append_toArray, List.nil_append, List.cons_append]
 refine wpIn_wide.2 ?_
 have hmf : ∀ (fn : Fn) (first cap : Array Value) (w : World), (Instr.makeFunc fn first cap).run Try.prog w = .ok (.func fn first cap) w := fun _ _ _ _ => rfl
 go_upto_region 2 with (fail)
 obtain ⟨W, hW⟩ : ∃ W, W = ((w.alloc (.cells #[.int .i64 r.depth.lo, .int .i64 r.depth.hi, .int .i64 r.fall.lo, .int .i64 r.fall.hi, .int .i64 r.days, .slice fa fl fc, .slice la ll lc] 27)).alloc (.cells #[.int .i64 0, .int .i64 0] 23)).alloc (.cells #[.int .i64 0] 30) := ⟨_, rfl⟩
 obtain ⟨B2, hB2⟩ : ∃ B2, B2 = w.heap.size := ⟨_, rfl⟩
 obtain ⟨B4, hB4⟩ : ∃ B4, B4 = w.heap.size + 1 := ⟨_, rfl⟩
 obtain ⟨B5, hB5⟩ : ∃ B5, B5 = w.heap.size + 1 + 1 := ⟨_, rfl⟩
 have HB0 : Hid (Below w.heap.size w W) := by rw [hW]; exact (((Below.refl _ _).alloc (Nat.le_refl _) _).alloc (by simp) _).alloc (by simp; omega) _
 have HXB : Hid (Blk W B2 27 #[.int .i64 r.depth.lo, .int .i64 r.depth.hi, .int .i64 r.fall.lo, .int .i64 r.fall.hi, .int .i64 r.days, .slice fa fl fc, .slice la ll lc]) := by rw [hW, hB2]; exact ((Blk.new w 27 _).alloc _).alloc _
 have HX4 : Hid (Blk W B4 23 #[.int .i64 0, .int .i64 0]) := by rw [hW, hB4]; exact (Blk.new_ (by simp) 23 _).alloc _
 have HX5 : Hid (Blk W B5 30 #[.int .i64 0]) := by rw [hW, hB5]; exact Blk.new_ (by simp) 30 _
 have HE : Hid (w.heap.size ≤ B4 ∧ w.heap.size ≤ B5 ∧ B4 ≠ B5 ∧ w.heap.size ≤ W.heap.size ∧ B5 < W.heap.size ∧ B4 < W.heap.size) := ⟨by omega, by omega, by omega, HB0.out.size, HX5.out.lt, HX4.out.lt⟩
 rw [← hW, ← hB5, ← hB4, ← hB2]
 clear hW hB2 hB4 hB5
 have q0 := HXB.out.cell 0
 have q1 := HXB.out.cell 1
 have q2 := HXB.out.cell 2
 have q3 := HXB.out.cell 3
 have q4 := HXB.out.cell 4
 have q5 := HXB.out.cell 5
 have q6 := HXB.out.cell 6
 have ql := HXB.out.lt
 simp at q0 q1 q2 q3 q4 q5 q6
 go_wp2_with fail
 refine (open_err 55 #[] EG.out (HP.out.grow HB0.out) (fun _ => isG_always) (.inl HH.out)).mono ?_
 rintro e w' ⟨h1, hb⟩
 rw [HEE.out] at h1
 subst h1
 clear q0 q1 q2 q3 q4 q5 q6 ql
 obtain ⟨e1, e2, e3, e4, -, -⟩ := HE.out
 refine api_panic (ds := []) (B := W.heap.size) isAns54 EG54.out (Marks.nil _ _) (HX5.out.below hb HX5.out.lt) (fun w2 hk2 hfar hbel => ?_)
 have HS' : Blk w2 B4 23 #[.int .i64 0, .int .i64 0] := hfar _ _ _ e3 (HX4.out.below hb HX4.out.lt)
 have g0 := hk2.cell 0
 have g1 := HS'.cell 0
 have g2 := HS'.cell 1
 simp at g0 g1 g2
 refine ⟨.tuple #[hullV (0, 0), .int .i64 EE], by simp [results, Try.results16, go_sem, g0, g1, g2, hullV], by rw [HR.out], ?_⟩
 exact HB0.out.trans ((hb.mono e4).trans ((hbel w.heap.size e4 e2).mono (Nat.le_refl _)))
set_option maxRecDepth 100000 in
set_option maxHeartbeats 1600000 in
theorem PFall_clash (hP : RvIn w w.heap.size fa fl la ll r) (hv : okR r = true) (ht : truthsA r.nat = []) :
  Calls Try.prog 16 #[(.agg #[.int .i64 r.depth.lo, .int .i64 r.depth.hi, .int .i64 r.fall.lo, .int .i64 r.fall.hi, .int .i64 r.days, .slice fa fl fc, .slice la ll lc])] w fun e w' => e = .returned (.tuple #[hullV (fallV r), .int .i64 (fallE r)]) ∧ Below w.heap.size w w' := by
 have hE2 : fallE r = 10 := toldE_clash hv rfl ht
 have HR : Hid (Value.tuple #[hullV (fallV r), .int .i64 (fallE r)] = .tuple #[hullV (0, 0), .int .i64 10]) := by
  show _ = _
  unfold fallV
  rw [if_neg (by rw [hE2]; omega), hE2]
  rfl
 have HP := Lib.hid hP
 have HV := Lib.hid hv
 have HC : Hid (canB r.nat (full r.nat.lk.length) = false) := by show _ = _; rw [can_of hv, ht]; rfl
 have EG := Lib.hid (enters_of Try.func55 (by kernel_rfl) rfl)
 have EG54 := Lib.hid (enters_of Try.func54 (by kernel_rfl) rfl)
 clear hP hv ht hE2
 refine (callsIn_wide (n := 6)).1 (callsIn_of_wp_marks Try.func16 rfl trivial ?_ rfl)
 simp only [Try.ntmps16, List.size_toArray, List.length_cons, List.length_nil, Nat.reduceAdd, Nat.reduceSub, Array.replicate_succ, Array.replicate_zero, List.push_toArray, List.append_toArray, List.nil_append, List.cons_append]
 refine wpIn_wide.2 ?_
 have hmf : ∀ (fn : Fn) (first cap : Array Value) (w : World), (Instr.makeFunc fn first cap).run Try.prog w = .ok (.func fn first cap) w := fun _ _ _ _ => rfl
 go_upto_region 2 with (fail)
 obtain ⟨W, hW⟩ : ∃ W, W = ((w.alloc (.cells #[.int .i64 r.depth.lo, .int .i64 r.depth.hi, .int .i64 r.fall.lo, .int .i64 r.fall.hi, .int .i64 r.days, .slice fa fl fc, .slice la ll lc] 27)).alloc (.cells #[.int .i64 0, .int .i64 0] 23)).alloc (.cells #[.int .i64 0] 30) := ⟨_, rfl⟩
 obtain ⟨B2, hB2⟩ : ∃ B2, B2 = w.heap.size := ⟨_, rfl⟩
 obtain ⟨B4, hB4⟩ : ∃ B4, B4 = w.heap.size + 1 := ⟨_, rfl⟩
 obtain ⟨B5, hB5⟩ : ∃ B5, B5 = w.heap.size + 1 + 1 := ⟨_, rfl⟩
 have HB0 : Hid (Below w.heap.size w W) := by rw [hW]; exact (((Below.refl _ _).alloc (Nat.le_refl _) _).alloc (by simp) _).alloc (by simp; omega) _
 have HXB : Hid (Blk W B2 27 #[.int .i64 r.depth.lo, .int .i64 r.depth.hi, .int .i64 r.fall.lo, .int .i64 r.fall.hi, .int .i64 r.days, .slice fa fl fc, .slice la ll lc]) := by rw [hW, hB2]; exact ((Blk.new w 27 _).alloc _).alloc _
 have HX4 : Hid (Blk W B4 23 #[.int .i64 0, .int .i64 0]) := by rw [hW, hB4]; exact (Blk.new_ (by simp) 23 _).alloc _
 have HX5 : Hid (Blk W B5 30 #[.int .i64 0]) := by rw [hW, hB5]; exact Blk.new_ (by simp) 30 _
 have HE : Hid (w.heap.size ≤ B4 ∧ w.heap.size ≤ B5 ∧ B4 ≠ B5 ∧ w.heap.size ≤ W.heap.size ∧ B5 < W.heap.size ∧ B4 < W.heap.size) := ⟨by omega, by omega, by omega, HB0.out.size, HX5.out.lt, HX4.out.lt⟩
 rw [← hW, ← hB5, ← hB4, ← hB2]
 clear hW hB2 hB4 hB5
 have q0 := HXB.out.cell 0
 have q1 := HXB.out.cell 1
 have q2 := HXB.out.cell 2
 have q3 := HXB.out.cell 3
 have q4 := HXB.out.cell 4
 have q5 := HXB.out.cell 5
 have q6 := HXB.out.cell 6
 have ql := HXB.out.lt
 simp at q0 q1 q2 q3 q4 q5 q6
 go_wp2_with fail
 refine (open_ok 55 #[] EG.out (HP.out.grow HB0.out) (fun _ => isG_always) HV.out).mono ?_
 rintro e w1 ⟨d, k, rfl, hD, hK, hb0⟩
 have HB1 : Hid (Below W.heap.size W w1) := hb0
 have HD1 := Lib.hid hD
 have HK1 := Lib.hid hK
 clear hD hK hb0 q0 q1 q2 q3 q4 q5 q6 ql
 go_wp2_with fail
 refine (told_no (good_of HV.out) HC.out w1 HD1.out HK1.out).mono ?_
 rintro e w' ⟨rfl, -, hg⟩
 have hkW : W.heap.size ≤ k := HD1.out.hk
 have hb : Below W.heap.size W w' := HB1.out.trans ((Turn.of_grownK hg).below HB1.out.size (fun b e => by have e' : b = k := e; rw [e']; exact hkW))
 obtain ⟨e1, e2, e3, e4, -, -⟩ := HE.out
 refine api_panic (ds := []) (B := W.heap.size) isAns54 EG54.out (Marks.nil _ _) (HX5.out.below hb HX5.out.lt) (fun w2 hk2 hfar hbel => ?_)
 have HS' : Blk w2 B4 23 #[.int .i64 0, .int .i64 0] := hfar _ _ _ e3 (HX4.out.below hb HX4.out.lt)
 have g0 := hk2.cell 0
 have g1 := HS'.cell 0
 have g2 := HS'.cell 1
 simp at g0 g1 g2
 refine ⟨.tuple #[hullV (0, 0), .int .i64 10], by simp [results, Try.results16, go_sem, g0, g1, g2, hullV], by rw [HR.out], ?_⟩
 exact HB0.out.trans ((hb.mono e4).trans ((hbel w.heap.size e4 e2).mono (Nat.le_refl _)))
theorem fall_of {r : Riv} (hv : r.Good) : hullP (fallsL r (full r.lk.length)) = fallQ r := by
 have hr : FrOk r := fun f hf => ⟨(hv.fr f hf).1, (hv.fr f hf).2.1, (hv.fr f hf).2.2.2.2.2.1⟩
 have hl : LkOk r := fun f hf => (hv.lk f hf).1
 refine hullP_congr fun x => ?_
 rw [List.mem_map]
 constructor
 ·intro hx
  obtain ⟨b1, b2, s, h3⟩ := (mem_fallsL hv.f1).1 hx
  obtain ⟨t, t1, t2, -, -⟩ := (allS_truths hr hl (Nat.zero_le _) b1 b2).1 h3
  exact ⟨t, t1, t2⟩
 ·rintro ⟨t, t1, rfl⟩
  obtain ⟨_, _, b1, b2, -⟩ := (mem_truthsP hl).1 t1
  exact (mem_fallsL hv.f1).2 ⟨b1, b2, (t.at_ 0, comeF t.dsF 0 r.fr.length), (allS_truths hr hl (Nat.zero_le _) b1 b2).2 ⟨t, t1, rfl, rfl, fun j => comeF_bit _ _ _ _⟩⟩
set_option maxRecDepth 100000 in
set_option maxHeartbeats 1600000 in
theorem PFall_ok (hP : RvIn w w.heap.size fa fl la ll r) (hv : okR r = true) (ht : truthsA r.nat ≠ []) :
  Calls Try.prog 16 #[(.agg #[.int .i64 r.depth.lo, .int .i64 r.depth.hi, .int .i64 r.fall.lo, .int .i64 r.fall.hi, .int .i64 r.days, .slice fa fl fc, .slice la ll lc])] w fun e w' => e = .returned (.tuple #[hullV (fallV r), .int .i64 (fallE r)]) ∧ Below w.heap.size w w' := by
 obtain ⟨s, hs⟩ : ∃ s, s = fallQ r.nat := ⟨_, rfl⟩
 have hE2 : fallE r = 0 := toldE_fine hv rfl ht
 have HR : Hid (Value.tuple #[hullV (fallV r), .int .i64 (fallE r)] = .tuple #[.agg #[.int .i64 s.1, .int .i64 s.2], .int .i64 0]) := by
  show _ = _
  unfold fallV
  rw [if_pos hE2, hE2, hs]
  rfl
 have HSS := Lib.hid hs
 have HP := Lib.hid hP
 have HV := Lib.hid hv
 have HGD : Hid (r.nat.Good) := good_of hv
 have HC : Hid (canB r.nat (full r.nat.lk.length) = true) := by show _ = _; rw [can_of hv]; simp [ht]
 have hfu := full_lt32 (good_of hv).ll
 have EG := Lib.hid (enters_of Try.func55 (by kernel_rfl) rfl)
 have EG54 := Lib.hid (enters_of Try.func54 (by kernel_rfl) rfl)
 clear hP hv ht hE2 hs
 refine (callsIn_wide (n := 6)).1 (callsIn_of_wp_marks Try.func16 rfl trivial ?_ rfl)
 simp only [Try.ntmps16, List.size_toArray, List.length_cons, List.length_nil, Nat.reduceAdd, Nat.reduceSub, Array.replicate_succ, Array.replicate_zero, List.push_toArray, List.append_toArray, List.nil_append, List.cons_append]
 refine wpIn_wide.2 ?_
 have hmf : ∀ (fn : Fn) (first cap : Array Value) (w : World), (Instr.makeFunc fn first cap).run Try.prog w = .ok (.func fn first cap) w := fun _ _ _ _ => rfl
 go_upto_region 2 with (fail)
 obtain ⟨W, hW⟩ : ∃ W, W = ((w.alloc (.cells #[.int .i64 r.depth.lo, .int .i64 r.depth.hi, .int .i64 r.fall.lo, .int .i64 r.fall.hi, .int .i64 r.days, .slice fa fl fc, .slice la ll lc] 27)).alloc (.cells #[.int .i64 0, .int .i64 0] 23)).alloc (.cells #[.int .i64 0] 30) := ⟨_, rfl⟩
 obtain ⟨B2, hB2⟩ : ∃ B2, B2 = w.heap.size := ⟨_, rfl⟩
 obtain ⟨B4, hB4⟩ : ∃ B4, B4 = w.heap.size + 1 := ⟨_, rfl⟩
 obtain ⟨B5, hB5⟩ : ∃ B5, B5 = w.heap.size + 1 + 1 := ⟨_, rfl⟩
 have HB0 : Hid (Below w.heap.size w W) := by rw [hW]; exact (((Below.refl _ _).alloc (Nat.le_refl _) _).alloc (by simp) _).alloc (by simp; omega) _
 have HXB : Hid (Blk W B2 27 #[.int .i64 r.depth.lo, .int .i64 r.depth.hi, .int .i64 r.fall.lo, .int .i64 r.fall.hi, .int .i64 r.days, .slice fa fl fc, .slice la ll lc]) := by rw [hW, hB2]; exact ((Blk.new w 27 _).alloc _).alloc _
 have HX4 : Hid (Blk W B4 23 #[.int .i64 0, .int .i64 0]) := by rw [hW, hB4]; exact (Blk.new_ (by simp) 23 _).alloc _
 have HX5 : Hid (Blk W B5 30 #[.int .i64 0]) := by rw [hW, hB5]; exact Blk.new_ (by simp) 30 _
 have HE : Hid (w.heap.size ≤ B4 ∧ w.heap.size ≤ B5 ∧ B4 ≠ B5 ∧ w.heap.size ≤ W.heap.size ∧ B5 < W.heap.size ∧ B4 < W.heap.size) := ⟨by omega, by omega, by omega, HB0.out.size, HX5.out.lt, HX4.out.lt⟩
 rw [← hW, ← hB5, ← hB4, ← hB2]
 clear hW hB2 hB4 hB5
 have q0 := HXB.out.cell 0
 have q1 := HXB.out.cell 1
 have q2 := HXB.out.cell 2
 have q3 := HXB.out.cell 3
 have q4 := HXB.out.cell 4
 have q5 := HXB.out.cell 5
 have q6 := HXB.out.cell 6
 have ql := HXB.out.lt
 simp at q0 q1 q2 q3 q4 q5 q6
 go_wp2_with fail
 refine (open_ok 55 #[] EG.out (HP.out.grow HB0.out) (fun _ => isG_always) HV.out).mono ?_
 rintro e w1 ⟨d, k, rfl, hD, hK, hb0⟩
 have HB1 : Hid (Below W.heap.size W w1) := hb0
 have HD1 := Lib.hid hD
 have HK1 := Lib.hid hK
 clear hD hK hb0 q0 q1 q2 q3 q4 q5 q6 ql
 go_wp2_with fail
 refine (told_yes HGD.out HC.out w1 HD1.out HK1.out).mono ?_
 rintro e w2 ⟨rfl, hk2, hg2⟩
 have hkW : W.heap.size ≤ k := HD1.out.hk
 have HB2 : Hid (Below W.heap.size W w2) := HB1.out.trans ((Turn.of_grownK hg2).below HB1.out.size (fun b e => by have e' : b = k := e; rw [e']; exact hkW))
 have HD2 := Lib.hid (HD1.out.turn (Turn.of_grownK hg2) (fun b e => by have e' : b = k := e; rw [e']; exact hkW) (fun e => HD1.out.kd (show d = k from e).symm))
 have HK2 := Lib.hid hk2
 have hkw : k < w2.heap.size := by obtain ⟨o, ho, _⟩ := hk2.lt; exact (Array.getElem?_eq_some_iff.1 ho).1
 have hdw : d < w2.heap.size := HD2.out.blk.lt
 clear hk2 hg2
 obtain ⟨B6, hB6⟩ : ∃ B6, B6 = w2.heap.size := ⟨_, rfl⟩
 obtain ⟨wz, hwz⟩ : ∃ wz, wz = w2.alloc (.cells #[.slice none 0 0] 42) := ⟨_, rfl⟩
 have HBZ : Hid (Below w2.heap.size w2 wz) := by rw [hwz]; exact (Below.refl _ _).alloc (Nat.le_refl _) _
 have HX6 : Hid (Blk wz B6 42 #[.slice none 0 0]) := by rw [hwz, hB6]; exact Blk.new w2 42 _
 have hsz : wz.heap.size = B6 + 1 := by rw [hwz, hB6]; simp
 go_wp2_with fail
 rw [← hwz, ← hB6]
 have HB6 := Lib.hid hB6
 have HSZ := Lib.hid hsz
 clear hwz hB6 hsz
 have HDZ := Lib.hid (HD2.out.grow HBZ.out)
 refine (every_any HGD.out wz HDZ.out).mono ?_
 rintro e wy ⟨rfl, hwy⟩
 obtain rfl : wz = wy := hwy.symm
 obtain ⟨W2, hW2⟩ : ∃ W2, W2 = (wz.alloc (.cells #[(.pointer (some ⟨d, 0, none⟩))] 70)).alloc (.cells #[.int .u64 (full r.nat.lk.length)] 82) := ⟨_, rfl⟩
 have HBY : Hid (Below wz.heap.size wz W2) := by rw [hW2]; exact ((Below.refl _ _).alloc (Nat.le_refl _) _).alloc (by simp) _
 have hs2 : W2.heap.size = wz.heap.size + 2 := by rw [hW2]; simp
 have HXg : Hid (Blk W2 wz.heap.size 70 #[(.pointer (some ⟨d, 0, none⟩))]) := by rw [hW2]; exact (Blk.new_ rfl 70 _).alloc _
 have HXl : Hid (Blk W2 (wz.heap.size + 1) 82 #[.int .u64 (full r.nat.lk.length)]) := by rw [hW2]; exact Blk.new_ (by simp) 82 _
 go_wp2_with fail
 refine (falls_any (d := d) (full r.nat.lk.length) wz).mono ?_
 rw [← hW2]
 rintro e wx ⟨rfl, hwx⟩
 obtain rfl : W2 = wx := hwx.symm
 have heg : ∀ args w, (callFunc 102 args).run Try.prog w = .ok (.enter 102 args) w := enters_of Try.func102 (by kernel_rfl) rfl
 have HEG := Lib.hid heg
 have HSEQ := Lib.hid (falls_seq (B := W.heap.size) (d := d) (k := k) (fa := fa) (fl := fl) (fc := fc) (la := la) (ll := ll) (lc := lc) HGD.out (full r.nat.lk.length) hfu wz.heap.size (wz.heap.size + 1))
 obtain ⟨F, hF⟩ : ∃ F, F = fallsL r.nat (full r.nat.lk.length) := ⟨_, rfl⟩
 rw [← hF] at HSEQ
 have HFL : Hid (F.length ≤ 3) := by show F.length ≤ 3; rw [hF]; exact fallsL_len HGD.out _
 have HFIN : Hid (hullP F = s) := by show _ = _; rw [hF, HSS.out]; exact fall_of HGD.out
 have HBW : Hid (Below W.heap.size W W2) := HB2.out.trans ((HBZ.out.trans (HBY.out.mono HBZ.out.size)).mono HB2.out.size)
 have HD3 := Lib.hid (HDZ.out.grow HBY.out)
 have HK3 := Lib.hid ((HK2.out.below HBZ.out).below HBY.out)
 have HY6 : Hid (Blk W2 B6 42 #[.slice none 0 0]) := HX6.out.below HBY.out HX6.out.lt
 have HY4 : Hid (Blk W2 B4 23 #[.int .i64 0, .int .i64 0]) := HX4.out.below HBW.out HX4.out.lt
 have HY5 : Hid (Blk W2 B5 30 #[.int .i64 0]) := HX5.out.below HBW.out HX5.out.lt
 have HQQ : Hid (wz.heap.size = B6 + 1 ∧ W2.heap.size = B6 + 3 ∧ k < B6 ∧ d < B6 ∧ B4 < W.heap.size ∧ B5 < W.heap.size ∧ W.heap.size ≤ B6 ∧ W.heap.size ≤ k) := by
  have h1 := HE.out
  have h2 := HB2.out.size
  have h3 := HB6.out
  have h4 := HSZ.out
  refine ⟨h4, by omega, by omega, by omega, h1.2.2.2.2.2, h1.2.2.2.2.1, by omega, hkW⟩
 obtain ⟨i0, hi, hz0, hz1, hz2⟩ := info_parts Try.infoE23
 have HI := Lib.hid hi
 have HI0 := Lib.hid hz0
 have HI1 := Lib.hid hz1
 have HI2 := Lib.hid hz2
 clear hi hz0 hz1 hz2 hW2 hs2 heg hF hwx hwy
 go_wp2_with fail
 refine wpIn_wide.1 (wpIn_rangeK_slots (n := 6) rfl HEG.out HSEQ.out (keepsRec_K k r.nat) (fun x hx => by obtain ⟨y, _, rfl⟩ := List.mem_map.1 hx; rfl) (fun x => x = k ∨ x = B6 ∨ W2.heap.size + 2 ≤ x)
  (fun e => by have := HQQ.out; have e' : _ = _ ∨ _ = _ ∨ _ ≤ _ := e; omega) (fun e => by have := HQQ.out; have e' : _ = _ ∨ _ = _ ∨ _ ≤ _ := e; omega)
  (fun rec => ⟨(HXg.out.alloc _).alloc _, (HXl.out.alloc _).alloc _, (HD3.out.grow (((Below.refl _ _).alloc (Nat.le_refl _) _).alloc (by simp) _)), fun e => by have := HQQ.out; have e' : (_ = _ ∨ _ = _ ∨ _ ≤ _) ∨ _ = _ := e; omega, fun e => by have := HQQ.out; have e' : (_ = _ ∨ _ = _ ∨ _ ≤ _) ∨ _ = _ := e; omega, fun e => by have := HQQ.out; have := HD1.out.kd; have e' : (_ = _ ∨ _ = _ ∨ _ ≤ _) ∨ _ = _ := e; omega, fun b e => by have := HQQ.out; have e' : (_ = _ ∨ _ = _ ∨ _ ≤ _) ∨ _ = _ := e; omega⟩)
  (fun n Xw => (Turn (fun x => x = k ∨ x = B6 ∨ W2.heap.size + 2 ≤ x) W2 Xw ∧ KeptOK Xw k r.nat) ∧ ∃ (v : Value), Blk Xw B6 42 #[v] ∧ Xw.ownsRow (W2.heap.size + 2) 23 2 v (F.take n).length ((F.take n).flatMap spF)) (fun _ _ => False)
  (fun n => ((own_turnK (S := fun x => x = k ∨ x = B6 ∨ W2.heap.size + 2 ≤ x) (W := W2) (Nat.le_refl _) (.inl rfl)).and (own_kept W2.heap.size k r.nat)).and (OwnT.ex fun v => (own_ltK (l := B6) (by have := HQQ.out; omega)).and own_rowK)) (fun cd => OwnT.pure _ _ _ False)
  (fun n X h => h.1.2)
  ⟨⟨Turn.refl _ _, HK3.out⟩, _, HY6.out, World.ownsRow_nil _ _ _ _⟩
  (fun n (_ : Unit) T => (T.setIfInBounds 15 (.int .i64 ((F[n]?.getD 0 : Nat) : Int))).setIfInBounds 6 (.int .i64 ((F[n]?.getD 0 : Nat) : Int))) (fun n _ Xw => True) (fun _ _ => (OwnT.pure _ _ _ _))
  ?assign ?body ?done ?stop)
 case assign =>
  rintro l n xx Xw K hI hx hK
  rw [List.getElem?_map] at hx
  obtain ⟨y, hy⟩ : ∃ y, F[n]? = some y := by
   cases h : F[n]? with
   | none => rw [h] at hx; cases hx
   | some y => exact ⟨y, rfl⟩
  rw [hy] at hx hK
  obtain rfl : encB y = xx := Option.some.inj hx
  simp only [Option.getD_some] at hK
  simp only [List.setIfInBounds_toArray, List.set_cons_succ, List.set_cons_zero] at hK
  dsimp only [encB]
  have HK := Lib.hid hK
  have HI := Lib.hid hI
  clear hK hx hI
  gi_wp2
  exact HK.out () _ (Turn.refl _ Xw) HI.out trivial
 case body =>
  rintro l n xx Bx Xw hl ⟨r0, hr⟩ ⟨⟨hT, hk⟩, v, hv5, hown⟩ _ hx
  rw [List.getElem?_map] at hx
  obtain ⟨y, hy⟩ : ∃ y, F[n]? = some y := by
   cases h : F[n]? with
   | none => rw [h] at hx; cases hx
   | some y => exact ⟨y, rfl⟩
  have HY := Lib.hid hy
  rw [hy]
  simp only [Option.getD_some]
  simp only [List.setIfInBounds_toArray, List.set_cons_succ, List.set_cons_zero]
  have HTX := Lib.hid hT
  have HKX := Lib.hid hk
  have HV5 := Lib.hid hv5
  have HNX : Hid ((F.take (n + 1)).flatMap spF = (F.take n).flatMap spF ++ [.int .i64 y, .int .i64 y] ∧ (F.take (n + 1)).length = (F.take n).length + 1 ∧ (F.take n).length ≤ 3) := by
   refine ⟨?_, ?_, ?_⟩
   ·rw [List.take_add_one, hy]; simp [spF]
   ·have := (List.getElem?_eq_some_iff.1 hy).1
    rw [List.length_take, List.length_take]; omega
   ·rw [List.length_take]; have := HFL.out; omega
  obtain ⟨N, hN⟩ : ∃ N, N = (F.take n).length := ⟨_, rfl⟩
  have hN3 : N ≤ 3 := by rw [hN]; exact HNX.out.2.2
  rw [← hN] at hown
  have HNN := Lib.hid hN
  have hsX := hT.size
  have HOWN := Lib.hid (own_below (w' := Xw.alloc (.cells #[.int .i64 y, .int .i64 y] 23)) hown ((Below.refl Xw.heap.size Xw).alloc (Nat.le_refl _) _))
  have c6 := hv5.cell 0
  have l6 := hv5.lt
  simp at c6
  have hHL := hl
  have hlt : l < Xw.heap.size := (Array.getElem?_eq_some_iff.1 hr).1
  clear hT hk hv5 hown hy hx hr hN
  gi_wp2_with (gi_at_builtin; refine wpListIn_append_own _ rfl _ _ 42 rfl (W2.heap.size + 2) 23 i0 _ 2 16 Try.underlying42 HI.out HI0.out HI1.out HI2.out rfl (by decide) _ _ _ rfl HOWN.out ⟨Xw.heap.size, 0, none⟩ 1 1 [.int .i64 y, .int .i64 y] rfl rfl (news_block (Blk.new Xw 23 _)) (by simp [Value.oneCell']) (by unfold maxLen; omega) (by omega) (by simp; omega) ?_)
  intro v2 w7 hown2 hgrow2 _
  have HO2 := Lib.hid hown2
  have hblk : ∀ g, v.ownBlock = some g → W2.heap.size + 2 ≤ g ∧ ∃ cs, Blk (Xw.alloc (.cells #[.int .i64 y, .int .i64 y] 23)) g 23 cs := fun g hg => own_block HOWN.out hg
  have HA : Hid (Turn (fun _ => False) Xw (Xw.alloc (.cells #[.int .i64 y, .int .i64 y] 23))) := (Turn.refl _ _).alloc _
  have hQ := HQQ.out
  have HV2 : Hid (Blk w7 B6 42 #[v]) := (HV5.out.turn HA.out id).grown hgrow2 (fun e => by obtain ⟨h1, _⟩ := hblk B6 e.symm; omega)
  have HT2 : Hid (Turn (fun x => x = k ∨ x = B6 ∨ W2.heap.size + 2 ≤ x) Xw w7) := (HA.out.mono fun _ h => h.elim).trans (Turn.of_grown hgrow2 (fun q e _ => .inr (.inr (hblk q e).1)))
  have HK2' : Hid (KeptOK w7 k r.nat) := (HKX.out.turn HA.out (fun _ _ h => h.elim)).keepM (fun g es cl hg => (hgrow2.block g (Array.getElem?_eq_some_iff.1 hg).1 (fun e => by
   obtain ⟨_, cs, h2⟩ := hblk g e.symm
   rw [show _ = _ from h2] at hg
   cases hg)).trans hg)
  have hform : ∃ A n c, v2 = .slice A n c := by
   rcases hown2.2 with ⟨h, _⟩ | ⟨g, cap, cur, h, _⟩
   ·exact ⟨_, _, _, h⟩
   ·exact ⟨_, _, _, h⟩
  obtain ⟨A2, n2, c2, rfl⟩ := hform
  have c7 := HV2.out.cell 0
  have f7 := HV2.out.frozen 0
  have l7 := HV2.out.lt
  simp at c7
  clear hown2 hgrow2 hblk c6 l6
  gi_wp2
  have hset : Turn (fun x => x = B6) w7 (w7.setCell ⟨B6, 0, none⟩ (.slice A2 n2 c2)) := Turn.set _ _ (fun _ => rfl)
  have hAll : Turn (fun x => x = k ∨ x = B6 ∨ W2.heap.size + 2 ≤ x) Xw (w7.setCell ⟨B6, 0, none⟩ (.slice A2 n2 c2)) := HT2.out.trans (hset.mono fun x h => .inr (.inl h))
  refine ⟨hAll, ⟨HTX.out.trans hAll, HK2'.out.turn hset (fun g o e hg => ?_)⟩, .slice A2 n2 c2, HV2.out.set_ 0 _, ?_⟩
  ·obtain rfl : g = B6 := e
   rw [show w7.heap[g]? = _ from HV2.out] at hg
   cases hg
   rfl
  ·rw [HNX.out.1, HNX.out.2.1, ← HNN.out]
   exact own_keep HO2.out (fun g cs hg hgb => hgb.turn hset (fun e => by have e' : g = B6 := e; have := HQQ.out; omega))
 case done =>
  rintro D Xw hDe ⟨⟨hT, hk⟩, v, hv5, hown⟩ hDD
  rw [List.length_map, List.take_of_length_le (Nat.le_refl _)] at hown
  obtain ⟨A, cp, rfl, hrd, _⟩ := own_rd spF_len (by decide) hown
  have HT := Lib.hid hT
  have HDD := Lib.hid hDD
  have HDE := Lib.hid hDe
  have HRD := Lib.hid hrd
  have hHQ := HQQ.out
  have hln : F.length ≤ 1000000000 := by have := HFL.out; omega
  have H4 : Hid (Blk Xw B4 23 #[.int .i64 0, .int .i64 0]) := HY4.out.turn hT (fun e => by have e' : _ = _ ∨ _ = _ ∨ _ ≤ _ := e; omega)
  have H5 : Hid (Blk Xw B5 30 #[.int .i64 0]) := HY5.out.turn hT (fun e => by have e' : _ = _ ∨ _ = _ ∨ _ ≤ _ := e; omega)
  have c6 : Xw.cell? ⟨B6, 0, none⟩ = some (.slice A F.length cp) := hv5.cell 0
  have l6 := hv5.lt
  have hsX := hT.size
  clear hT hk hv5 hown hDD hDe hrd
  go_wp2_with fail
  refine (joined_any A F.length cp hln F rfl Xw HRD.out).mono ?_
  rw [HFIN.out]
  unfold hullV
  rintro e w8 ⟨rfl, hb3⟩
  have HB3 := Lib.hid hb3
  have H43 : Hid (Blk w8 B4 23 #[.int .i64 0, .int .i64 0]) := H4.out.below hb3 H4.out.lt
  have H53 : Hid (Blk w8 B5 30 #[.int .i64 0]) := H5.out.below hb3 H5.out.lt
  have c0 : w8.cell? ⟨B4, 0, none⟩ = some (.int .i64 0) := H43.out.cell 0
  have c1 : w8.cell? ⟨B4, 1, none⟩ = some (.int .i64 0) := H43.out.cell 1
  have c2 : w8.cell? ⟨B5, 0, none⟩ = some (.int .i64 0) := H53.out.cell 0
  have f0 := H43.out.frozen 0
  have f1 := H43.out.frozen 1
  have f2 := H53.out.frozen 0
  have l4 := H43.out.lt
  have l5 := H53.out.lt
  have hne : B4 ≠ B5 := HE.out.2.2.1
  clear hb3 c6 l6
  go_wp2
  obtain ⟨W9, hW9⟩ : ∃ W9, W9 = ((w8.setCell ⟨B4, 0, none⟩ (.int .i64 (s.1 : Int))).setCell ⟨B4, 1, none⟩ (.int .i64 (s.2 : Int))).setCell ⟨B5, 0, none⟩ (.int .i64 0) := ⟨_, rfl⟩
  rw [← hW9]
  have HT4 : Blk W9 B4 23 #[.int .i64 s.1, .int .i64 s.2] := by rw [hW9]; exact ((H43.out.set_ 0 _).set_ 1 _).far (p := ⟨B5, 0, none⟩) hne _
  have HT5 : Blk W9 B5 30 #[.int .i64 0] := by rw [hW9]; exact ((H53.out.far (p := ⟨B4, 0, none⟩) (fun e => hne e.symm) _).far (p := ⟨B4, 1, none⟩) (fun e => hne e.symm) _).set_ 0 _
  obtain ⟨e1, e2, _, e4, _, _⟩ := HE.out
  have hXB : Below W.heap.size W Xw := HBW.out.trans (HT.out.below HBW.out.size (fun b e => by have e' : b = k ∨ b = B6 ∨ W2.heap.size + 2 ≤ b := e; omega))
  have hB9 : Below w.heap.size w W9 := by rw [hW9]; exact setCell_below (setCell_below (setCell_below (HB0.out.trans ((hXB.trans (HB3.out.mono hXB.size)).mono e4)) e1 _ _) e1 _ _) e2 _ _
  have hD9 : W9.heap[D]? = some (.deferred (some [])) := by
   have hD8 : w8.heap[D]? = some (.deferred (some [])) := (HB3.out.block D (Array.getElem?_eq_some_iff.1 HDD.out).1).trans HDD.out
   have hd4 : D ≠ B4 := by have := HDE.out; omega
   have hd5 : D ≠ B5 := by have := HDE.out; omega
   rw [hW9]
   exact (Below.heap_setCell _ ⟨B5, 0, none⟩ _ D hd5).trans ((Below.heap_setCell _ ⟨B4, 1, none⟩ _ D hd4).trans ((Below.heap_setCell _ ⟨B4, 0, none⟩ _ D hd4).trans hD8))
  refine api_ret (ds := [markD D]) (B := W.heap.size) isAns54 EG54.out (Marks.cons (Marks.nil _ _) (by have := HDE.out; omega) hD9 (fun l h => by cases l <;> simp at h ⊢)) (fun w4 hk hbel => ?_)
  have g0 := (hk _ _ _ HT4).cell 0
  have g1 := (hk _ _ _ HT4).cell 1
  have g2 := (hk _ _ _ HT5).cell 0
  simp at g0 g1 g2
  refine ⟨.tuple #[.agg #[.int .i64 s.1, .int .i64 s.2], .int .i64 0], by simp [results, Try.results16, go_sem, g0, g1, g2], by rw [HR.out], ?_⟩
  exact hB9.trans (hbel w.heap.size e4)
 case stop => exact fun D c W _ h _ => h.elim
theorem PFall_any (hP : RvIn w w.heap.size fa fl la ll r) : Calls Try.prog 16 #[(.agg #[.int .i64 r.depth.lo, .int .i64 r.depth.hi, .int .i64 r.fall.lo, .int .i64 r.fall.hi, .int .i64 r.days, .slice fa fl fc, .slice la ll lc])] w fun e w' => e = .returned (.tuple #[hullV (fallV r), .int .i64 (fallE r)]) ∧ Below w.heap.size w w' := by
 cases hv : okR r
 ·exact PFall_err hP hv
 by_cases ht : truthsA r.nat = []
 ·exact PFall_clash hP hv ht
 ·exact PFall_ok hP hv ht
end
end Go.Proofs.Ytiodmkokpfgkkaa
namespace Go.Proofs.Ytiodmkokpfgkkaa
open Go.RowKit Go.Hav Go.Shelf Go.Sq
attribute [local go_sem] Oper.semAt_some
section
variable {fa la : Option Addr} {fl fc ll lc : Nat} {r : IRiv} {w : World}
set_option maxRecDepth 100000 in
set_option maxHeartbeats 1600000 in
theorem boat_err (draws : Int) (hP : RvIn w w.heap.size fa fl la ll r) (h : okR r = false ∨ isDrB draws = false) :
  Calls Try.prog 76 #[(.agg #[.int .i64 r.depth.lo, .int .i64 r.depth.hi, .int .i64 r.fall.lo, .int .i64 r.fall.hi, .int .i64 r.days, .slice fa fl fc, .slice la ll lc]), .int .i64 draws] w fun e w' => e = .panicked [refE (if okR r = false then 1 else 2)] ∧ Below w.heap.size w w' := by
 have HP := Lib.hid hP
 have HH := Lib.hid h
 have EG := Lib.hid (enters_of Try.func107 (by kernel_rfl) rfl)
 clear hP h
 have hmf : ∀ (fn : Fn) (first cap : Array Value) (w : World), (Instr.makeFunc fn first cap).run Try.prog w = .ok (.func fn first cap) w := fun _ _ _ _ => rfl
 go_enter Try.func76, Try.ntmps76
 go_upto_region 1 with (fail)
 obtain ⟨W, hW⟩ : ∃ W, W = (w.alloc (.cells #[.int .i64 r.depth.lo, .int .i64 r.depth.hi, .int .i64 r.fall.lo, .int .i64 r.fall.hi, .int .i64 r.days, .slice fa fl fc, .slice la ll lc] 27)).alloc (.cells #[.int .i64 draws] 3) := ⟨_, rfl⟩
 have HB0 : Hid (Below w.heap.size w W) := by rw [hW]; exact ((Below.refl _ _).alloc (Nat.le_refl _) _).alloc (by simp) _
 have HXB : Hid (Blk W w.heap.size 27 #[.int .i64 r.depth.lo, .int .i64 r.depth.hi, .int .i64 r.fall.lo, .int .i64 r.fall.hi, .int .i64 r.days, .slice fa fl fc, .slice la ll lc]) := by rw [hW]; exact (Blk.new w 27 _).alloc _
 have HX3 : Hid (Blk W (w.heap.size + 1) 3 #[.int .i64 draws]) := by rw [hW]; exact Blk.new_ (by simp) 3 _
 rw [← hW]
 clear hW
 have q0 := HXB.out.cell 0
 have q1 := HXB.out.cell 1
 have q2 := HXB.out.cell 2
 have q3 := HXB.out.cell 3
 have q4 := HXB.out.cell 4
 have q5 := HXB.out.cell 5
 have q6 := HXB.out.cell 6
 have ql := HXB.out.lt
 simp at q0 q1 q2 q3 q4 q5 q6
 go_wp2_with fail
 refine (open_err 107 #[.pointer (some ⟨w.heap.size + 1, 0, none⟩)] EG.out (HP.out.grow HB0.out) (fun _ => isG_boat (w.heap.size + 1) draws HX3.out) HH.out).mono ?_
 rintro e w' ⟨rfl, hb⟩
 exact ⟨rfl, rfl, HB0.out.trans (hb.mono HB0.out.size)⟩
set_option maxRecDepth 100000 in
set_option maxHeartbeats 1600000 in
theorem boat_clash (draws : Int) (hP : RvIn w w.heap.size fa fl la ll r) (hv : okR r = true) (hi : isDrB draws = true) (ht : truthsA r.nat = []) :
  Calls Try.prog 76 #[(.agg #[.int .i64 r.depth.lo, .int .i64 r.depth.hi, .int .i64 r.fall.lo, .int .i64 r.fall.hi, .int .i64 r.days, .slice fa fl fc, .slice la ll lc]), .int .i64 draws] w fun e w' => e = .panicked [refE 10] ∧ Below w.heap.size w w' := by
 have HP := Lib.hid hP
 have HV := Lib.hid hv
 have HI := Lib.hid hi
 have HC : Hid (canB r.nat (full r.nat.lk.length) = false) := by show _ = _; rw [can_of hv, ht]; rfl
 have EG := Lib.hid (enters_of Try.func107 (by kernel_rfl) rfl)
 clear hP hv hi ht
 have hmf : ∀ (fn : Fn) (first cap : Array Value) (w : World), (Instr.makeFunc fn first cap).run Try.prog w = .ok (.func fn first cap) w := fun _ _ _ _ => rfl
 go_enter Try.func76, Try.ntmps76
 go_upto_region 1 with (fail)
 obtain ⟨W, hW⟩ : ∃ W, W = (w.alloc (.cells #[.int .i64 r.depth.lo, .int .i64 r.depth.hi, .int .i64 r.fall.lo, .int .i64 r.fall.hi, .int .i64 r.days, .slice fa fl fc, .slice la ll lc] 27)).alloc (.cells #[.int .i64 draws] 3) := ⟨_, rfl⟩
 have HB0 : Hid (Below w.heap.size w W) := by rw [hW]; exact ((Below.refl _ _).alloc (Nat.le_refl _) _).alloc (by simp) _
 have HXB : Hid (Blk W w.heap.size 27 #[.int .i64 r.depth.lo, .int .i64 r.depth.hi, .int .i64 r.fall.lo, .int .i64 r.fall.hi, .int .i64 r.days, .slice fa fl fc, .slice la ll lc]) := by rw [hW]; exact (Blk.new w 27 _).alloc _
 have HX3 : Hid (Blk W (w.heap.size + 1) 3 #[.int .i64 draws]) := by rw [hW]; exact Blk.new_ (by simp) 3 _
 rw [← hW]
 clear hW
 have q0 := HXB.out.cell 0
 have q1 := HXB.out.cell 1
 have q2 := HXB.out.cell 2
 have q3 := HXB.out.cell 3
 have q4 := HXB.out.cell 4
 have q5 := HXB.out.cell 5
 have q6 := HXB.out.cell 6
 have ql := HXB.out.lt
 simp at q0 q1 q2 q3 q4 q5 q6
 go_wp2_with fail
 refine (open_ok 107 #[.pointer (some ⟨w.heap.size + 1, 0, none⟩)] EG.out (HP.out.grow HB0.out) (fun _ => by have := isG_boat (fa := fa) (fl := fl) (fc := fc) (la := la) (ll := ll) (lc := lc) (r := r) (w.heap.size + 1) draws HX3.out; rwa [HI.out] at this) HV.out).mono ?_
 rintro e w1 ⟨d, k, rfl, hD, hK, hb0⟩
 have HB1 : Hid (Below W.heap.size W w1) := hb0
 have HD1 := Lib.hid hD
 have HK1 := Lib.hid hK
 clear hD hK hb0 q0 q1 q2 q3 q4 q5 q6 ql
 go_wp2_with fail
 refine (told_no (good_of HV.out) HC.out w1 HD1.out HK1.out).mono ?_
 rintro e w' ⟨rfl, -, hg⟩
 have hkW : W.heap.size ≤ k := HD1.out.hk
 have hb : Below W.heap.size W w' := HB1.out.trans ((Turn.of_grownK hg).below HB1.out.size (fun b e => by have e' : b = k := e; rw [e']; exact hkW))
 exact ⟨rfl, rfl, HB0.out.trans (hb.mono HB0.out.size)⟩
set_option maxRecDepth 100000 in
set_option maxHeartbeats 1600000 in
theorem boat_ok (draws : Int) (hP : RvIn w w.heap.size fa fl la ll r) (hv : okR r = true) (hi : isDrB draws = true) (ht : truthsA r.nat ≠ []) :
  Calls Try.prog 76 #[(.agg #[.int .i64 r.depth.lo, .int .i64 r.depth.hi, .int .i64 r.fall.lo, .int .i64 r.fall.hi, .int .i64 r.days, .slice fa fl fc, .slice la ll lc]), .int .i64 draws] w fun e w' => ∃ B d k, e = .returned (.pointer (some ⟨d, 0, none⟩)) ∧ w.heap.size ≤ B ∧ GauIn w' B d k fa fl fc la ll lc r.nat ∧ KeptOK w' k r.nat ∧ Below w.heap.size w w' := by
 have HP := Lib.hid hP
 have HV := Lib.hid hv
 have HI := Lib.hid hi
 have HC : Hid (canB r.nat (full r.nat.lk.length) = true) := by show _ = _; rw [can_of hv]; simp [ht]
 have EG := Lib.hid (enters_of Try.func107 (by kernel_rfl) rfl)
 clear hP hv hi ht
 have hmf : ∀ (fn : Fn) (first cap : Array Value) (w : World), (Instr.makeFunc fn first cap).run Try.prog w = .ok (.func fn first cap) w := fun _ _ _ _ => rfl
 go_enter Try.func76, Try.ntmps76
 go_upto_region 1 with (fail)
 obtain ⟨W, hW⟩ : ∃ W, W = (w.alloc (.cells #[.int .i64 r.depth.lo, .int .i64 r.depth.hi, .int .i64 r.fall.lo, .int .i64 r.fall.hi, .int .i64 r.days, .slice fa fl fc, .slice la ll lc] 27)).alloc (.cells #[.int .i64 draws] 3) := ⟨_, rfl⟩
 have HB0 : Hid (Below w.heap.size w W) := by rw [hW]; exact ((Below.refl _ _).alloc (Nat.le_refl _) _).alloc (by simp) _
 have HXB : Hid (Blk W w.heap.size 27 #[.int .i64 r.depth.lo, .int .i64 r.depth.hi, .int .i64 r.fall.lo, .int .i64 r.fall.hi, .int .i64 r.days, .slice fa fl fc, .slice la ll lc]) := by rw [hW]; exact (Blk.new w 27 _).alloc _
 have HX3 : Hid (Blk W (w.heap.size + 1) 3 #[.int .i64 draws]) := by rw [hW]; exact Blk.new_ (by simp) 3 _
 rw [← hW]
 clear hW
 have q0 := HXB.out.cell 0
 have q1 := HXB.out.cell 1
 have q2 := HXB.out.cell 2
 have q3 := HXB.out.cell 3
 have q4 := HXB.out.cell 4
 have q5 := HXB.out.cell 5
 have q6 := HXB.out.cell 6
 have ql := HXB.out.lt
 simp at q0 q1 q2 q3 q4 q5 q6
 go_wp2_with fail
 refine (open_ok 107 #[.pointer (some ⟨w.heap.size + 1, 0, none⟩)] EG.out (HP.out.grow HB0.out) (fun _ => by have := isG_boat (fa := fa) (fl := fl) (fc := fc) (la := la) (ll := ll) (lc := lc) (r := r) (w.heap.size + 1) draws HX3.out; rwa [HI.out] at this) HV.out).mono ?_
 rintro e w1 ⟨d, k, rfl, hD, hK, hb0⟩
 have HB1 : Hid (Below W.heap.size W w1) := hb0
 have HD1 := Lib.hid hD
 have HK1 := Lib.hid hK
 clear hD hK hb0 q0 q1 q2 q3 q4 q5 q6 ql
 go_wp2_with fail
 refine (told_yes (good_of HV.out) HC.out w1 HD1.out HK1.out).mono ?_
 rintro e w2 ⟨rfl, hk2, hg2⟩
 have hkW : W.heap.size ≤ k := HD1.out.hk
 have HB2 : Hid (Below W.heap.size W w2) := HB1.out.trans ((Turn.of_grownK hg2).below HB1.out.size (fun b e => by have e' : b = k := e; rw [e']; exact hkW))
 have HD2 := Lib.hid (HD1.out.turn (Turn.of_grownK hg2) (fun b e => by have e' : b = k := e; rw [e']; exact hkW) (fun e => HD1.out.kd (show d = k from e).symm))
 have HK2 := Lib.hid hk2
 clear hk2 hg2
 go_wp2
 go_ret
 exact ⟨W.heap.size, d, k, rfl, HB0.out.size, HD2.out, HK2.out, HB0.out.trans (HB2.out.mono HB0.out.size)⟩
end
end Go.Proofs.Ytiodmkokpfgkkaa
namespace Go.Proofs.Ytiodmkokpfgkkaa
open Go.RowKit Go.Hav Go.Shelf Go.Sq
attribute [local go_sem] Oper.semAt_some
theorem setN_or {f : Nat → Bool} {n : Nat} (h : f n = true) : setN f n ||| 2 ^ n = setN f (n + 1) := Nat.eq_of_testBit_eq fun j => by
 rw [Nat.testBit_or, tb_setN, tb_setN]
 by_cases e : n = j
 ·subst e
  rw [Nat.testBit_two_pow_self, h]; simp
 ·rw [Nat.testBit_two_pow_of_ne e, Bool.or_false, show decide (j < n) = decide (j < n + 1) from decide_eq_decide.2 (by omega)]
theorem setN_no {f : Nat → Bool} {n : Nat} (h : f n = false) : setN f (n + 1) = setN f n := by rw [setN, h]; simp
section
variable {fa la : Option Addr} {fl fc ll lc : Nat} {r : IRiv} {w : World}
set_option maxRecDepth 100000 in
set_option maxHeartbeats 1600000 in
theorem PDays_err (draws : Int) (hP : RvIn w w.heap.size fa fl la ll r) (h : okR r = false ∨ isDrB draws = false) :
  Calls Try.prog 22 #[(.agg #[.int .i64 r.depth.lo, .int .i64 r.depth.hi, .int .i64 r.fall.lo, .int .i64 r.fall.hi, .int .i64 r.days, .slice fa fl fc, .slice la ll lc]), .int .i64 draws] w fun e w' => e = .returned (.tuple #[.int .i64 (surelyV r draws), .int .i64 (perhapsV r draws), .int .i64 (daysE r draws)]) ∧ Below w.heap.size w w' := by
 obtain ⟨EE, hEE⟩ : ∃ EE : Int, EE = (daysE r draws : Int) := ⟨_, rfl⟩
 have hE2 : daysE r draws = if okR r = false then 1 else 2 := toldE_bad h
 have HR : Hid (Value.tuple #[.int .i64 (surelyV r draws), .int .i64 (perhapsV r draws), .int .i64 (daysE r draws)] = .tuple #[.int .i64 0, .int .i64 0, .int .i64 EE]) := by
  show _ = _
  rw [hEE]
  unfold surelyV perhapsV
  rw [if_neg (by rw [hE2]; split <;> omega), if_neg (by rw [hE2]; split <;> omega)]
  rfl
 have HEE : Hid (((if okR r = false then 1 else 2 : Int)) = EE) := by show _ = _; rw [hEE, hE2]; split <;> rfl
 have HP := Lib.hid hP
 have HH := Lib.hid h
 have EG75 := Lib.hid (enters_of Try.func75 (by kernel_rfl) rfl)
 clear hP h hEE hE2
 refine (callsIn_wide (n := 6)).1 (callsIn_of_wp_marks Try.func22 rfl trivial ?_ rfl)
 simp only [Try.ntmps22, List.size_toArray, List.length_cons, List.length_nil, Nat.reduceAdd, Nat.reduceSub, Array.replicate_succ, Array.replicate_zero, List.push_toArray, List.append_toArray, List.nil_append, List.cons_append]
 refine wpIn_wide.2 ?_
 have hmf : ∀ (fn : Fn) (first cap : Array Value) (w : World), (Instr.makeFunc fn first cap).run Try.prog w = .ok (.func fn first cap) w := fun _ _ _ _ => rfl
 go_upto_region 2 with (fail)
 obtain ⟨W, hW⟩ : ∃ W, W = (w.alloc (.cells #[.int .i64 r.depth.lo, .int .i64 r.depth.hi, .int .i64 r.fall.lo, .int .i64 r.fall.hi, .int .i64 r.days, .slice fa fl fc, .slice la ll lc] 27)).alloc (.cells #[.int .i64 0] 30) := ⟨_, rfl⟩
 obtain ⟨B2, hB2⟩ : ∃ B2, B2 = w.heap.size := ⟨_, rfl⟩
 obtain ⟨B5, hB5⟩ : ∃ B5, B5 = w.heap.size + 1 := ⟨_, rfl⟩
 have HB0 : Hid (Below w.heap.size w W) := by rw [hW]; exact ((Below.refl _ _).alloc (Nat.le_refl _) _).alloc (by simp) _
 have HXB : Hid (Blk W B2 27 #[.int .i64 r.depth.lo, .int .i64 r.depth.hi, .int .i64 r.fall.lo, .int .i64 r.fall.hi, .int .i64 r.days, .slice fa fl fc, .slice la ll lc]) := by rw [hW, hB2]; exact (Blk.new w 27 _).alloc _
 have HX5 : Hid (Blk W B5 30 #[.int .i64 0]) := by rw [hW, hB5]; exact Blk.new_ (by simp) 30 _
 have HE : Hid (w.heap.size ≤ B5 ∧ w.heap.size ≤ W.heap.size ∧ B5 < W.heap.size) := ⟨by omega, HB0.out.size, HX5.out.lt⟩
 rw [← hW, ← hB5, ← hB2]
 clear hW hB2 hB5
 have q0 := HXB.out.cell 0
 have q1 := HXB.out.cell 1
 have q2 := HXB.out.cell 2
 have q3 := HXB.out.cell 3
 have q4 := HXB.out.cell 4
 have q5 := HXB.out.cell 5
 have q6 := HXB.out.cell 6
 have ql := HXB.out.lt
 simp at q0 q1 q2 q3 q4 q5 q6
 go_wp2_with fail
 refine (boat_err draws (HP.out.grow HB0.out) HH.out).mono ?_
 rintro e w' ⟨h1, hb⟩
 rw [HEE.out] at h1
 subst h1
 clear q0 q1 q2 q3 q4 q5 q6 ql
 obtain ⟨e1, e2, _⟩ := HE.out
 refine api_panic (ds := []) (B := W.heap.size) isAns75 EG75.out (Marks.nil _ _) (HX5.out.below hb HX5.out.lt) (fun w2 hk2 hfar hbel => ?_)
 have g0 := hk2.cell 0
 simp at g0
 refine ⟨.tuple #[.int .i64 0, .int .i64 0, .int .i64 EE], by simp [results, Try.results22, go_sem, g0], by rw [HR.out], ?_⟩
 exact HB0.out.trans ((hb.mono e2).trans ((hbel w.heap.size e2 e1).mono (Nat.le_refl _)))
set_option maxRecDepth 100000 in
set_option maxHeartbeats 1600000 in
theorem PDays_clash (draws : Int) (hP : RvIn w w.heap.size fa fl la ll r) (hv : okR r = true) (hi : isDrB draws = true) (ht : truthsA r.nat = []) :
  Calls Try.prog 22 #[(.agg #[.int .i64 r.depth.lo, .int .i64 r.depth.hi, .int .i64 r.fall.lo, .int .i64 r.fall.hi, .int .i64 r.days, .slice fa fl fc, .slice la ll lc]), .int .i64 draws] w fun e w' => e = .returned (.tuple #[.int .i64 (surelyV r draws), .int .i64 (perhapsV r draws), .int .i64 (daysE r draws)]) ∧ Below w.heap.size w w' := by
 have hE2 : daysE r draws = 10 := toldE_clash hv hi ht
 have HR : Hid (Value.tuple #[.int .i64 (surelyV r draws), .int .i64 (perhapsV r draws), .int .i64 (daysE r draws)] = .tuple #[.int .i64 0, .int .i64 0, .int .i64 10]) := by
  show _ = _
  unfold surelyV perhapsV
  rw [if_neg (by rw [hE2]; omega), if_neg (by rw [hE2]; omega), hE2]
  rfl
 have HP := Lib.hid hP
 have HV := Lib.hid hv
 have HI := Lib.hid hi
 have HTT := Lib.hid ht
 have EG75 := Lib.hid (enters_of Try.func75 (by kernel_rfl) rfl)
 clear hP hv hi ht hE2
 refine (callsIn_wide (n := 6)).1 (callsIn_of_wp_marks Try.func22 rfl trivial ?_ rfl)
 simp only [Try.ntmps22, List.size_toArray, List.length_cons, List.length_nil, Nat.reduceAdd, Nat.reduceSub, Array.replicate_succ, Array.replicate_zero, List.push_toArray, List.append_toArray, List.nil_append, List.cons_append]
 refine wpIn_wide.2 ?_
 have hmf : ∀ (fn : Fn) (first cap : Array Value) (w : World), (Instr.makeFunc fn first cap).run Try.prog w = .ok (.func fn first cap) w := fun _ _ _ _ => rfl
 go_upto_region 2 with (fail)
 obtain ⟨W, hW⟩ : ∃ W, W = (w.alloc (.cells #[.int .i64 r.depth.lo, .int .i64 r.depth.hi, .int .i64 r.fall.lo, .int .i64 r.fall.hi, .int .i64 r.days, .slice fa fl fc, .slice la ll lc] 27)).alloc (.cells #[.int .i64 0] 30) := ⟨_, rfl⟩
 obtain ⟨B2, hB2⟩ : ∃ B2, B2 = w.heap.size := ⟨_, rfl⟩
 obtain ⟨B5, hB5⟩ : ∃ B5, B5 = w.heap.size + 1 := ⟨_, rfl⟩
 have HB0 : Hid (Below w.heap.size w W) := by rw [hW]; exact ((Below.refl _ _).alloc (Nat.le_refl _) _).alloc (by simp) _
 have HXB : Hid (Blk W B2 27 #[.int .i64 r.depth.lo, .int .i64 r.depth.hi, .int .i64 r.fall.lo, .int .i64 r.fall.hi, .int .i64 r.days, .slice fa fl fc, .slice la ll lc]) := by rw [hW, hB2]; exact (Blk.new w 27 _).alloc _
 have HX5 : Hid (Blk W B5 30 #[.int .i64 0]) := by rw [hW, hB5]; exact Blk.new_ (by simp) 30 _
 have HE : Hid (w.heap.size ≤ B5 ∧ w.heap.size ≤ W.heap.size ∧ B5 < W.heap.size) := ⟨by omega, HB0.out.size, HX5.out.lt⟩
 rw [← hW, ← hB5, ← hB2]
 clear hW hB2 hB5
 have q0 := HXB.out.cell 0
 have q1 := HXB.out.cell 1
 have q2 := HXB.out.cell 2
 have q3 := HXB.out.cell 3
 have q4 := HXB.out.cell 4
 have q5 := HXB.out.cell 5
 have q6 := HXB.out.cell 6
 have ql := HXB.out.lt
 simp at q0 q1 q2 q3 q4 q5 q6
 go_wp2_with fail
 refine (boat_clash draws (HP.out.grow HB0.out) HV.out HI.out HTT.out).mono ?_
 rintro e w' ⟨rfl, hb⟩
 clear q0 q1 q2 q3 q4 q5 q6 ql
 obtain ⟨e1, e2, _⟩ := HE.out
 refine api_panic (ds := []) (B := W.heap.size) isAns75 EG75.out (Marks.nil _ _) (HX5.out.below hb HX5.out.lt) (fun w2 hk2 hfar hbel => ?_)
 have g0 := hk2.cell 0
 simp at g0
 refine ⟨.tuple #[.int .i64 0, .int .i64 0, .int .i64 10], by simp [results, Try.results22, go_sem, g0], by rw [HR.out], ?_⟩
 exact HB0.out.trans ((hb.mono e2).trans ((hbel w.heap.size e2 e1).mono (Nat.le_refl _)))
set_option maxRecDepth 100000 in
set_option maxHeartbeats 1600000 in
theorem PDays_ok (m : Nat) (hP : RvIn w w.heap.size fa fl la ll r) (hv : okR r = true) (hi : isDrB (m : Int) = true) (ht : truthsA r.nat ≠ []) :
  Calls Try.prog 22 #[(.agg #[.int .i64 r.depth.lo, .int .i64 r.depth.hi, .int .i64 r.fall.lo, .int .i64 r.fall.hi, .int .i64 r.days, .slice fa fl fc, .slice la ll lc]), .int .i64 m] w fun e w' => e = .returned (.tuple #[.int .i64 (surelyV r m), .int .i64 (perhapsV r m), .int .i64 (daysE r m)]) ∧ Below w.heap.size w w' := by
 have hE2 : daysE r m = 0 := toldE_fine hv hi ht
 have HR : Hid (Value.tuple #[.int .i64 (surelyV r m), .int .i64 (perhapsV r m), .int .i64 (daysE r m)] = .tuple #[.int .i64 (surelyP r.nat m), .int .i64 (perhapsP r.nat m), .int .i64 0]) := by
  show _ = _
  unfold surelyV perhapsV
  rw [if_pos hE2, if_pos hE2, hE2]
  rfl
 have hgd := good_of hv
 have hn2 := hgd.n2
 obtain ⟨N, hN⟩ : ∃ N, N = r.nat.days := ⟨_, rfl⟩
 have hNd : r.days = (N : Int) := by
  have h := inB_iff.1 (okR_parts hv).1.2.2.1
  have : N = r.days.toNat := hN
  omega
 have hN10 : N ≤ 10 := by omega
 have HGD : Hid (r.nat.Good) := hgd
 have HND := Lib.hid hN
 have HNDD := Lib.hid hNd
 have HP := Lib.hid hP
 have HV := Lib.hid hv
 have HI := Lib.hid hi
 have HTT := Lib.hid ht
 have EG75 := Lib.hid (enters_of Try.func75 (by kernel_rfl) rfl)
 clear hP hv hi ht hE2 hgd hn2 hN hNd
 refine (callsIn_wide (n := 6)).1 (callsIn_of_wp_marks Try.func22 rfl trivial ?_ rfl)
 simp only [Try.ntmps22, List.size_toArray, List.length_cons, List.length_nil, Nat.reduceAdd, Nat.reduceSub, Array.replicate_succ, Array.replicate_zero, List.push_toArray, List.append_toArray, List.nil_append, List.cons_append]
 refine wpIn_wide.2 ?_
 have hmf : ∀ (fn : Fn) (first cap : Array Value) (w : World), (Instr.makeFunc fn first cap).run Try.prog w = .ok (.func fn first cap) w := fun _ _ _ _ => rfl
 go_upto_region 2 with (fail)
 obtain ⟨W, hW⟩ : ∃ W, W = (w.alloc (.cells #[.int .i64 r.depth.lo, .int .i64 r.depth.hi, .int .i64 r.fall.lo, .int .i64 r.fall.hi, .int .i64 r.days, .slice fa fl fc, .slice la ll lc] 27)).alloc (.cells #[.int .i64 0] 30) := ⟨_, rfl⟩
 obtain ⟨B2, hB2⟩ : ∃ B2, B2 = w.heap.size := ⟨_, rfl⟩
 obtain ⟨B5, hB5⟩ : ∃ B5, B5 = w.heap.size + 1 := ⟨_, rfl⟩
 have HB0 : Hid (Below w.heap.size w W) := by rw [hW]; exact ((Below.refl _ _).alloc (Nat.le_refl _) _).alloc (by simp) _
 have HXB : Hid (Blk W B2 27 #[.int .i64 r.depth.lo, .int .i64 r.depth.hi, .int .i64 r.fall.lo, .int .i64 r.fall.hi, .int .i64 r.days, .slice fa fl fc, .slice la ll lc]) := by rw [hW, hB2]; exact (Blk.new w 27 _).alloc _
 have HX5 : Hid (Blk W B5 30 #[.int .i64 0]) := by rw [hW, hB5]; exact Blk.new_ (by simp) 30 _
 have HE : Hid (w.heap.size ≤ B5 ∧ w.heap.size ≤ W.heap.size ∧ B5 < W.heap.size) := ⟨by omega, HB0.out.size, HX5.out.lt⟩
 rw [← hW, ← hB5, ← hB2]
 clear hW hB2 hB5
 have q0 := HXB.out.cell 0
 have q1 := HXB.out.cell 1
 have q2 := HXB.out.cell 2
 have q3 := HXB.out.cell 3
 have q4 := HXB.out.cell 4
 have q5 := HXB.out.cell 5
 have q6 := HXB.out.cell 6
 have ql := HXB.out.lt
 simp at q0 q1 q2 q3 q4 q5 q6
 go_wp2_with fail
 refine (boat_ok (m : Int) (HP.out.grow HB0.out) HV.out HI.out HTT.out).mono ?_
 rintro e w2 ⟨B, d, k, rfl, hBW, hD, hK, hb⟩
 have HB2 : Hid (Below W.heap.size W w2) := hb
 have HD2 := Lib.hid hD
 have HK2 := Lib.hid hK
 have hBk : B ≤ k := hD.hk
 have y4 := (HXB.out.below HB2.out HXB.out.lt).cell 4
 have yl := (HXB.out.below HB2.out HXB.out.lt).lt
 simp at y4
 rw [HNDD.out] at y4
 clear hD hK hb q0 q1 q2 q3 q4 q5 q6 ql
 have hw0 : IntKind.i64.wrap ((N : Int) + 1) = (N : Int) + 1 := IntWalk.i64_in _ (by omega)
 go_wp2
 clear y4 yl
 obtain ⟨f, hf⟩ : ∃ f, f = fun d => bearsP r.nat m d == 2 := ⟨_, rfl⟩
 obtain ⟨g, hg⟩ : ∃ g, g = fun d => bearsP r.nat m d != 0 := ⟨_, rfl⟩
 have HFG : Hid (surelyP r.nat m = setN f (N + 1) ∧ perhapsP r.nat m = setN g (N + 1)) := ⟨by rw [surelyP, hf, HND.out], by rw [perhapsP, hg, HND.out]⟩
 have HFV : Hid (∀ n, f n = (bearsP r.nat m n == 2) ∧ g n = (bearsP r.nat m n != 0)) := fun n => ⟨by rw [hf], by rw [hg]⟩
 clear hf hg
 go_loopw [8, 9, 21] (fun a b i wr => ∃ n : Nat, n ≤ N + 1 ∧ i = .int .i64 n ∧ a = .int .i64 (setN f n : Nat) ∧ b = .int .i64 (setN g n : Nat) ∧ Hid (KeptOK wr k r.nat) ∧ Hid (Turn (fun x => x = k) w2 wr)) (fun _ _ i _ => N + 1 - (intOf i).toNat)
 case atStart => exact ⟨0, by omega, rfl, rfl, rfl, HK2, Turn.refl _ _⟩
 case round =>
  obtain ⟨n, hn, rfl, rfl, rfl, HKR, HTR⟩ := hrel
  by_cases hlt : n < N + 1
  ·have HDR : Hid (GauIn wr B d k fa fl fc la ll lc r.nat) := HD2.out.turn HTR.out (fun b e => by have e' : b = k := e; rw [e']; exact hBk) (fun e => HD2.out.kd (show d = k from e).symm)
   have hnN : n ≤ r.nat.days := by rw [← HND.out]; omega
   have hA := setN_lt f n
   have hB := setN_lt g n
   have h2k : 2 ^ n ≤ 1024 := Nat.pow_le_pow_right (n := 2) (by omega) (show n ≤ 10 by omega)
   have h2p : 1 ≤ 2 ^ n := Nat.two_pow_pos n
   have hw2 : IntKind.i64.wrap (2 ^ n) = 2 ^ n := IntWalk.i64_in _ (by have := pow_cast n; omega)
   have HA1 : Hid (f n = true → bits BinOp.or IntKind.i64 ((setN f n : Nat) : Int) (2 ^ n) = ((setN f (n + 1) : Nat) : Int)) := fun h => by
    have h2 := or_i64 (setN f n) (2 ^ n) (by omega) (by omega)
    rw [pow_cast, setN_or h] at h2
    exact h2
   have HB1 : Hid (g n = true → bits BinOp.or IntKind.i64 ((setN g n : Nat) : Int) (2 ^ n) = ((setN g (n + 1) : Nat) : Int)) := fun h => by
    have h2 := or_i64 (setN g n) (2 ^ n) (by omega) (by omega)
    rw [pow_cast, setN_or h] at h2
    exact h2
   have HA0 : Hid (f n = false → setN f n = setN f (n + 1)) := fun h => (setN_no h).symm
   have HB0' : Hid (g n = false → setN g n = setN g (n + 1)) := fun h => (setN_no h).symm
   go_wp2_with fail
   refine (bears_any HGD.out m n hnN wr HDR.out HKR.out).mono ?_
   obtain ⟨v, hv⟩ : ∃ v, bearsP r.nat m n = v := ⟨_, rfl⟩
   have hv3 : v = 2 ∨ v = 1 ∨ v = 0 := (by
    rw [← hv]
    unfold bearsP
    split
    ·omega
    ·split <;> omega)
   have hfv := HFV.out n
   rw [hv] at hfv ⊢
   rintro e w3 ⟨rfl, hk3, hg3⟩
   have HK3 := Lib.hid hk3
   have HT3 : Hid (Turn (fun x => x = k) w2 w3) := HTR.out.trans (Turn.of_grownK hg3)
   clear hk3 hg3 hA hB hv
   rcases hv3 with rfl | rfl | rfl
   ·have ha := HA1.out (by rw [hfv.1]; rfl)
    have hb := HB1.out (by rw [hfv.2]; rfl)
    clear hfv
    go_wp2
    go_roundw
    case rel => exact ⟨n + 1, by omega, by go_num, rfl, rfl, HK3, HT3⟩
    case measure => simp [intOf]; omega
   ·have ha := HA0.out (by rw [hfv.1]; rfl)
    have hb := HB1.out (by rw [hfv.2]; rfl)
    clear hfv
    go_wp2
    go_roundw
    case rel => exact ⟨n + 1, by omega, by go_num, by rw [← ha], rfl, HK3, HT3⟩
    case measure => simp [intOf]; omega
   ·have ha := HA0.out (by rw [hfv.1]; rfl)
    have hb := HB0'.out (by rw [hfv.2]; rfl)
    clear hfv
    go_wp2
    go_roundw
    case rel => exact ⟨n + 1, by omega, by go_num, by rw [← ha], by rw [← hb], HK3, HT3⟩
    case measure => simp [intOf]; omega
  ·obtain rfl : n = N + 1 := by omega
   have hbX : Below W.heap.size W wr := HB2.out.trans (HTR.out.below HB2.out.size (fun b e => by have e' : b = k := e; omega))
   have HY5 : Hid (Blk wr B5 30 #[.int .i64 0]) := HX5.out.below hbX HX5.out.lt
   have c2 : wr.cell? ⟨B5, 0, none⟩ = some (.int .i64 0) := HY5.out.cell 0
   have f2 := HY5.out.frozen 0
   have l5 := HY5.out.lt
   go_wp2
   obtain ⟨W9, hW9⟩ : ∃ W9, W9 = wr.setCell ⟨B5, 0, none⟩ (.int .i64 0) := ⟨_, rfl⟩
   rw [← hW9]
   have HT5 : Blk W9 B5 30 #[.int .i64 0] := by rw [hW9]; exact HY5.out.set_ 0 _
   obtain ⟨e1, e2, _⟩ := HE.out
   have hB9 : Below w.heap.size w W9 := by rw [hW9]; exact setCell_below (HB0.out.trans (hbX.mono e2)) e1 _ _
   refine api_ret (ds := []) (B := W.heap.size) isAns75 EG75.out (Marks.nil _ _) (fun w4 hk hbel => ?_)
   have g0 := (hk _ _ _ HT5).cell 0
   simp at g0
   have hfg := HFG.out
   rw [hfg.1, hfg.2] at HR
   refine ⟨.tuple #[.int .i64 (setN f (N + 1) : Nat), .int .i64 (setN g (N + 1) : Nat), .int .i64 0], by simp [results, Try.results22, go_sem, g0], by rw [HR.out], ?_⟩
   exact hB9.trans (hbel w.heap.size e2)
theorem PDays_any (draws : Int) (hP : RvIn w w.heap.size fa fl la ll r) : Calls Try.prog 22 #[(.agg #[.int .i64 r.depth.lo, .int .i64 r.depth.hi, .int .i64 r.fall.lo, .int .i64 r.fall.hi, .int .i64 r.days, .slice fa fl fc, .slice la ll lc]), .int .i64 draws] w fun e w' => e = .returned (.tuple #[.int .i64 (surelyV r draws), .int .i64 (perhapsV r draws), .int .i64 (daysE r draws)]) ∧ Below w.heap.size w w' := by
 cases hv : okR r
 ·exact PDays_err draws hP (.inl hv)
 cases hi : isDrB draws
 ·exact PDays_err draws hP (.inr hi)
 by_cases ht : truthsA r.nat = []
 ·exact PDays_clash draws hP hv hi ht
 ·obtain ⟨m, rfl⟩ : ∃ m : Nat, draws = m := ⟨draws.toNat, by have h := hi; unfold isDrB at h; have := inB_iff.1 h; omega⟩
  exact PDays_ok m hP hv hi ht
end
end Go.Proofs.Ytiodmkokpfgkkaa
namespace Go.Proofs.Ytiodmkokpfgkkaa
open Go.RowKit Go.Hav Go.Shelf Go.Sq
attribute [local go_sem] Oper.semAt_some
theorem infoI3 : (Try.prog.info? 3).map (fun i => (i.zero, i.size, i.bytes)) = some (some (.int .i64 0), 1, 8) := by kernel_rfl
def daysL (r : Riv) (m n : Nat) : List Nat := (List.range n).map fun d => bearsP r m d
def natF (n : Nat) : List Value := [.int .i64 n]
theorem daysL_next (r : Riv) (m n : Nat) : (daysL r m (n + 1)).flatMap natF = (daysL r m n).flatMap natF ++ [.int .i64 (bearsP r m n)] := by
 unfold daysL natF
 rw [List.range_succ]
 simp
section
variable {B d k : Nat} {fa la : Option Addr} {fl fc ll lc : Nat} {r : Riv}
set_option maxRecDepth 100000 in
set_option maxHeartbeats 1600000 in
theorem days_any (hv : r.Good) (m : Nat) (w : World) (hD : GauIn w B d k fa fl fc la ll lc r) (hK : KeptOK w k r) :
  Calls Try.prog 79 #[(.pointer (some ⟨d, 0, none⟩)), .int .i64 m] w fun e w' => ∃ v, e = .returned v ∧ w'.ownsRow w.heap.size 3 1 v (r.days + 1) ((daysL r m (r.days + 1)).flatMap natF) ∧ KeptOK w' k r ∧ Turn (fun x => x = k) w w' := by
 have HV := Lib.hid hv
 have HD := Lib.hid hD
 have HK := Lib.hid hK
 have hBk : B ≤ k := hD.hk
 have hkw : k < w.heap.size := by obtain ⟨o, ho, _⟩ := hK.lt; exact (Array.getElem?_eq_some_iff.1 ho).1
 have p4 : w.cell? ⟨d, 4, none⟩ = some (.int .i64 r.days) := hD.blk.cell 4
 have pl := hD.blk.lt
 have hn2 := hv.n2
 obtain ⟨N, hN⟩ : ∃ N, r.days = N := ⟨_, rfl⟩
 have HN := Lib.hid hN
 rw [hN] at p4 hn2
 have hw0 : IntKind.i64.wrap ((N : Int) + 1) = (N : Int) + 1 := IntWalk.i64_in _ (by omega)
 obtain ⟨i0, hi, hz0, hz1, hz2⟩ := info_parts infoI3
 have HI := Lib.hid hi
 have HI0 := Lib.hid hz0
 have HI1 := Lib.hid hz1
 have HI2 := Lib.hid hz2
 rw [hN]
 clear hi hz0 hz1 hz2 hv hD hK hN
 go_enter Try.func79, Try.ntmps79
 go_wp2
 clear p4 hw0
 go_loopw [4, 12] (fun u i wr => ∃ (n : Nat) (v0 : Value), v0 = u ∧ n ≤ N + 1 ∧ i = .int .i64 n ∧ Hid (wr.ownsRow w.heap.size 3 1 v0 n ((daysL r m n).flatMap natF)) ∧ Hid (KeptOK wr k r) ∧ Hid (Turn (fun x => x = k ∨ w.heap.size ≤ x) w wr)) (fun _ i _ => N + 1 - (intOf i).toNat)
 case atStart => exact ⟨0, _, rfl, by omega, rfl, World.ownsRow_nil _ _ _ _, HK, Turn.refl _ _⟩
 case round =>
  obtain ⟨n, v0, hv0, hn, rfl, HO, HKR, HTR⟩ := hrel
  subst hv0
  have hsr := HTR.out.size
  by_cases hlt : n < N + 1
  ·have HDR : Hid (GauIn wr B d k fa fl fc la ll lc r) := HD.out.turn HTR.out (fun b e => by have e' : b = k ∨ w.heap.size ≤ b := e; have := HD.out.hB; omega) (fun e => by have e' : d = k ∨ w.heap.size ≤ d := e; have := HD.out.kd; have := HD.out.blk.lt; omega)
   have hnN : n ≤ r.days := by rw [HN.out]; omega
   go_wp2_with fail
   refine (bears_any HV.out m n hnN wr HDR.out HKR.out).mono ?_
   obtain ⟨x, hx⟩ : ∃ x, bearsP r m n = x := ⟨_, rfl⟩
   have HNX : Hid ((daysL r m (n + 1)).flatMap natF = (daysL r m n).flatMap natF ++ [.int .i64 x]) := by show _ = _; rw [daysL_next, hx]
   rw [hx]
   rintro e w3 ⟨rfl, hk3, hg3⟩
   have HK3 := Lib.hid hk3
   have HT3 : Hid (Turn (fun x => x = k ∨ w.heap.size ≤ x) w w3) := HTR.out.trans ((Turn.of_grownK hg3).mono fun _ h => .inl h)
   have hs3 := HT3.out.size
   have HO3 : Hid (w3.ownsRow w.heap.size 3 1 v0 n ((daysL r m n).flatMap natF)) := own_keep HO.out fun g cs _ hb => hb.grown hg3 (fun e => HKR.out.ne_blk hb (Option.some.inj e).symm)
   have HOWN := Lib.hid (own_below (w' := w3.alloc (.cells #[.int .i64 x] 3)) HO3.out ((Below.refl w3.heap.size w3).alloc (Nat.le_refl _) _))
   clear hk3 hg3 hx
   go_wp2_with (at_builtin; refine wpList_append_own _ rfl _ _ 47 rfl w.heap.size 3 i0 _ 1 8 Try.underlying47 HI.out HI0.out HI1.out HI2.out rfl (by decide) _ _ _ rfl HOWN.out ⟨w3.heap.size, 0, none⟩ 1 1 [.int .i64 x] rfl rfl (news_block (Blk.new w3 3 _)) (by simp [Value.oneCell']) (by unfold maxLen; omega) (by omega) (by simp; omega) ?_)
   intro v' w5 hown5 hgrow5 _
   have hblk : ∀ g, v0.ownBlock = some g → w.heap.size ≤ g ∧ ∃ cs, Blk (w3.alloc (.cells #[.int .i64 x] 3)) g 3 cs := fun g hg => own_block HOWN.out hg
   have hA : Turn (fun _ => False) w3 (w3.alloc (.cells #[.int .i64 x] 3)) := (Turn.refl _ _).alloc _
   have HK5 : Hid (KeptOK w5 k r) := (HK3.out.turn hA (fun _ _ h => h.elim)).keepM (fun g es cl hg => (hgrow5.block g (Array.getElem?_eq_some_iff.1 hg).1 (fun e => by
    obtain ⟨_, cs, h2⟩ := hblk g e.symm
    rw [show _ = _ from h2] at hg
    cases hg)).trans hg)
   have HT5 : Hid (Turn (fun x => x = k ∨ w.heap.size ≤ x) w w5) := (HT3.out.trans (hA.mono fun _ h => h.elim)).trans (Turn.of_grown hgrow5 (fun q e _ => .inr (hblk q e).1))
   have HO5 : Hid (w5.ownsRow w.heap.size 3 1 v' (n + 1) ((daysL r m (n + 1)).flatMap natF)) := by rw [HNX.out]; exact hown5
   clear hown5 hgrow5 hblk hA
   go_wp2
   go_roundw
   case rel => exact ⟨n + 1, _, rfl, by omega, by go_num, HO5, HK5, HT5⟩
   case measure => simp [intOf]; omega
  ·obtain rfl : n = N + 1 := by omega
   go_wp2
   go_ret
   have t := HTR.out
   exact ⟨_, rfl, HO.out, HKR.out, ⟨t.os, t.tape, t.output, t.size, fun b hb hn => t.block b hb (fun e => by
    have e' : b = k ∨ w.heap.size ≤ b := e
    rcases e' with e' | e'
    ·exact hn e'
    ·omega)⟩⟩
end
section
variable {f n c : Nat} {cap : Array Value} {A : Option Addr} {xs : List Nat} {w : World} {S : Nat → Prop}
/-- What the search for the last leaves. -/
def lastEnd (L : Nat) : Ending := if L = 0 then .panicked [refE 4] else .returned (.int .i64 ((L : Int) - 1))
theorem lastN_le (g : Nat → Bool) : ∀ n, lastN g n ≤ n
 | 0 => Nat.le_refl _
 | n + 1 => by
  have := lastN_le g n
  rw [lastN]
  split <;> omega
set_option maxRecDepth 100000 in
set_option maxHeartbeats 1600000 in
theorem last_any (ef : ∀ args w, (callFunc f args).run Try.prog w = .ok (.enter f args) w) (hn : xs.length = n) (hn2 : n ≤ 1000) (hS : ∀ b, S b → b < w.heap.size) (St : Nat → World → Prop) (ans : Nat → Bool)
  (hkeep : ∀ j a b, St j a → Turn (fun _ => False) a b → St j b) (hrd : ∀ j a, St j a → RdG natF 1 a a.heap.size A xs)
  (hcall : ∀ j x a, xs[j]? = some x → St j a → Calls Try.prog f (#[.int .i64 x] ++ cap) a fun e w' => e = .returned (.bool (ans j)) ∧ St (j + 1) w' ∧ Turn S a w') (h0 : St 0 w) :
  Calls Try.prog 78 #[.slice A n c, .agg #[.func (.func f) #[] cap]] w fun e w' => e = lastEnd (lastN ans n) ∧ Turn S w w' := by
 have HSS := Lib.hid hS
 have HKP := Lib.hid hkeep
 have HRD := Lib.hid hrd
 have HCL := Lib.hid hcall
 have HNX := Lib.hid hn
 clear hS hkeep hrd hcall hn
 go_enter Try.func78, Try.ntmps78
 go_upto_region 1 with (fail)
 obtain ⟨W, hW⟩ : ∃ W, W = w.alloc (.cells #[.func (.func f) #[] cap] 110) := ⟨_, rfl⟩
 have HX : Hid (Blk W w.heap.size 110 #[.func (.func f) #[] cap]) := by rw [hW]; exact Blk.new w 110 _
 have HT0 : Hid (Turn (fun _ => False) w W) := by rw [hW]; exact (Turn.refl _ _).alloc _
 have HST0 : Hid (St 0 W) := HKP.out 0 _ _ h0 HT0.out
 rw [← hW]
 clear hW h0
 go_wp2
 go_loopw [5, 10] (fun a i wr => ∃ j : Nat, j ≤ n ∧ i = .int .i64 j ∧ a = .int .i64 ((lastN ans j : Int) - 1) ∧ Hid (St j wr) ∧ Hid (Turn S W wr)) (fun _ i _ => n - (intOf i).toNat)
 case atStart => exact ⟨0, Nat.zero_le _, rfl, rfl, HST0, Turn.refl _ _⟩
 case round =>
  obtain ⟨j, hj, rfl, rfl, HSJ, HTJ⟩ := hrel
  by_cases hlt : j < n
  ·obtain ⟨x, hx⟩ : ∃ x, xs[j]? = some x := ⟨_, List.getElem?_eq_getElem (by rw [HNX.out]; exact hlt)⟩
   obtain ⟨g, off, hA, hgl, hc⟩ := HRD.out j wr HSJ.out j x hx
   have hc0 := hc 0 _ rfl
   simp only [Nat.mul_one, Nat.add_zero] at hc0
   subst hA
   have hXr : Blk wr w.heap.size 110 #[.func (.func f) #[] cap] := HX.out.turn HTJ.out (fun e => by have := HSS.out _ e; omega)
   have z0 := hXr.cell 0
   have zl := hXr.lt
   simp at z0
   have HXX := Lib.hid hx
   clear hc hXr hx
   go_wp2_with fail
   refine (HCL.out j x wr HXX.out HSJ.out).mono ?_
   rintro e w' ⟨rfl, hs, ht⟩
   have HS2 := Lib.hid hs
   have HT2 : Hid (Turn S W w') := HTJ.out.trans ht
   clear hs ht hc0 z0 zl
   have hle := lastN_le ans j
   cases ha : ans j
   ·have HL : Hid (lastN ans j = lastN ans (j + 1)) := by show _ = _; rw [lastN, ha]; simp
    go_wp2
    go_roundw
    case rel => exact ⟨j + 1, by omega, by go_num, by rw [HL.out], HS2, HT2⟩
    case measure => simp [intOf]; omega
   ·have HL : Hid (lastN ans (j + 1) = j + 1) := by show _ = _; rw [lastN, ha]; simp
    go_wp2
    go_roundw
    case rel => exact ⟨j + 1, by omega, by go_num, by rw [HL.out]; congr 1; omega, HS2, HT2⟩
    case measure => simp [intOf]; omega
  ·obtain rfl : n = j := by omega
   obtain ⟨L, hL⟩ : ∃ L, lastN ans n = L := ⟨_, rfl⟩
   have hLn : L ≤ n := by rw [← hL]; exact lastN_le ans n
   have HTF : Hid (Turn S w wr) := (HT0.out.mono fun _ h => h.elim).trans HTJ.out
   have HLL := Lib.hid hL
   rw [hL]
   clear hL
   by_cases hz : L = 0
   ·subst hz
    go_wp2_with fail
    refine (must_any false 4 wr).mono ?_
    rintro e w' ⟨rfl, rfl⟩
    exact ⟨rfl, by rw [HLL.out]; rfl, HTF.out⟩
   ·have hge : decide ((1 : Int) ≤ (L : Int)) = true := by simp; omega
    go_wp2_with fail
    refine (must_any true 4 wr).mono ?_
    rintro e w' ⟨rfl, rfl⟩
    go_wp2
    go_ret
    exact ⟨by rw [HLL.out, lastEnd, if_neg hz]; rfl, HTF.out⟩
end
end Go.Proofs.Ytiodmkokpfgkkaa
namespace Go.Proofs.Ytiodmkokpfgkkaa
open Go.RowKit Go.Hav Go.Shelf Go.Sq
attribute [local go_sem] Oper.semAt_some
section
variable {fa la : Option Addr} {fl fc ll lc : Nat} {r : IRiv} {w : World}
set_option maxRecDepth 100000 in
set_option maxHeartbeats 1600000 in
theorem PLast_err (draws : Int) (hP : RvIn w w.heap.size fa fl la ll r) (h : okR r = false ∨ isDrB draws = false) :
  Calls Try.prog 26 #[(.agg #[.int .i64 r.depth.lo, .int .i64 r.depth.hi, .int .i64 r.fall.lo, .int .i64 r.fall.hi, .int .i64 r.days, .slice fa fl fc, .slice la ll lc]), .int .i64 draws] w fun e w' => e = .returned (.tuple #[.int .i64 (lastV r draws), .int .i64 (lastE r draws)]) ∧ Below w.heap.size w w' := by
 obtain ⟨EE, hEE⟩ : ∃ EE : Int, EE = (daysE r draws : Int) := ⟨_, rfl⟩
 have hE2 : daysE r draws = if okR r = false then 1 else 2 := toldE_bad h
 have hne : daysE r draws ≠ 0 := by rw [hE2]; split <;> omega
 have hE3 : lastE r draws = daysE r draws := by unfold lastE; rw [if_neg hne]
 have HR : Hid (Value.tuple #[.int .i64 (lastV r draws), .int .i64 (lastE r draws)] = .tuple #[.int .i64 0, .int .i64 EE]) := by
  show _ = _
  unfold lastV
  rw [hE3, if_neg hne, hEE]
  rfl
 have HEE : Hid (((if okR r = false then 1 else 2 : Int)) = EE) := by show _ = _; rw [hEE, hE2]; split <;> rfl
 have HP := Lib.hid hP
 have HH := Lib.hid h
 have EG81 := Lib.hid (enters_of Try.func81 (by kernel_rfl) rfl)
 clear hP h hEE hE2 hne hE3
 refine (callsIn_wide (n := 6)).1 (callsIn_of_wp_marks Try.func26 rfl trivial ?_ rfl)
 simp only [Try.ntmps26, List.size_toArray, List.length_cons, List.length_nil, Nat.reduceAdd, Nat.reduceSub, Array.replicate_succ, Array.replicate_zero, List.push_toArray, List.append_toArray, List.nil_append, List.cons_append]
 refine wpIn_wide.2 ?_
 have hmf : ∀ (fn : Fn) (first cap : Array Value) (w : World), (Instr.makeFunc fn first cap).run Try.prog w = .ok (.func fn first cap) w := fun _ _ _ _ => rfl
 go_upto_region 2 with (fail)
 obtain ⟨W, hW⟩ : ∃ W, W = (w.alloc (.cells #[.int .i64 r.depth.lo, .int .i64 r.depth.hi, .int .i64 r.fall.lo, .int .i64 r.fall.hi, .int .i64 r.days, .slice fa fl fc, .slice la ll lc] 27)).alloc (.cells #[.int .i64 0] 30) := ⟨_, rfl⟩
 obtain ⟨B2, hB2⟩ : ∃ B2, B2 = w.heap.size := ⟨_, rfl⟩
 obtain ⟨B5, hB5⟩ : ∃ B5, B5 = w.heap.size + 1 := ⟨_, rfl⟩
 have HB0 : Hid (Below w.heap.size w W) := by rw [hW]; exact ((Below.refl _ _).alloc (Nat.le_refl _) _).alloc (by simp) _
 have HXB : Hid (Blk W B2 27 #[.int .i64 r.depth.lo, .int .i64 r.depth.hi, .int .i64 r.fall.lo, .int .i64 r.fall.hi, .int .i64 r.days, .slice fa fl fc, .slice la ll lc]) := by rw [hW, hB2]; exact (Blk.new w 27 _).alloc _
 have HX5 : Hid (Blk W B5 30 #[.int .i64 0]) := by rw [hW, hB5]; exact Blk.new_ (by simp) 30 _
 have HE : Hid (w.heap.size ≤ B5 ∧ w.heap.size ≤ W.heap.size ∧ B5 < W.heap.size) := ⟨by omega, HB0.out.size, HX5.out.lt⟩
 rw [← hW, ← hB5, ← hB2]
 clear hW hB2 hB5
 have q0 := HXB.out.cell 0
 have q1 := HXB.out.cell 1
 have q2 := HXB.out.cell 2
 have q3 := HXB.out.cell 3
 have q4 := HXB.out.cell 4
 have q5 := HXB.out.cell 5
 have q6 := HXB.out.cell 6
 have ql := HXB.out.lt
 simp at q0 q1 q2 q3 q4 q5 q6
 go_wp2_with fail
 refine (boat_err draws (HP.out.grow HB0.out) HH.out).mono ?_
 rintro e w' ⟨h1, hb⟩
 rw [HEE.out] at h1
 subst h1
 clear q0 q1 q2 q3 q4 q5 q6 ql
 obtain ⟨e1, e2, _⟩ := HE.out
 refine api_panic (ds := []) (B := W.heap.size) isAns81 EG81.out (Marks.nil _ _) (HX5.out.below hb HX5.out.lt) (fun w2 hk2 hfar hbel => ?_)
 have g0 := hk2.cell 0
 simp at g0
 refine ⟨.tuple #[.int .i64 0, .int .i64 EE], by simp [results, Try.results26, go_sem, g0], by rw [HR.out], ?_⟩
 exact HB0.out.trans ((hb.mono e2).trans ((hbel w.heap.size e2 e1).mono (Nat.le_refl _)))
set_option maxRecDepth 100000 in
set_option maxHeartbeats 1600000 in
theorem PLast_clash (draws : Int) (hP : RvIn w w.heap.size fa fl la ll r) (hv : okR r = true) (hi : isDrB draws = true) (ht : truthsA r.nat = []) :
  Calls Try.prog 26 #[(.agg #[.int .i64 r.depth.lo, .int .i64 r.depth.hi, .int .i64 r.fall.lo, .int .i64 r.fall.hi, .int .i64 r.days, .slice fa fl fc, .slice la ll lc]), .int .i64 draws] w fun e w' => e = .returned (.tuple #[.int .i64 (lastV r draws), .int .i64 (lastE r draws)]) ∧ Below w.heap.size w w' := by
 have hE2 : daysE r draws = 10 := toldE_clash hv hi ht
 have hE3 : lastE r draws = 10 := by unfold lastE; rw [if_neg (by rw [hE2]; omega), hE2]
 have HR : Hid (Value.tuple #[.int .i64 (lastV r draws), .int .i64 (lastE r draws)] = .tuple #[.int .i64 0, .int .i64 10]) := by
  show _ = _
  unfold lastV
  rw [hE3, if_neg (by omega)]
  rfl
 have HP := Lib.hid hP
 have HV := Lib.hid hv
 have HI := Lib.hid hi
 have HTT := Lib.hid ht
 have EG81 := Lib.hid (enters_of Try.func81 (by kernel_rfl) rfl)
 clear hP hv hi ht hE2 hE3
 refine (callsIn_wide (n := 6)).1 (callsIn_of_wp_marks Try.func26 rfl trivial ?_ rfl)
 simp only [Try.ntmps26, List.size_toArray, List.length_cons, List.length_nil, Nat.reduceAdd, Nat.reduceSub, Array.replicate_succ, Array.replicate_zero, List.push_toArray, List.append_toArray, List.nil_append, List.cons_append]
 refine wpIn_wide.2 ?_
 have hmf : ∀ (fn : Fn) (first cap : Array Value) (w : World), (Instr.makeFunc fn first cap).run Try.prog w = .ok (.func fn first cap) w := fun _ _ _ _ => rfl
 go_upto_region 2 with (fail)
 obtain ⟨W, hW⟩ : ∃ W, W = (w.alloc (.cells #[.int .i64 r.depth.lo, .int .i64 r.depth.hi, .int .i64 r.fall.lo, .int .i64 r.fall.hi, .int .i64 r.days, .slice fa fl fc, .slice la ll lc] 27)).alloc (.cells #[.int .i64 0] 30) := ⟨_, rfl⟩
 obtain ⟨B2, hB2⟩ : ∃ B2, B2 = w.heap.size := ⟨_, rfl⟩
 obtain ⟨B5, hB5⟩ : ∃ B5, B5 = w.heap.size + 1 := ⟨_, rfl⟩
 have HB0 : Hid (Below w.heap.size w W) := by rw [hW]; exact ((Below.refl _ _).alloc (Nat.le_refl _) _).alloc (by simp) _
 have HXB : Hid (Blk W B2 27 #[.int .i64 r.depth.lo, .int .i64 r.depth.hi, .int .i64 r.fall.lo, .int .i64 r.fall.hi, .int .i64 r.days, .slice fa fl fc, .slice la ll lc]) := by rw [hW, hB2]; exact (Blk.new w 27 _).alloc _
 have HX5 : Hid (Blk W B5 30 #[.int .i64 0]) := by rw [hW, hB5]; exact Blk.new_ (by simp) 30 _
 have HE : Hid (w.heap.size ≤ B5 ∧ w.heap.size ≤ W.heap.size ∧ B5 < W.heap.size) := ⟨by omega, HB0.out.size, HX5.out.lt⟩
 rw [← hW, ← hB5, ← hB2]
 clear hW hB2 hB5
 have q0 := HXB.out.cell 0
 have q1 := HXB.out.cell 1
 have q2 := HXB.out.cell 2
 have q3 := HXB.out.cell 3
 have q4 := HXB.out.cell 4
 have q5 := HXB.out.cell 5
 have q6 := HXB.out.cell 6
 have ql := HXB.out.lt
 simp at q0 q1 q2 q3 q4 q5 q6
 go_wp2_with fail
 refine (boat_clash draws (HP.out.grow HB0.out) HV.out HI.out HTT.out).mono ?_
 rintro e w' ⟨rfl, hb⟩
 clear q0 q1 q2 q3 q4 q5 q6 ql
 obtain ⟨e1, e2, _⟩ := HE.out
 refine api_panic (ds := []) (B := W.heap.size) isAns81 EG81.out (Marks.nil _ _) (HX5.out.below hb HX5.out.lt) (fun w2 hk2 hfar hbel => ?_)
 have g0 := hk2.cell 0
 simp at g0
 refine ⟨.tuple #[.int .i64 0, .int .i64 10], by simp [results, Try.results26, go_sem, g0], by rw [HR.out], ?_⟩
 exact HB0.out.trans ((hb.mono e2).trans ((hbel w.heap.size e2 e1).mono (Nat.le_refl _)))
set_option maxRecDepth 100000 in
set_option maxHeartbeats 1600000 in
theorem is82 (x : Nat) (w : World) : Calls Try.prog 82 #[.int .i64 x] w fun e w' => e = .returned (.bool (x != 0)) ∧ w' = w := by
 go_enter Try.func82, Try.ntmps82
 go_wp2
 go_ret
 refine ⟨?_, rfl⟩
 cases x <;> rfl
theorem daysL_at {r : Riv} {m n j x : Nat} (h : (daysL r m n)[j]? = some x) : bearsP r m j = x := by
 have hl := (List.getElem?_eq_some_iff.1 h).1
 have hj : j < n := by simpa [daysL] using hl
 unfold daysL at h
 rw [List.getElem?_map, List.getElem?_range hj] at h
 simpa using h
theorem daysL_len (r : Riv) (m n : Nat) : (daysL r m n).length = n := by simp [daysL]
set_option maxRecDepth 100000 in
set_option maxHeartbeats 1600000 in
theorem PLast_ok (m : Nat) (hP : RvIn w w.heap.size fa fl la ll r) (hv : okR r = true) (hi : isDrB (m : Int) = true) (ht : truthsA r.nat ≠ []) :
  Calls Try.prog 26 #[(.agg #[.int .i64 r.depth.lo, .int .i64 r.depth.hi, .int .i64 r.fall.lo, .int .i64 r.fall.hi, .int .i64 r.days, .slice fa fl fc, .slice la ll lc]), .int .i64 m] w fun e w' => e = .returned (.tuple #[.int .i64 (lastV r m), .int .i64 (lastE r m)]) ∧ Below w.heap.size w w' := by
 have hE2 : daysE r m = 0 := toldE_fine hv hi ht
 obtain ⟨L, hL⟩ : ∃ L, lastP r.nat m = L := ⟨_, rfl⟩
 have HR0 : Hid (L = 0 → Value.tuple #[.int .i64 (lastV r m), .int .i64 (lastE r m)] = .tuple #[.int .i64 0, .int .i64 4]) := fun h => by
  have hE3 : lastE r m = 4 := by unfold lastE; rw [if_pos hE2, Int.toNat_natCast, hL, if_pos h]
  unfold lastV
  rw [hE3, if_neg (by omega)]
  rfl
 have HR1 : Hid (L ≠ 0 → Value.tuple #[.int .i64 (lastV r m), .int .i64 (lastE r m)] = .tuple #[.int .i64 ((L : Int) - 1), .int .i64 0]) := fun h => by
  have hE3 : lastE r m = 0 := by unfold lastE; rw [if_pos hE2, Int.toNat_natCast, hL, if_neg h]
  unfold lastV
  rw [hE3, if_pos rfl, Int.toNat_natCast, hL, Int.ofNat_sub (by omega)]
  rfl
 have HGD : Hid (r.nat.Good) := good_of hv
 have hn2 := (good_of hv).n2
 have HLL : Hid (lastN (fun d => bearsP r.nat m d != 0) (r.nat.days + 1) = L) := hL
 have HP := Lib.hid hP
 have HV := Lib.hid hv
 have HI := Lib.hid hi
 have HTT := Lib.hid ht
 have EG81 := Lib.hid (enters_of Try.func81 (by kernel_rfl) rfl)
 have EG82 := Lib.hid (enters_of Try.func82 (by kernel_rfl) rfl)
 clear hP hv hi ht hE2 hL
 refine (callsIn_wide (n := 6)).1 (callsIn_of_wp_marks Try.func26 rfl trivial ?_ rfl)
 simp only [Try.ntmps26, List.size_toArray, List.length_cons, List.length_nil, Nat.reduceAdd, Nat.reduceSub, Array.replicate_succ, Array.replicate_zero, List.push_toArray, List.append_toArray, List.nil_append, List.cons_append]
 refine wpIn_wide.2 ?_
 have hmf : ∀ (fn : Fn) (first cap : Array Value) (w : World), (Instr.makeFunc fn first cap).run Try.prog w = .ok (.func fn first cap) w := fun _ _ _ _ => rfl
 go_upto_region 2 with (fail)
 obtain ⟨W, hW⟩ : ∃ W, W = (w.alloc (.cells #[.int .i64 r.depth.lo, .int .i64 r.depth.hi, .int .i64 r.fall.lo, .int .i64 r.fall.hi, .int .i64 r.days, .slice fa fl fc, .slice la ll lc] 27)).alloc (.cells #[.int .i64 0] 30) := ⟨_, rfl⟩
 obtain ⟨B2, hB2⟩ : ∃ B2, B2 = w.heap.size := ⟨_, rfl⟩
 obtain ⟨B5, hB5⟩ : ∃ B5, B5 = w.heap.size + 1 := ⟨_, rfl⟩
 have HB0 : Hid (Below w.heap.size w W) := by rw [hW]; exact ((Below.refl _ _).alloc (Nat.le_refl _) _).alloc (by simp) _
 have HXB : Hid (Blk W B2 27 #[.int .i64 r.depth.lo, .int .i64 r.depth.hi, .int .i64 r.fall.lo, .int .i64 r.fall.hi, .int .i64 r.days, .slice fa fl fc, .slice la ll lc]) := by rw [hW, hB2]; exact (Blk.new w 27 _).alloc _
 have HX5 : Hid (Blk W B5 30 #[.int .i64 0]) := by rw [hW, hB5]; exact Blk.new_ (by simp) 30 _
 have HE : Hid (w.heap.size ≤ B5 ∧ w.heap.size ≤ W.heap.size ∧ B5 < W.heap.size) := ⟨by omega, HB0.out.size, HX5.out.lt⟩
 rw [← hW, ← hB5, ← hB2]
 clear hW hB2 hB5
 have q0 := HXB.out.cell 0
 have q1 := HXB.out.cell 1
 have q2 := HXB.out.cell 2
 have q3 := HXB.out.cell 3
 have q4 := HXB.out.cell 4
 have q5 := HXB.out.cell 5
 have q6 := HXB.out.cell 6
 have ql := HXB.out.lt
 simp at q0 q1 q2 q3 q4 q5 q6
 go_wp2_with fail
 refine (boat_ok (m : Int) (HP.out.grow HB0.out) HV.out HI.out HTT.out).mono ?_
 rintro e w2 ⟨B, d, k, rfl, hBW, hD, hK, hb⟩
 have HB2 : Hid (Below W.heap.size W w2) := hb
 have HD2 := Lib.hid hD
 have HK2 := Lib.hid hK
 have hBk : B ≤ k := hD.hk
 clear hD hK hb q0 q1 q2 q3 q4 q5 q6 ql
 go_wp2_with fail
 refine (days_any HGD.out m w2 HD2.out HK2.out).mono ?_
 rintro e w3 ⟨v, rfl, hown, -, ht3⟩
 have HB3 : Hid (Below W.heap.size W w3) := HB2.out.trans (ht3.below HB2.out.size (fun b e => by have e' : b = k := e; omega))
 obtain ⟨A, c, rfl, hrd, -⟩ := own_rd (f := natF) (sz := 1) (l := daysL r.nat m (r.nat.days + 1)) (fun _ => rfl) (by decide) (by rw [daysL_len]; exact hown)
 rw [daysL_len]
 have HRD := Lib.hid hrd
 clear hown ht3 hrd
 go_wp2_with fail
 refine (last_any (cap := #[]) (S := fun _ => False) (xs := daysL r.nat m (r.nat.days + 1)) EG82.out (daysL_len _ _ _) (by omega) (fun _ h => h.elim) (fun _ a => Turn (fun _ => False) w3 a) (fun d => bearsP r.nat m d != 0) (fun _ _ _ h t => h.trans t)
  (fun _ a h => HRD.out.grow (h.below (Nat.le_refl _) (fun _ e => e.elim))) (fun j x a hx h => by
   have e := daysL_at hx
   refine (is82 x a).mono ?_
   rintro e w' ⟨rfl, rfl⟩
   exact ⟨by rw [e], h, Turn.refl _ _⟩) (Turn.refl _ _)).mono ?_
 rw [HLL.out]
 rintro e w4 ⟨he, ht4⟩
 have hb : Below W.heap.size W w4 := HB3.out.trans (ht4.below HB3.out.size (fun _ e => e.elim))
 by_cases hz : L = 0
 ·have he2 : e = .panicked [refE 4] := by rw [he, hz]; rfl
  clear he ht4
  subst he2
  obtain ⟨e1, e2, _⟩ := HE.out
  refine api_panic (ds := []) (B := W.heap.size) isAns81 EG81.out (Marks.nil _ _) (HX5.out.below hb HX5.out.lt) (fun w2 hk2 hfar hbel => ?_)
  have g0 := hk2.cell 0
  simp at g0
  refine ⟨.tuple #[.int .i64 0, .int .i64 4], by simp [results, Try.results26, go_sem, g0], by rw [HR0.out hz], ?_⟩
  exact HB0.out.trans ((hb.mono e2).trans ((hbel w.heap.size e2 e1).mono (Nat.le_refl _)))
 ·have he2 : e = .returned (.int .i64 ((L : Int) - 1)) := by rw [he, lastEnd, if_neg hz]
  clear he ht4
  subst he2
  have HB4 := Lib.hid hb
  have HY5 : Hid (Blk w4 B5 30 #[.int .i64 0]) := HX5.out.below hb HX5.out.lt
  have c2 : w4.cell? ⟨B5, 0, none⟩ = some (.int .i64 0) := HY5.out.cell 0
  have f2 := HY5.out.frozen 0
  have l5 := HY5.out.lt
  clear hb
  go_wp2
  obtain ⟨W9, hW9⟩ : ∃ W9, W9 = w4.setCell ⟨B5, 0, none⟩ (.int .i64 0) := ⟨_, rfl⟩
  rw [← hW9]
  have HT5 : Blk W9 B5 30 #[.int .i64 0] := by rw [hW9]; exact HY5.out.set_ 0 _
  obtain ⟨e1, e2, _⟩ := HE.out
  have hB9 : Below w.heap.size w W9 := by rw [hW9]; exact setCell_below (HB0.out.trans (HB4.out.mono e2)) e1 _ _
  refine api_ret (ds := []) (B := W.heap.size) isAns81 EG81.out (Marks.nil _ _) (fun w5 hk hbel => ?_)
  have g0 := (hk _ _ _ HT5).cell 0
  simp at g0
  refine ⟨.tuple #[.int .i64 ((L : Int) - 1), .int .i64 0], by simp [results, Try.results26, go_sem, g0], by rw [HR1.out hz], ?_⟩
  exact hB9.trans (hbel w.heap.size e2)
theorem PLast_any (draws : Int) (hP : RvIn w w.heap.size fa fl la ll r) : Calls Try.prog 26 #[(.agg #[.int .i64 r.depth.lo, .int .i64 r.depth.hi, .int .i64 r.fall.lo, .int .i64 r.fall.hi, .int .i64 r.days, .slice fa fl fc, .slice la ll lc]), .int .i64 draws] w fun e w' => e = .returned (.tuple #[.int .i64 (lastV r draws), .int .i64 (lastE r draws)]) ∧ Below w.heap.size w w' := by
 cases hv : okR r
 ·exact PLast_err draws hP (.inl hv)
 cases hi : isDrB draws
 ·exact PLast_err draws hP (.inr hi)
 by_cases ht : truthsA r.nat = []
 ·exact PLast_clash draws hP hv hi ht
 ·obtain ⟨m, rfl⟩ : ∃ m : Nat, draws = m := ⟨draws.toNat, by have h := hi; unfold isDrB at h; have := inB_iff.1 h; omega⟩
  exact PLast_ok m hP hv hi ht
end
end Go.Proofs.Ytiodmkokpfgkkaa
namespace Go.Proofs.Ytiodmkokpfgkkaa
open Go.RowKit Go.Hav Go.Shelf Go.Sq
attribute [local go_sem] Oper.semAt_some
section
variable {fa la : Option Addr} {fl fc ll lc : Nat} {r : IRiv} {w : World}
set_option maxRecDepth 100000 in
set_option maxHeartbeats 1600000 in
theorem PUntil_err (draws : Int) (hP : RvIn w w.heap.size fa fl la ll r) (h : okR r = false ∨ isDrB draws = false) :
  Calls Try.prog 24 #[(.agg #[.int .i64 r.depth.lo, .int .i64 r.depth.hi, .int .i64 r.fall.lo, .int .i64 r.fall.hi, .int .i64 r.days, .slice fa fl fc, .slice la ll lc]), .int .i64 draws] w fun e w' => e = .returned (.tuple #[.int .i64 (untilV r draws), .int .i64 (untilE r draws)]) ∧ Below w.heap.size w w' := by
 obtain ⟨EE, hEE⟩ : ∃ EE : Int, EE = (daysE r draws : Int) := ⟨_, rfl⟩
 have hE2 : daysE r draws = if okR r = false then 1 else 2 := toldE_bad h
 have hne : daysE r draws ≠ 0 := by rw [hE2]; split <;> omega
 have hE3 : untilE r draws = daysE r draws := by unfold untilE; rw [if_neg hne]
 have HR : Hid (Value.tuple #[.int .i64 (untilV r draws), .int .i64 (untilE r draws)] = .tuple #[.int .i64 0, .int .i64 EE]) := by
  show _ = _
  unfold untilV
  rw [hE3, if_neg hne, hEE]
  rfl
 have HEE : Hid (((if okR r = false then 1 else 2 : Int)) = EE) := by show _ = _; rw [hEE, hE2]; split <;> rfl
 have HP := Lib.hid hP
 have HH := Lib.hid h
 have EG77 := Lib.hid (enters_of Try.func77 (by kernel_rfl) rfl)
 clear hP h hEE hE2 hne hE3
 refine (callsIn_wide (n := 6)).1 (callsIn_of_wp_marks Try.func24 rfl trivial ?_ rfl)
 simp only [Try.ntmps24, List.size_toArray, List.length_cons, List.length_nil, Nat.reduceAdd, Nat.reduceSub, Array.replicate_succ, Array.replicate_zero, List.push_toArray, List.append_toArray, List.nil_append, List.cons_append]
 refine wpIn_wide.2 ?_
 have hmf : ∀ (fn : Fn) (first cap : Array Value) (w : World), (Instr.makeFunc fn first cap).run Try.prog w = .ok (.func fn first cap) w := fun _ _ _ _ => rfl
 go_upto_region 3 with (fail)
 obtain ⟨W, hW⟩ : ∃ W, W = ((w.alloc (.cells #[.int .i64 r.depth.lo, .int .i64 r.depth.hi, .int .i64 r.fall.lo, .int .i64 r.fall.hi, .int .i64 r.days, .slice fa fl fc, .slice la ll lc] 27)).alloc (.cells #[.int .i64 0] 30)).alloc (.cells #[.bool true] 4) := ⟨_, rfl⟩
 obtain ⟨B2, hB2⟩ : ∃ B2, B2 = w.heap.size := ⟨_, rfl⟩
 obtain ⟨B5, hB5⟩ : ∃ B5, B5 = w.heap.size + 1 := ⟨_, rfl⟩
 obtain ⟨B6, hB6⟩ : ∃ B6, B6 = w.heap.size + 1 + 1 := ⟨_, rfl⟩
 have HB0 : Hid (Below w.heap.size w W) := by rw [hW]; exact (((Below.refl _ _).alloc (Nat.le_refl _) _).alloc (by simp) _).alloc (by simp; omega) _
 have HXB : Hid (Blk W B2 27 #[.int .i64 r.depth.lo, .int .i64 r.depth.hi, .int .i64 r.fall.lo, .int .i64 r.fall.hi, .int .i64 r.days, .slice fa fl fc, .slice la ll lc]) := by rw [hW, hB2]; exact ((Blk.new w 27 _).alloc _).alloc _
 have HX5 : Hid (Blk W B5 30 #[.int .i64 0]) := by rw [hW, hB5]; exact (Blk.new_ (by simp) 30 _).alloc _
 have HX6 : Hid (Blk W B6 4 #[.bool true]) := by rw [hW, hB6]; exact Blk.new_ (by simp) 4 _
 have HE : Hid (w.heap.size ≤ B5 ∧ w.heap.size ≤ W.heap.size ∧ B5 < W.heap.size ∧ B6 < W.heap.size ∧ w.heap.size ≤ B6 ∧ B5 ≠ B6) := ⟨by omega, HB0.out.size, HX5.out.lt, HX6.out.lt, by omega, by omega⟩
 rw [← hW, ← hB6, ← hB5, ← hB2]
 clear hW hB2 hB5 hB6
 have q0 := HXB.out.cell 0
 have q1 := HXB.out.cell 1
 have q2 := HXB.out.cell 2
 have q3 := HXB.out.cell 3
 have q4 := HXB.out.cell 4
 have q5 := HXB.out.cell 5
 have q6 := HXB.out.cell 6
 have ql := HXB.out.lt
 simp at q0 q1 q2 q3 q4 q5 q6
 go_wp2_with fail
 refine (boat_err draws (HP.out.grow HB0.out) HH.out).mono ?_
 rintro e w' ⟨h1, hb⟩
 rw [HEE.out] at h1
 subst h1
 clear q0 q1 q2 q3 q4 q5 q6 ql
 obtain ⟨e1, e2, _⟩ := HE.out
 refine api_panic (ds := []) (B := W.heap.size) isAns77 EG77.out (Marks.nil _ _) (HX5.out.below hb HX5.out.lt) (fun w2 hk2 hfar hbel => ?_)
 have g0 := hk2.cell 0
 simp at g0
 refine ⟨.tuple #[.int .i64 0, .int .i64 EE], by simp [results, Try.results24, go_sem, g0], by rw [HR.out], ?_⟩
 exact HB0.out.trans ((hb.mono e2).trans ((hbel w.heap.size e2 e1).mono (Nat.le_refl _)))
set_option maxRecDepth 100000 in
set_option maxHeartbeats 1600000 in
theorem PUntil_clash (draws : Int) (hP : RvIn w w.heap.size fa fl la ll r) (hv : okR r = true) (hi : isDrB draws = true) (ht : truthsA r.nat = []) :
  Calls Try.prog 24 #[(.agg #[.int .i64 r.depth.lo, .int .i64 r.depth.hi, .int .i64 r.fall.lo, .int .i64 r.fall.hi, .int .i64 r.days, .slice fa fl fc, .slice la ll lc]), .int .i64 draws] w fun e w' => e = .returned (.tuple #[.int .i64 (untilV r draws), .int .i64 (untilE r draws)]) ∧ Below w.heap.size w w' := by
 have hE2 : daysE r draws = 10 := toldE_clash hv hi ht
 have hE3 : untilE r draws = 10 := by unfold untilE; rw [if_neg (by rw [hE2]; omega), hE2]
 have HR : Hid (Value.tuple #[.int .i64 (untilV r draws), .int .i64 (untilE r draws)] = .tuple #[.int .i64 0, .int .i64 10]) := by
  show _ = _
  unfold untilV
  rw [hE3, if_neg (by omega)]
  rfl
 have HP := Lib.hid hP
 have HV := Lib.hid hv
 have HI := Lib.hid hi
 have HTT := Lib.hid ht
 have EG77 := Lib.hid (enters_of Try.func77 (by kernel_rfl) rfl)
 clear hP hv hi ht hE2 hE3
 refine (callsIn_wide (n := 6)).1 (callsIn_of_wp_marks Try.func24 rfl trivial ?_ rfl)
 simp only [Try.ntmps24, List.size_toArray, List.length_cons, List.length_nil, Nat.reduceAdd, Nat.reduceSub, Array.replicate_succ, Array.replicate_zero, List.push_toArray, List.append_toArray, List.nil_append, List.cons_append]
 refine wpIn_wide.2 ?_
 have hmf : ∀ (fn : Fn) (first cap : Array Value) (w : World), (Instr.makeFunc fn first cap).run Try.prog w = .ok (.func fn first cap) w := fun _ _ _ _ => rfl
 go_upto_region 3 with (fail)
 obtain ⟨W, hW⟩ : ∃ W, W = ((w.alloc (.cells #[.int .i64 r.depth.lo, .int .i64 r.depth.hi, .int .i64 r.fall.lo, .int .i64 r.fall.hi, .int .i64 r.days, .slice fa fl fc, .slice la ll lc] 27)).alloc (.cells #[.int .i64 0] 30)).alloc (.cells #[.bool true] 4) := ⟨_, rfl⟩
 obtain ⟨B2, hB2⟩ : ∃ B2, B2 = w.heap.size := ⟨_, rfl⟩
 obtain ⟨B5, hB5⟩ : ∃ B5, B5 = w.heap.size + 1 := ⟨_, rfl⟩
 obtain ⟨B6, hB6⟩ : ∃ B6, B6 = w.heap.size + 1 + 1 := ⟨_, rfl⟩
 have HB0 : Hid (Below w.heap.size w W) := by rw [hW]; exact (((Below.refl _ _).alloc (Nat.le_refl _) _).alloc (by simp) _).alloc (by simp; omega) _
 have HXB : Hid (Blk W B2 27 #[.int .i64 r.depth.lo, .int .i64 r.depth.hi, .int .i64 r.fall.lo, .int .i64 r.fall.hi, .int .i64 r.days, .slice fa fl fc, .slice la ll lc]) := by rw [hW, hB2]; exact ((Blk.new w 27 _).alloc _).alloc _
 have HX5 : Hid (Blk W B5 30 #[.int .i64 0]) := by rw [hW, hB5]; exact (Blk.new_ (by simp) 30 _).alloc _
 have HX6 : Hid (Blk W B6 4 #[.bool true]) := by rw [hW, hB6]; exact Blk.new_ (by simp) 4 _
 have HE : Hid (w.heap.size ≤ B5 ∧ w.heap.size ≤ W.heap.size ∧ B5 < W.heap.size ∧ B6 < W.heap.size ∧ w.heap.size ≤ B6 ∧ B5 ≠ B6) := ⟨by omega, HB0.out.size, HX5.out.lt, HX6.out.lt, by omega, by omega⟩
 rw [← hW, ← hB6, ← hB5, ← hB2]
 clear hW hB2 hB5 hB6
 have q0 := HXB.out.cell 0
 have q1 := HXB.out.cell 1
 have q2 := HXB.out.cell 2
 have q3 := HXB.out.cell 3
 have q4 := HXB.out.cell 4
 have q5 := HXB.out.cell 5
 have q6 := HXB.out.cell 6
 have ql := HXB.out.lt
 simp at q0 q1 q2 q3 q4 q5 q6
 go_wp2_with fail
 refine (boat_clash draws (HP.out.grow HB0.out) HV.out HI.out HTT.out).mono ?_
 rintro e w' ⟨rfl, hb⟩
 clear q0 q1 q2 q3 q4 q5 q6 ql
 obtain ⟨e1, e2, _⟩ := HE.out
 refine api_panic (ds := []) (B := W.heap.size) isAns77 EG77.out (Marks.nil _ _) (HX5.out.below hb HX5.out.lt) (fun w2 hk2 hfar hbel => ?_)
 have g0 := hk2.cell 0
 simp at g0
 refine ⟨.tuple #[.int .i64 0, .int .i64 10], by simp [results, Try.results24, go_sem, g0], by rw [HR.out], ?_⟩
 exact HB0.out.trans ((hb.mono e2).trans ((hbel w.heap.size e2 e1).mono (Nat.le_refl _)))
theorem runN_le (f : Nat → Bool) : ∀ n, runN f n ≤ n
 | 0 => Nat.le_refl _
 | n + 1 => by
  have := runN_le f n
  rw [runN]
  split <;> omega
theorem runN_all (f : Nat → Bool) (n : Nat) : decide (runN f (n + 1) = n + 1) = (decide (runN f n = n) && f n) := by
 have := runN_le f n
 rw [runN]
 by_cases h : runN f n = n ∧ f n = true
 ·rw [if_pos h, h.2, decide_eq_true h.1]; simp
 ·rw [if_neg h]
  have e : decide (runN f n = n + 1) = false := decide_eq_false (by omega)
  rw [e]
  cases hf : f n
  ·simp
  ·rw [decide_eq_false (fun h1 => h ⟨h1, hf⟩)]; rfl
theorem lastN_run (f : Nat → Bool) : ∀ n, lastN (fun j => decide (runN f (j + 1) = j + 1)) n = runN f n
 | 0 => rfl
 | n + 1 => by
  have := runN_le f n
  rw [lastN, lastN_run f n]
  by_cases h : runN f (n + 1) = n + 1
  ·rw [if_pos (by simpa using h), h]
  ·rw [if_neg (by simpa using h)]
   rw [runN] at h ⊢
   split at h
   ·exact absurd rfl h
   ·rename_i h2; rw [if_neg h2]
set_option maxRecDepth 100000 in
set_option maxHeartbeats 1600000 in
theorem is80 (x b6 : Nat) (b : Bool) (w : World) (hb : Blk w b6 4 #[.bool b]) : Calls Try.prog 80 #[.int .i64 x, .pointer (some ⟨b6, 0, none⟩)] w fun e w' => e = .returned (.bool (b && (x == 2))) ∧ w' = w.setCell ⟨b6, 0, none⟩ (.bool (b && (x == 2))) := by
 have c0 := hb.cell 0
 have f0 := hb.frozen 0
 have l0 := hb.lt
 simp at c0
 have hx : ((x : Int) == 2) = (x == 2) := by
  rw [Bool.eq_iff_iff]; simp; omega
 cases b
 ·simp only [Bool.false_and]
  clear hb hx
  go_enter Try.func80, Try.ntmps80
  go_wp2
  go_ret
  exact ⟨rfl, rfl⟩
 ·simp only [Bool.true_and]
  clear hb
  obtain ⟨y, hy⟩ : ∃ y, (x == 2) = y := ⟨_, rfl⟩
  rw [hy] at hx ⊢
  clear hy
  go_enter Try.func80, Try.ntmps80
  go_wp2
  go_ret
  exact ⟨rfl, rfl⟩
set_option maxRecDepth 100000 in
set_option maxHeartbeats 1600000 in
theorem PUntil_ok (m : Nat) (hP : RvIn w w.heap.size fa fl la ll r) (hv : okR r = true) (hi : isDrB (m : Int) = true) (ht : truthsA r.nat ≠ []) :
  Calls Try.prog 24 #[(.agg #[.int .i64 r.depth.lo, .int .i64 r.depth.hi, .int .i64 r.fall.lo, .int .i64 r.fall.hi, .int .i64 r.days, .slice fa fl fc, .slice la ll lc]), .int .i64 m] w fun e w' => e = .returned (.tuple #[.int .i64 (untilV r m), .int .i64 (untilE r m)]) ∧ Below w.heap.size w w' := by
 have hE2 : daysE r m = 0 := toldE_fine hv hi ht
 obtain ⟨L, hL⟩ : ∃ L, untilP r.nat m = L := ⟨_, rfl⟩
 have HR0 : Hid (L = 0 → Value.tuple #[.int .i64 (untilV r m), .int .i64 (untilE r m)] = .tuple #[.int .i64 0, .int .i64 4]) := fun h => by
  have hE3 : untilE r m = 4 := by unfold untilE; rw [if_pos hE2, Int.toNat_natCast, hL, if_pos h]
  unfold untilV
  rw [hE3, if_neg (by omega)]
  rfl
 have HR1 : Hid (L ≠ 0 → Value.tuple #[.int .i64 (untilV r m), .int .i64 (untilE r m)] = .tuple #[.int .i64 ((L : Int) - 1), .int .i64 0]) := fun h => by
  have hE3 : untilE r m = 0 := by unfold untilE; rw [if_pos hE2, Int.toNat_natCast, hL, if_neg h]
  unfold untilV
  rw [hE3, if_pos rfl, Int.toNat_natCast, hL, Int.ofNat_sub (by omega)]
  rfl
 have HGD : Hid (r.nat.Good) := good_of hv
 have hn2 := (good_of hv).n2
 obtain ⟨f, hf⟩ : ∃ f, f = fun d => bearsP r.nat m d == 2 := ⟨_, rfl⟩
 have HLL : Hid (lastN (fun j => decide (runN f (j + 1) = j + 1)) (r.nat.days + 1) = L) := by
  show _ = _
  rw [lastN_run, hf]
  exact hL
 have HFV : Hid (∀ j, f j = (bearsP r.nat m j == 2)) := fun j => by rw [hf]
 have HP := Lib.hid hP
 have HV := Lib.hid hv
 have HI := Lib.hid hi
 have HTT := Lib.hid ht
 have EG77 := Lib.hid (enters_of Try.func77 (by kernel_rfl) rfl)
 have EG80 := Lib.hid (enters_of Try.func80 (by kernel_rfl) rfl)
 clear hP hv hi ht hE2 hL hf
 refine (callsIn_wide (n := 6)).1 (callsIn_of_wp_marks Try.func24 rfl trivial ?_ rfl)
 simp only [Try.ntmps24, List.size_toArray, List.length_cons, List.length_nil, Nat.reduceAdd, Nat.reduceSub, Array.replicate_succ, Array.replicate_zero, List.push_toArray, List.append_toArray, List.nil_append, List.cons_append]
 refine wpIn_wide.2 ?_
 have hmf : ∀ (fn : Fn) (first cap : Array Value) (w : World), (Instr.makeFunc fn first cap).run Try.prog w = .ok (.func fn first cap) w := fun _ _ _ _ => rfl
 go_upto_region 3 with (fail)
 obtain ⟨W, hW⟩ : ∃ W, W = ((w.alloc (.cells #[.int .i64 r.depth.lo, .int .i64 r.depth.hi, .int .i64 r.fall.lo, .int .i64 r.fall.hi, .int .i64 r.days, .slice fa fl fc, .slice la ll lc] 27)).alloc (.cells #[.int .i64 0] 30)).alloc (.cells #[.bool true] 4) := ⟨_, rfl⟩
 obtain ⟨B2, hB2⟩ : ∃ B2, B2 = w.heap.size := ⟨_, rfl⟩
 obtain ⟨B5, hB5⟩ : ∃ B5, B5 = w.heap.size + 1 := ⟨_, rfl⟩
 obtain ⟨B6, hB6⟩ : ∃ B6, B6 = w.heap.size + 1 + 1 := ⟨_, rfl⟩
 have HB0 : Hid (Below w.heap.size w W) := by rw [hW]; exact (((Below.refl _ _).alloc (Nat.le_refl _) _).alloc (by simp) _).alloc (by simp; omega) _
 have HXB : Hid (Blk W B2 27 #[.int .i64 r.depth.lo, .int .i64 r.depth.hi, .int .i64 r.fall.lo, .int .i64 r.fall.hi, .int .i64 r.days, .slice fa fl fc, .slice la ll lc]) := by rw [hW, hB2]; exact ((Blk.new w 27 _).alloc _).alloc _
 have HX5 : Hid (Blk W B5 30 #[.int .i64 0]) := by rw [hW, hB5]; exact (Blk.new_ (by simp) 30 _).alloc _
 have HX6 : Hid (Blk W B6 4 #[.bool true]) := by rw [hW, hB6]; exact Blk.new_ (by simp) 4 _
 have HE : Hid (w.heap.size ≤ B5 ∧ w.heap.size ≤ W.heap.size ∧ B5 < W.heap.size ∧ B6 < W.heap.size ∧ w.heap.size ≤ B6 ∧ B5 ≠ B6) := ⟨by omega, HB0.out.size, HX5.out.lt, HX6.out.lt, by omega, by omega⟩
 rw [← hW, ← hB6, ← hB5, ← hB2]
 clear hW hB2 hB5 hB6
 have q0 := HXB.out.cell 0
 have q1 := HXB.out.cell 1
 have q2 := HXB.out.cell 2
 have q3 := HXB.out.cell 3
 have q4 := HXB.out.cell 4
 have q5 := HXB.out.cell 5
 have q6 := HXB.out.cell 6
 have ql := HXB.out.lt
 simp at q0 q1 q2 q3 q4 q5 q6
 go_wp2_with fail
 refine (boat_ok (m : Int) (HP.out.grow HB0.out) HV.out HI.out HTT.out).mono ?_
 rintro e w2 ⟨B, d, k, rfl, hBW, hD, hK, hb⟩
 have HB2 : Hid (Below W.heap.size W w2) := hb
 have HD2 := Lib.hid hD
 have HK2 := Lib.hid hK
 have hBk : B ≤ k := hD.hk
 clear hD hK hb q0 q1 q2 q3 q4 q5 q6 ql
 go_wp2_with fail
 refine (days_any HGD.out m w2 HD2.out HK2.out).mono ?_
 rintro e w3 ⟨v, rfl, hown, -, ht3⟩
 have HB3 : Hid (Below W.heap.size W w3) := HB2.out.trans (ht3.below HB2.out.size (fun b e => by have e' : b = k := e; omega))
 obtain ⟨A, c, rfl, hrd, -⟩ := own_rd (f := natF) (sz := 1) (l := daysL r.nat m (r.nat.days + 1)) (fun _ => rfl) (by decide) (by rw [daysL_len]; exact hown)
 rw [daysL_len] at hown ⊢
 have HRD := Lib.hid hrd
 have HAB : Hid (∀ b off, A = some ⟨b, off, none⟩ → w2.heap.size ≤ b) := fun b off e => (hown.lt b (by rw [e]; rfl)).1
 have HX63 : Hid (Blk w3 B6 4 #[.bool true]) := HX6.out.below HB3.out HX6.out.lt
 have hB6 : B6 < W.heap.size := HE.out.2.2.2.1
 have hs2 := HB2.out.size
 have hs3 := HB3.out.size
 clear hown ht3 hrd
 go_wp2_with fail
 refine (last_any (cap := #[.pointer (some ⟨B6, 0, none⟩)]) (S := fun x => x = B6) (xs := daysL r.nat m (r.nat.days + 1)) EG80.out (daysL_len _ _ _) (by omega) (fun b h => by have h' : b = B6 := h; omega) (fun j a => Turn (fun x => x = B6) w3 a ∧ Blk a B6 4 #[.bool (decide (runN f j = j))]) (fun j => decide (runN f (j + 1) = j + 1))
  (fun j a b h t => ⟨h.1.trans (t.mono fun _ e => e.elim), h.2.turn t (fun e => e)⟩)
  (fun j a h => (HRD.out.keep (fun b hb ⟨off, e⟩ => h.1.block b hb (fun e2 => by have e2' : b = B6 := e2; have := HAB.out b off e; omega))).more h.1.size)
  (fun j x a hx h => by
   have e := daysL_at hx
   refine (is80 x B6 _ a h.2).mono ?_
   rintro en w' ⟨rfl, rfl⟩
   have e2 : decide (runN f (j + 1) = j + 1) = (decide (runN f j = j) && (x == 2)) := by rw [runN_all, HFV.out, e]
   have hset : Turn (fun x => x = B6) a (a.setCell ⟨B6, 0, none⟩ (.bool (decide (runN f j = j) && (x == 2)))) := Turn.set _ _ (fun _ => rfl)
   refine ⟨by rw [e2], ⟨h.1.trans hset, ?_⟩, hset⟩
   rw [e2]
   exact h.2.set_ 0 _) ⟨Turn.refl _ _, HX63.out⟩).mono ?_
 rw [HLL.out]
 rintro e w4 ⟨he, ht4⟩
 obtain ⟨e1, e2, -, -, e6, e7⟩ := HE.out
 have HW4 : Hid (Below w.heap.size w w4) := HB0.out.trans ((HB3.out.mono e2).trans (ht4.below (by omega) (fun b e => by have e' : b = B6 := e; omega)))
 have HY5 : Hid (Blk w4 B5 30 #[.int .i64 0]) := (HX5.out.below HB3.out HX5.out.lt).turn ht4 (fun e => e7 e)
 by_cases hz : L = 0
 ·have he2 : e = .panicked [refE 4] := by rw [he, hz]; rfl
  clear he ht4
  subst he2
  refine api_panic (ds := []) (B := W.heap.size) isAns77 EG77.out (Marks.nil _ _) HY5.out (fun w5 hk2 hfar hbel => ?_)
  have g0 := hk2.cell 0
  simp at g0
  refine ⟨.tuple #[.int .i64 0, .int .i64 4], by simp [results, Try.results24, go_sem, g0], by rw [HR0.out hz], ?_⟩
  exact HW4.out.trans (hbel w.heap.size e2 e1)
 ·have he2 : e = .returned (.int .i64 ((L : Int) - 1)) := by rw [he, lastEnd, if_neg hz]
  clear he ht4
  subst he2
  have c2 : w4.cell? ⟨B5, 0, none⟩ = some (.int .i64 0) := HY5.out.cell 0
  have f2 := HY5.out.frozen 0
  have l5 := HY5.out.lt
  go_wp2
  obtain ⟨W9, hW9⟩ : ∃ W9, W9 = w4.setCell ⟨B5, 0, none⟩ (.int .i64 0) := ⟨_, rfl⟩
  rw [← hW9]
  have HT5 : Blk W9 B5 30 #[.int .i64 0] := by rw [hW9]; exact HY5.out.set_ 0 _
  have hB9 : Below w.heap.size w W9 := by rw [hW9]; exact setCell_below HW4.out e1 _ _
  refine api_ret (ds := []) (B := W.heap.size) isAns77 EG77.out (Marks.nil _ _) (fun w5 hk hbel => ?_)
  have g0 := (hk _ _ _ HT5).cell 0
  simp at g0
  refine ⟨.tuple #[.int .i64 ((L : Int) - 1), .int .i64 0], by simp [results, Try.results24, go_sem, g0], by rw [HR1.out hz], ?_⟩
  exact hB9.trans (hbel w.heap.size e2)
theorem PUntil_any (draws : Int) (hP : RvIn w w.heap.size fa fl la ll r) : Calls Try.prog 24 #[(.agg #[.int .i64 r.depth.lo, .int .i64 r.depth.hi, .int .i64 r.fall.lo, .int .i64 r.fall.hi, .int .i64 r.days, .slice fa fl fc, .slice la ll lc]), .int .i64 draws] w fun e w' => e = .returned (.tuple #[.int .i64 (untilV r draws), .int .i64 (untilE r draws)]) ∧ Below w.heap.size w w' := by
 cases hv : okR r
 ·exact PUntil_err draws hP (.inl hv)
 cases hi : isDrB draws
 ·exact PUntil_err draws hP (.inr hi)
 by_cases ht : truthsA r.nat = []
 ·exact PUntil_clash draws hP hv hi ht
 ·obtain ⟨m, rfl⟩ : ∃ m : Nat, draws = m := ⟨draws.toNat, by have h := hi; unfold isDrB at h; have := inB_iff.1 h; omega⟩
  exact PUntil_ok m hP hv hi ht
end
end Go.Proofs.Ytiodmkokpfgkkaa
