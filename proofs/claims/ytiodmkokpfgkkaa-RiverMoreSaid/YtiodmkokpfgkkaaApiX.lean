/- What the exported functions share: open and told for every river; what else is asked; whether there is a truth. The walk of bears. No condition. The walk of Depth, for every river and day. No condition. The walk of Bears, for every river, draught and day. No condition. -/
import Derived.Test.YtiodmkokpfgkkaaOpenA
namespace Go.Proofs.Ytiodmkokpfgkkaa
open Go.RowKit Go.Hav Go.Shelf Go.Sq
attribute [local go_sem] Oper.semAt_some
theorem frOk_of {r : Riv} (hv : r.Good) : FrOk r := fun f hf => ⟨(hv.fr f hf).1, (hv.fr f hf).2.1, (hv.fr f hf).2.2.2.2.2.1⟩
theorem lkOk_of {r : Riv} (hv : r.Good) : LkOk r := fun f hf => (hv.lk f hf).1
theorem can_truths {r : Riv} (hv : r.Good) (looks : Nat) : canB r looks = !(truthsP r looks).isEmpty := by
 have h1 : canB r looks = true ↔ ∃ b, b ∈ fallsL r looks := by
  unfold canB
  cases fallsL r looks with
  | nil => simp
  | cons a l => simp
 have h2 : (!(truthsP r looks).isEmpty) = true ↔ ∃ t, t ∈ truthsP r looks := by
  cases truthsP r looks with
  | nil => simp
  | cons a l => simp
 rw [Bool.eq_iff_iff, h1, h2]
 constructor
 ·rintro ⟨b, hb⟩
  obtain ⟨b1, b2, s, hs⟩ := (mem_fallsL hv.f1).1 hb
  obtain ⟨t, ht, _⟩ := (allS_truths (frOk_of hv) (lkOk_of hv) (Nat.zero_le _) b1 b2).1 hs
  exact ⟨t, ht⟩
 ·rintro ⟨t, ht⟩
  obtain ⟨_, _, b1, b2, _⟩ := (mem_truthsP (lkOk_of hv)).1 ht
  exact ⟨t.by_, (mem_fallsL hv.f1).2 ⟨b1, b2, (t.at_ 0, comeF t.dsF 0 r.fr.length), (allS_truths (frOk_of hv) (lkOk_of hv) (Nat.zero_le _) b1 b2).2 ⟨t, ht, rfl, rfl, fun j => comeF_bit _ _ _ _⟩⟩⟩
section
variable {fa la : Option Addr} {fl fc ll lc : Nat} {r : IRiv} {b : Bool} {w : World}
/-- The error of open, where there is one. -/
theorem open_err (g : Nat) (cap : Array Value) (eg : ∀ args w, (callFunc g args).run Try.prog w = .ok (.enter g args) w) (hP : RvIn w w.heap.size fa fl la ll r) (hg : okR r = true → IsG w fa fl fc la ll lc r g cap b) (h : okR r = false ∨ b = false) :
  Calls Try.prog 46 #[(.agg #[.int .i64 r.depth.lo, .int .i64 r.depth.hi, .int .i64 r.fall.lo, .int .i64 r.fall.hi, .int .i64 r.days, .slice fa fl fc, .slice la ll lc]), .func (.func g) #[] cap] w fun e w' => e = .panicked [refE (if okR r = false then 1 else 2)] ∧ Below w.heap.size w w' := by
 refine (open_any g cap eg hP hg).mono ?_
 rintro e w' ⟨hb, (⟨h1, h2⟩ | ⟨h1, h2, h3⟩ | ⟨h1, h2, _⟩)⟩
 ·exact ⟨by rw [h2, h1]; rfl, hb⟩
 ·exact ⟨by rw [h3, h1]; rfl, hb⟩
 ·rcases h with h | h
  ·rw [h1] at h; cases h
  ·rw [h2] at h; cases h
theorem open_ok (g : Nat) (cap : Array Value) (eg : ∀ args w, (callFunc g args).run Try.prog w = .ok (.enter g args) w) (hP : RvIn w w.heap.size fa fl la ll r) (hg : okR r = true → IsG w fa fl fc la ll lc r g cap true) (h : okR r = true) :
  Calls Try.prog 46 #[(.agg #[.int .i64 r.depth.lo, .int .i64 r.depth.hi, .int .i64 r.fall.lo, .int .i64 r.fall.hi, .int .i64 r.days, .slice fa fl fc, .slice la ll lc]), .func (.func g) #[] cap] w fun e w' => ∃ d k, e = .returned (.pointer (some ⟨d, 0, none⟩)) ∧ GauIn w' w.heap.size d k fa fl fc la ll lc r.nat ∧ KeptOK w' k r.nat ∧ Below w.heap.size w w' := by
 refine (open_any g cap eg hP hg).mono ?_
 rintro e w' ⟨hb, (⟨h1, h2⟩ | ⟨h1, h2, h3⟩ | ⟨h1, h2, d, k, h3, _, h4, h5, _⟩)⟩
 ·rw [h] at h1; cases h1
 ·cases h2
 ·exact ⟨d, k, h3, h4, h5, hb⟩
theorem toldE_bad {is : Bool} (h : okR r = false ∨ is = false) : toldE r is = if okR r = false then 1 else 2 := by
 unfold toldE
 cases ho : okR r
 ·rfl
 ·rcases h with h | h
  ·rw [ho] at h; cases h
  ·subst h; rfl
theorem toldE_clash {is : Bool} (h : okR r = true) (hi : is = true) (ht : truthsA r.nat = []) : toldE r is = 10 := by
 unfold toldE; rw [h, hi, if_pos ht]; rfl
theorem toldE_fine {is : Bool} (h : okR r = true) (hi : is = true) (ht : truthsA r.nat ≠ []) : toldE r is = 0 := by
 unfold toldE; rw [h, hi, if_neg ht]; rfl
theorem can_of (h : okR r = true) : canB r.nat (full r.nat.lk.length) = decide (truthsA r.nat ≠ []) := by
 rw [can_truths (good_of h)]
 unfold truthsA
 cases truthsP r.nat (full r.nat.lk.length) with
 | nil => rfl
 | cons a l => rfl
theorem dayCell {wq : World} {d k : Nat} (h : GauIn wq w.heap.size d k fa fl fc la ll lc r.nat) (hv : okR r = true) : wq.cell? ⟨d, 4, none⟩ = some (.int .i64 r.days) ∧ d < wq.heap.size := by
 have := inB_iff.1 (okR_parts hv).1.2.2.1
 refine ⟨?_, h.blk.lt⟩
 have e := h.blk.cell 4
 rw [e]
 show some (Value.int .i64 ((r.days.toNat : Nat) : Int)) = _
 rw [show ((r.days.toNat : Nat) : Int) = r.days by omega]
theorem isG_always : IsG w fa fl fc la ll lc r 55 #[] true := by
 intro wq d k _ hD
 clear hD
 show Calls _ _ #[.pointer (some ⟨d, 0, none⟩)] _ _
 go_enter Try.func55, Try.ntmps55
 go_wp2
 go_ret
 exact ⟨rfl, rfl⟩
theorem isG_day (hv : okR r = true) (b : Nat) (n : Int) (hb : Blk w b 3 #[.int .i64 n]) : IsG w fa fl fc la ll lc r 47 #[.pointer (some ⟨b, 0, none⟩)] (isDayB r n) := by
 intro wq d k hB hD
 obtain ⟨h1, h2⟩ := dayCell hD hv
 have hb2 := hb.below hB hb.lt
 have q := hb2.cell 0
 have ql := hb2.lt
 unfold isDayB
 clear hD hb hb2
 show Calls _ _ #[.pointer (some ⟨d, 0, none⟩), .pointer (some ⟨b, 0, none⟩)] _ _
 go_enter Try.func47, Try.ntmps47
 go_wp2_with fail
 refine (isDay_any n r.days _ h1 h2).mono ?_
 rintro e w' ⟨rfl, rfl⟩
 go_wp2
 go_ret
 exact ⟨rfl, rfl⟩
theorem isG_fresh (hv : okR r = true) (hfl : r.fr.length = fl) (b : Nat) (n : Int) (hb : Blk w b 3 #[.int .i64 n]) : IsG w fa fl fc la ll lc r 61 #[.pointer (some ⟨b, 0, none⟩)] (isFrB r n) := by
 intro wq d k hB hD
 have h1 : wq.cell? ⟨d, 5, none⟩ = some (.slice fa fl fc) := hD.blk.cell 5
 have h2 := hD.blk.lt
 have h3 : fl ≤ 1000 := by have := (okR_parts hv).1.2.2.2.1; omega
 have hb2 := hb.below hB hb.lt
 have q := hb2.cell 0
 have ql := hb2.lt
 unfold isFrB
 rw [hfl]
 clear hD hb hb2
 show Calls _ _ #[.pointer (some ⟨d, 0, none⟩), .pointer (some ⟨b, 0, none⟩)] _ _
 go_enter Try.func61, Try.ntmps61
 go_wp2_with fail
 refine (isFresh_any n h3 _ h1 h2).mono ?_
 rintro e w' ⟨rfl, rfl⟩
 go_wp2
 go_ret
 exact ⟨rfl, rfl⟩
theorem isG_boat (b : Nat) (n : Int) (hb : Blk w b 3 #[.int .i64 n]) : IsG w fa fl fc la ll lc r 107 #[.pointer (some ⟨b, 0, none⟩)] (isDrB n) := by
 intro wq d k hB hD
 have hb2 := hb.below hB hb.lt
 have q := hb2.cell 0
 have ql := hb2.lt
 clear hD hb hb2
 show Calls _ _ #[.pointer (some ⟨d, 0, none⟩), .pointer (some ⟨b, 0, none⟩)] _ _
 go_enter Try.func107, Try.ntmps107
 go_wp2_with fail
 refine (isDraught_any n _).mono ?_
 rintro e w' ⟨rfl, rfl⟩
 go_wp2
 go_ret
 exact ⟨rfl, rfl⟩
theorem isG_bears (hv : okR r = true) (b b2 : Nat) (n m : Int) (hb : Blk w b 3 #[.int .i64 n]) (hb2 : Blk w b2 3 #[.int .i64 m]) : IsG w fa fl fc la ll lc r 70 #[.pointer (some ⟨b, 0, none⟩), .pointer (some ⟨b2, 0, none⟩)] (isDrB n && isDayB r m) := by
 intro wq d k hB hD
 obtain ⟨h1, h2⟩ := dayCell hD hv
 have hx := hb.below hB hb.lt
 have hy := hb2.below hB hb2.lt
 have q := hx.cell 0
 have ql := hx.lt
 have q2 := hy.cell 0
 have ql2 := hy.lt
 unfold isDayB
 clear hD hb hb2 hx hy
 show Calls _ _ #[.pointer (some ⟨d, 0, none⟩), .pointer (some ⟨b, 0, none⟩), .pointer (some ⟨b2, 0, none⟩)] _ _
 cases hdr : isDrB n
 ·go_enter Try.func70, Try.ntmps70
  go_wp2_with fail
  refine (isDraught_any n _).mono ?_
  rw [hdr]
  rintro e w' ⟨rfl, rfl⟩
  go_wp2
  go_ret
  exact ⟨rfl, rfl⟩
 ·go_enter Try.func70, Try.ntmps70
  go_wp2_with fail
  refine (isDraught_any n _).mono ?_
  rw [hdr]
  rintro e w' ⟨rfl, rfl⟩
  go_wp2_with fail
  refine (isDay_any m r.days _ h1 h2).mono ?_
  rintro e w' ⟨rfl, rfl⟩
  go_wp2
  go_ret
  exact ⟨rfl, rfl⟩
end
section
variable {B d k : Nat} {fa la : Option Addr} {fl fc ll lc : Nat} {r : Riv}
set_option maxHeartbeats 1600000 in
theorem bears_any (hv : r.Good) (draws day : Nat) (hday : day ≤ r.days) (w : World) (hD : GauIn w B d k fa fl fc la ll lc r) (hK : KeptOK w k r) :
  Calls Try.prog 72 #[(.pointer (some ⟨d, 0, none⟩)), .int .i64 draws, .int .i64 day] w fun e w' => e = .returned (.int .i64 (bearsP r draws day)) ∧ KeptOK w' k r ∧ w.grownBy w' (some k) := by
 obtain ⟨s, hs⟩ : ∃ s, s = depthP r day := ⟨_, rfl⟩
 have HS := Lib.hid hs
 have HD := Lib.hid hD
 have HV := Lib.hid hv
 have HK := Lib.hid hK
 have HDY := Lib.hid hday
 clear hD hv hK hday hs
 have key : ∀ n : Nat, Hid (bearsP r draws day = n) → Calls Try.prog 72 #[(.pointer (some ⟨d, 0, none⟩)), .int .i64 draws, .int .i64 day] w fun e w' => e = .returned (.int .i64 n) ∧ KeptOK w' k r ∧ w.grownBy w' (some k) := by
  intro n HN
  have hb1 : (2 ≤ 1000 : Prop) := by omega
  by_cases h1 : draws ≤ s.1
  ·have hn : n = 2 := by have := HN.out; unfold bearsP at this; rw [← HS.out, if_pos h1] at this; exact this.symm
   subst hn
   have g1 : (draws : Int) ≤ s.1 := by omega
   go_enter Try.func72, Try.ntmps72
   go_wp2_with fail
   refine (depth_any HV.out day HDY.out w HD.out HK.out).mono ?_
   rw [← HS.out]
   unfold hullV
   rintro e w1 ⟨rfl, hk1, hg1⟩
   have HK1 := Lib.hid hk1
   have HG1 := Lib.hid hg1
   clear hk1 hg1
   go_wp2
   go_ret
   refine ⟨rfl, HK1.out.turn (S := fun _ => False) ((Turn.refl _ _).alloc _) (fun _ _ h => h.elim), ?_⟩
   exact Turn.grownK ((Turn.of_grownK HG1.out).alloc _)
  ·have g1 : ¬ (draws : Int) ≤ s.1 := by omega
   by_cases h2 : draws ≤ s.2
   ·have hn : n = 1 := by have := HN.out; unfold bearsP at this; rw [← HS.out, if_neg h1, if_pos h2] at this; exact this.symm
    subst hn
    have g2 : (draws : Int) ≤ s.2 := by omega
    go_enter Try.func72, Try.ntmps72
    go_wp2_with fail
    refine (depth_any HV.out day HDY.out w HD.out HK.out).mono ?_
    rw [← HS.out]
    unfold hullV
    rintro e w1 ⟨rfl, hk1, hg1⟩
    have HK1 := Lib.hid hk1
    have HG1 := Lib.hid hg1
    clear hk1 hg1
    go_wp2
    go_ret
    refine ⟨rfl, HK1.out.turn (S := fun _ => False) ((Turn.refl _ _).alloc _) (fun _ _ h => h.elim), ?_⟩
    exact Turn.grownK ((Turn.of_grownK HG1.out).alloc _)
   ·have hn : n = 0 := by have := HN.out; unfold bearsP at this; rw [← HS.out, if_neg h1, if_neg h2] at this; exact this.symm
    subst hn
    have g2 : ¬ (draws : Int) ≤ s.2 := by omega
    go_enter Try.func72, Try.ntmps72
    go_wp2_with fail
    refine (depth_any HV.out day HDY.out w HD.out HK.out).mono ?_
    rw [← HS.out]
    unfold hullV
    rintro e w1 ⟨rfl, hk1, hg1⟩
    have HK1 := Lib.hid hk1
    have HG1 := Lib.hid hg1
    clear hk1 hg1
    go_wp2
    go_ret
    refine ⟨rfl, HK1.out.turn (S := fun _ => False) ((Turn.refl _ _).alloc _) (fun _ _ h => h.elim), ?_⟩
    exact Turn.grownK ((Turn.of_grownK HG1.out).alloc _)
 exact key _ (Lib.hid rfl)
end
end Go.Proofs.Ytiodmkokpfgkkaa
namespace Go.Proofs.Ytiodmkokpfgkkaa
open Go.RowKit Go.Hav Go.Shelf Go.Sq
attribute [local go_sem] Oper.semAt_some
section
variable {fa la : Option Addr} {fl fc ll lc : Nat} {r : IRiv} {w : World}
set_option maxRecDepth 100000 in
set_option maxHeartbeats 1600000 in
theorem PDepth_err (day : Int) (hP : RvIn w w.heap.size fa fl la ll r) (h : okR r = false ∨ isDayB r day = false) :
  Calls Try.prog 14 #[(.agg #[.int .i64 r.depth.lo, .int .i64 r.depth.hi, .int .i64 r.fall.lo, .int .i64 r.fall.hi, .int .i64 r.days, .slice fa fl fc, .slice la ll lc]), .int .i64 day] w fun e w' => e = .returned (.tuple #[hullV (depthV r day), .int .i64 (depthE r day)]) ∧ Below w.heap.size w w' := by
 obtain ⟨EE, hEE⟩ : ∃ EE : Int, EE = (depthE r day : Int) := ⟨_, rfl⟩
 have hE2 : depthE r day = if okR r = false then 1 else 2 := toldE_bad h
 have HR : Hid (Value.tuple #[hullV (depthV r day), .int .i64 (depthE r day)] = .tuple #[hullV (0, 0), .int .i64 EE]) := by
  show _ = _
  rw [hEE]
  unfold depthV
  rw [if_neg (by rw [hE2]; split <;> omega)]
 have HEE : Hid (((if okR r = false then 1 else 2 : Int)) = EE) := by show _ = _; rw [hEE, hE2]; split <;> rfl
 have HP := Lib.hid hP
 have HH := Lib.hid h
 have EG := Lib.hid (enters_of Try.func47 (by kernel_rfl) rfl)
 have EG44 := Lib.hid (enters_of Try.func44 (by kernel_rfl) rfl)
 clear hP h hEE hE2
 refine (callsIn_wide (n := 6)).1 (callsIn_of_wp_marks Try.func14 rfl trivial ?_ rfl)
 simp only [Try.ntmps14, List.size_toArray, List.length_cons, List.length_nil, Nat.reduceAdd, Nat.reduceSub, Array.replicate_succ, Array.replicate_zero, List.push_toArray, List.append_toArray, List.nil_append, List.cons_append]
 refine wpIn_wide.2 ?_
 have hmf : ∀ (fn : Fn) (first cap : Array Value) (w : World), (Instr.makeFunc fn first cap).run Try.prog w = .ok (.func fn first cap) w := fun _ _ _ _ => rfl
 go_upto_region 2 with (fail)
 obtain ⟨W, hW⟩ : ∃ W, W = (((w.alloc (.cells #[.int .i64 r.depth.lo, .int .i64 r.depth.hi, .int .i64 r.fall.lo, .int .i64 r.fall.hi, .int .i64 r.days, .slice fa fl fc, .slice la ll lc] 27)).alloc (.cells #[.int .i64 day] 3)).alloc (.cells #[.int .i64 0, .int .i64 0] 23)).alloc (.cells #[.int .i64 0] 30) := ⟨_, rfl⟩
 obtain ⟨B2, hB2⟩ : ∃ B2, B2 = w.heap.size := ⟨_, rfl⟩
 obtain ⟨B3, hB3⟩ : ∃ B3, B3 = w.heap.size + 1 := ⟨_, rfl⟩
 obtain ⟨B4, hB4⟩ : ∃ B4, B4 = w.heap.size + 1 + 1 := ⟨_, rfl⟩
 obtain ⟨B5, hB5⟩ : ∃ B5, B5 = w.heap.size + 1 + 1 + 1 := ⟨_, rfl⟩
 have HB0 : Hid (Below w.heap.size w W) := by rw [hW]; exact ((((Below.refl _ _).alloc (Nat.le_refl _) _).alloc (by simp) _).alloc (by simp; omega) _).alloc (by simp; omega) _
 have HXB : Hid (Blk W B2 27 #[.int .i64 r.depth.lo, .int .i64 r.depth.hi, .int .i64 r.fall.lo, .int .i64 r.fall.hi, .int .i64 r.days, .slice fa fl fc, .slice la ll lc]) := by rw [hW, hB2]; exact (((Blk.new w 27 _).alloc _).alloc _).alloc _
 have HX3 : Hid (Blk W B3 3 #[.int .i64 day]) := by rw [hW, hB3]; exact ((Blk.new_ (by simp) 3 _).alloc _).alloc _
 have HX4 : Hid (Blk W B4 23 #[.int .i64 0, .int .i64 0]) := by rw [hW, hB4]; exact (Blk.new_ (by simp) 23 _).alloc _
 have HX5 : Hid (Blk W B5 30 #[.int .i64 0]) := by rw [hW, hB5]; exact Blk.new_ (by simp) 30 _
 have HE : Hid (w.heap.size ≤ B4 ∧ w.heap.size ≤ B5 ∧ B4 ≠ B5 ∧ w.heap.size ≤ W.heap.size) := ⟨by omega, by omega, by omega, HB0.out.size⟩
 rw [← hW, ← hB5, ← hB4, ← hB3, ← hB2]
 clear hW hB2 hB3 hB4 hB5
 refine HavG.wp_region_stg (fun wv => Below W.heap.size W wv) [(0,false),(1,false),(4,false),(2,true),(3,true),(5,true)] [6, 7] (fun ch wp => ch = [refE EE] ∧ Below W.heap.size W wp) (by kernel_rfl) (by kernel_rfl) ?hQ (Below.drew (Below.refl _ _)) ?_
 case hQ =>
  rintro ch a' w' hA ⟨rfl, hb⟩
  show LeavesInM Fence.wide 6 Try.prog Try.f14 a'.tmps _ a'.defers (.panicking [refE _]) w'
  rw [hA.1]
  obtain ⟨e1, e2, e3, e4⟩ := HE.out
  refine api_panic (ds := []) (B := W.heap.size) isAns44 EG44.out (Marks.nil _ _) (HX5.out.below hb HX5.out.lt) (fun w2 hk2 hfar hbel => ?_)
  have HS' : Blk w2 B4 23 #[.int .i64 0, .int .i64 0] := hfar _ _ _ e3 (HX4.out.below hb HX4.out.lt)
  have g0 := hk2.cell 0
  have g1 := HS'.cell 0
  have g2 := HS'.cell 1
  have s4 := hA.slot 4 (by kernel_rfl)
  have s5 := hA.slot 5 (by kernel_rfl)
  simp at s4 s5 g0 g1 g2
  refine ⟨.tuple #[hullV (0, 0), .int .i64 EE], by simp [results, Try.results14, go_sem, s4, s5, g0, g1, g2, hullV], by rw [HR.out], ?_⟩
  exact HB0.out.trans ((hb.mono e4).trans ((hbel w.heap.size e4 e2).mono (Nat.le_refl _)))
 (apply HavG.stg_same (by simp only [List.getElem?_toArray, List.getElem?_cons_zero]; rfl) (by kernel_rfl); (focus (intro wv hI; have hx := HXB.out.below hI HXB.out.lt; have q0 := hx.cell 0; have q1 := hx.cell 1; have q2 := hx.cell 2; have q3 := hx.cell 3; have q4 := hx.cell 4; have q5 := hx.cell 5; have q6 := hx.cell 6; have ql := hx.lt; (try go_simp); try rfl; done)); simp only [Act.put, List.setIfInBounds_toArray, List.set_cons_succ, List.set_cons_zero])
 (apply HavG.stg_same (by simp only [List.getElem?_toArray, List.getElem?_cons_succ, List.getElem?_cons_zero]; rfl) (by kernel_rfl); (focus (intro wv hI; skip; (try go_simp); try rfl; done)); simp only [Act.put, List.setIfInBounds_toArray, List.set_cons_succ, List.set_cons_zero])
 (apply HavG.stg_same (by simp only [List.getElem?_toArray, List.getElem?_cons_succ, List.getElem?_cons_zero]; rfl) (by kernel_rfl); (focus (intro wv hI; have hx := HX3.out.below hI HX3.out.lt; have q0 := hx.cell 0; have ql := hx.lt; (try go_simp); try rfl; done)); simp only [Act.put, List.setIfInBounds_toArray, List.set_cons_succ, List.set_cons_zero])
 (apply HavG.stg_call (by simp only [List.getElem?_toArray, List.getElem?_cons_succ, List.getElem?_cons_zero]; rfl) (by kernel_rfl); (focus (go_simp; try exact ⟨rfl, rfl⟩; done)))
 refine (open_err 47 #[.pointer (some ⟨B3, 0, none⟩)] EG.out (HP.out.grow (Below.drew HB0.out)) (fun hv => isG_day hv B3 day HX3.out.drew) HH.out).mono ?_
 rintro e w' ⟨h1, h2⟩
 rw [HEE.out] at h1
 exact .inr ⟨_, h1, rfl, (Below.drew (Below.refl _ _)).trans h2⟩
set_option maxRecDepth 100000 in
set_option maxHeartbeats 1600000 in
theorem PDepth_clash (day : Int) (hP : RvIn w w.heap.size fa fl la ll r) (hv : okR r = true) (hi : isDayB r day = true) (ht : truthsA r.nat = []) :
  Calls Try.prog 14 #[(.agg #[.int .i64 r.depth.lo, .int .i64 r.depth.hi, .int .i64 r.fall.lo, .int .i64 r.fall.hi, .int .i64 r.days, .slice fa fl fc, .slice la ll lc]), .int .i64 day] w fun e w' => e = .returned (.tuple #[hullV (depthV r day), .int .i64 (depthE r day)]) ∧ Below w.heap.size w w' := by
 obtain ⟨EE, hEE⟩ : ∃ EE : Int, EE = 10 := ⟨_, rfl⟩
 have hE2 : depthE r day = 10 := toldE_clash hv hi ht
 have HR : Hid (Value.tuple #[hullV (depthV r day), .int .i64 (depthE r day)] = .tuple #[hullV (0, 0), .int .i64 EE]) := by
  show _ = _
  rw [hEE, hE2]
  unfold depthV
  rw [if_neg (by rw [hE2]; omega)]
  rfl
 have HEE : Hid (EE = 10) := hEE
 have HP := Lib.hid hP
 have HV := Lib.hid hv
 have HC : Hid (canB r.nat (full r.nat.lk.length) = false) := by show _ = _; rw [can_of hv, ht]; rfl
 have HH := Lib.hid hi
 have EG := Lib.hid (enters_of Try.func47 (by kernel_rfl) rfl)
 have EG44 := Lib.hid (enters_of Try.func44 (by kernel_rfl) rfl)
 clear hP hv hi ht hEE hE2
 refine (callsIn_wide (n := 6)).1 (callsIn_of_wp_marks Try.func14 rfl trivial ?_ rfl)
 simp only [Try.ntmps14, List.size_toArray, List.length_cons, List.length_nil, Nat.reduceAdd, Nat.reduceSub, Array.replicate_succ, Array.replicate_zero, List.push_toArray, List.append_toArray, List.nil_append, List.cons_append]
 refine wpIn_wide.2 ?_
 have hmf : ∀ (fn : Fn) (first cap : Array Value) (w : World), (Instr.makeFunc fn first cap).run Try.prog w = .ok (.func fn first cap) w := fun _ _ _ _ => rfl
 go_upto_region 2 with (fail)
 obtain ⟨W, hW⟩ : ∃ W, W = (((w.alloc (.cells #[.int .i64 r.depth.lo, .int .i64 r.depth.hi, .int .i64 r.fall.lo, .int .i64 r.fall.hi, .int .i64 r.days, .slice fa fl fc, .slice la ll lc] 27)).alloc (.cells #[.int .i64 day] 3)).alloc (.cells #[.int .i64 0, .int .i64 0] 23)).alloc (.cells #[.int .i64 0] 30) := ⟨_, rfl⟩
 obtain ⟨B2, hB2⟩ : ∃ B2, B2 = w.heap.size := ⟨_, rfl⟩
 obtain ⟨B3, hB3⟩ : ∃ B3, B3 = w.heap.size + 1 := ⟨_, rfl⟩
 obtain ⟨B4, hB4⟩ : ∃ B4, B4 = w.heap.size + 1 + 1 := ⟨_, rfl⟩
 obtain ⟨B5, hB5⟩ : ∃ B5, B5 = w.heap.size + 1 + 1 + 1 := ⟨_, rfl⟩
 have HB0 : Hid (Below w.heap.size w W) := by rw [hW]; exact ((((Below.refl _ _).alloc (Nat.le_refl _) _).alloc (by simp) _).alloc (by simp; omega) _).alloc (by simp; omega) _
 have HXB : Hid (Blk W B2 27 #[.int .i64 r.depth.lo, .int .i64 r.depth.hi, .int .i64 r.fall.lo, .int .i64 r.fall.hi, .int .i64 r.days, .slice fa fl fc, .slice la ll lc]) := by rw [hW, hB2]; exact (((Blk.new w 27 _).alloc _).alloc _).alloc _
 have HX3 : Hid (Blk W B3 3 #[.int .i64 day]) := by rw [hW, hB3]; exact ((Blk.new_ (by simp) 3 _).alloc _).alloc _
 have HX4 : Hid (Blk W B4 23 #[.int .i64 0, .int .i64 0]) := by rw [hW, hB4]; exact (Blk.new_ (by simp) 23 _).alloc _
 have HX5 : Hid (Blk W B5 30 #[.int .i64 0]) := by rw [hW, hB5]; exact Blk.new_ (by simp) 30 _
 have HE : Hid (w.heap.size ≤ B4 ∧ w.heap.size ≤ B5 ∧ B4 ≠ B5 ∧ w.heap.size ≤ W.heap.size) := ⟨by omega, by omega, by omega, HB0.out.size⟩
 rw [← hW, ← hB5, ← hB4, ← hB3, ← hB2]
 clear hW hB2 hB3 hB4 hB5
 refine HavG.wp_region_stg (fun wv => Below W.heap.size W wv) [(0,false),(1,false),(4,false),(2,true),(3,true),(5,true)] [6, 7] (fun ch wp => ch = [refE EE] ∧ Below W.heap.size W wp) (by kernel_rfl) (by kernel_rfl) ?hQ (Below.drew (Below.refl _ _)) ?_
 case hQ =>
  rintro ch a' w' hA ⟨rfl, hb⟩
  show LeavesInM Fence.wide 6 Try.prog Try.f14 a'.tmps _ a'.defers (.panicking [refE _]) w'
  rw [hA.1]
  obtain ⟨e1, e2, e3, e4⟩ := HE.out
  refine api_panic (ds := []) (B := W.heap.size) isAns44 EG44.out (Marks.nil _ _) (HX5.out.below hb HX5.out.lt) (fun w2 hk2 hfar hbel => ?_)
  have HS' : Blk w2 B4 23 #[.int .i64 0, .int .i64 0] := hfar _ _ _ e3 (HX4.out.below hb HX4.out.lt)
  have g0 := hk2.cell 0
  have g1 := HS'.cell 0
  have g2 := HS'.cell 1
  have s4 := hA.slot 4 (by kernel_rfl)
  have s5 := hA.slot 5 (by kernel_rfl)
  simp at s4 s5 g0 g1 g2
  refine ⟨.tuple #[hullV (0, 0), .int .i64 EE], by simp [results, Try.results14, go_sem, s4, s5, g0, g1, g2, hullV], by rw [HR.out], ?_⟩
  exact HB0.out.trans ((hb.mono e4).trans ((hbel w.heap.size e4 e2).mono (Nat.le_refl _)))
 (apply HavG.stg_same (by simp only [List.getElem?_toArray, List.getElem?_cons_zero]; rfl) (by kernel_rfl); (focus (intro wv hI; have hx := HXB.out.below hI HXB.out.lt; have q0 := hx.cell 0; have q1 := hx.cell 1; have q2 := hx.cell 2; have q3 := hx.cell 3; have q4 := hx.cell 4; have q5 := hx.cell 5; have q6 := hx.cell 6; have ql := hx.lt; (try go_simp); try rfl; done)); simp only [Act.put, List.setIfInBounds_toArray, List.set_cons_succ, List.set_cons_zero])
 (apply HavG.stg_same (by simp only [List.getElem?_toArray, List.getElem?_cons_succ, List.getElem?_cons_zero]; rfl) (by kernel_rfl); (focus (intro wv hI; skip; (try go_simp); try rfl; done)); simp only [Act.put, List.setIfInBounds_toArray, List.set_cons_succ, List.set_cons_zero])
 (apply HavG.stg_same (by simp only [List.getElem?_toArray, List.getElem?_cons_succ, List.getElem?_cons_zero]; rfl) (by kernel_rfl); (focus (intro wv hI; have hx := HX3.out.below hI HX3.out.lt; have q0 := hx.cell 0; have ql := hx.lt; (try go_simp); try rfl; done)); simp only [Act.put, List.setIfInBounds_toArray, List.set_cons_succ, List.set_cons_zero])
 (apply HavG.stg_call (by simp only [List.getElem?_toArray, List.getElem?_cons_succ, List.getElem?_cons_zero]; rfl) (by kernel_rfl); (focus (go_simp; try exact ⟨rfl, rfl⟩; done)))
 refine (open_ok 47 #[.pointer (some ⟨B3, 0, none⟩)] EG.out (HP.out.grow (Below.drew HB0.out)) (fun hv => by have := isG_day (fa := fa) (fl := fl) (fc := fc) (la := la) (ll := ll) (lc := lc) hv B3 day HX3.out.drew; rwa [HH.out] at this) HV.out).mono ?_
 rintro e w1 ⟨d, k, rfl, hD, hK, hb0⟩
 have hb1 : Below W.heap.size W w1 := (Below.drew (Below.refl _ _)).trans hb0
 refine .inl ⟨_, rfl, hb1, ?_⟩
 simp only [Act.put, List.setIfInBounds_toArray, List.set_cons_succ, List.set_cons_zero]
 (apply HavG.stg_call (by simp only [List.getElem?_toArray, List.getElem?_cons_succ, List.getElem?_cons_zero]; rfl) (by kernel_rfl); (focus (go_simp; try exact ⟨rfl, rfl⟩; done)))
 refine (told_no (good_of HV.out) HC.out w1 hD hK).mono ?_
 rintro e w2 ⟨h1, h2, h3⟩
 exact .inr ⟨_, h1, by rw [HEE.out], hb1.trans ((Turn.of_grownK h3).below hb1.size (fun b e => by have e' : b = k := e; have := hD.hk; rw [e']; exact this))⟩
set_option maxRecDepth 100000 in
set_option maxHeartbeats 1600000 in
theorem PDepth_ok (n : Nat) (hP : RvIn w w.heap.size fa fl la ll r) (hv : okR r = true) (hi : isDayB r n = true) (ht : truthsA r.nat ≠ []) :
  Calls Try.prog 14 #[(.agg #[.int .i64 r.depth.lo, .int .i64 r.depth.hi, .int .i64 r.fall.lo, .int .i64 r.fall.hi, .int .i64 r.days, .slice fa fl fc, .slice la ll lc]), .int .i64 n] w fun e w' => e = .returned (.tuple #[hullV (depthV r n), .int .i64 (depthE r n)]) ∧ Below w.heap.size w w' := by
 obtain ⟨s, hs⟩ : ∃ s, s = depthP r.nat n := ⟨_, rfl⟩
 obtain ⟨day, hday⟩ : ∃ day : Int, day = n := ⟨_, rfl⟩
 have hE2 : depthE r n = 0 := toldE_fine hv hi ht
 have HR : Hid (Value.tuple #[hullV (depthV r n), .int .i64 (depthE r n)] = .tuple #[.agg #[.int .i64 s.1, .int .i64 s.2], .int .i64 0]) := by
  show _ = _
  unfold depthV
  rw [if_pos hE2, hE2, hs]
  rfl
 have HN : Hid (n ≤ r.nat.days) := by
  have := inB_iff.1 hi
  show n ≤ r.days.toNat
  omega
 have HSS := Lib.hid hs
 have HP := Lib.hid hP
 have HV := Lib.hid hv
 have HC : Hid (canB r.nat (full r.nat.lk.length) = true) := by show _ = _; rw [can_of hv]; simp [ht]
 have HH : Hid (isDayB r day = true) := by rw [hday]; exact hi
 have HDY := Lib.hid hday
 rw [← hday]
 have EG := Lib.hid (enters_of Try.func47 (by kernel_rfl) rfl)
 have EG44 := Lib.hid (enters_of Try.func44 (by kernel_rfl) rfl)
 clear hP hv hi ht hE2 hs hday
 refine (callsIn_wide (n := 6)).1 (callsIn_of_wp_marks Try.func14 rfl trivial ?_ rfl)
 simp only [Try.ntmps14, List.size_toArray, List.length_cons, List.length_nil, Nat.reduceAdd, Nat.reduceSub, Array.replicate_succ, Array.replicate_zero, List.push_toArray, List.append_toArray, List.nil_append, List.cons_append]
 refine wpIn_wide.2 ?_
 have hmf : ∀ (fn : Fn) (first cap : Array Value) (w : World), (Instr.makeFunc fn first cap).run Try.prog w = .ok (.func fn first cap) w := fun _ _ _ _ => rfl
 go_upto_region 2 with (fail)
 obtain ⟨W, hW⟩ : ∃ W, W = (((w.alloc (.cells #[.int .i64 r.depth.lo, .int .i64 r.depth.hi, .int .i64 r.fall.lo, .int .i64 r.fall.hi, .int .i64 r.days, .slice fa fl fc, .slice la ll lc] 27)).alloc (.cells #[.int .i64 day] 3)).alloc (.cells #[.int .i64 0, .int .i64 0] 23)).alloc (.cells #[.int .i64 0] 30) := ⟨_, rfl⟩
 obtain ⟨B2, hB2⟩ : ∃ B2, B2 = w.heap.size := ⟨_, rfl⟩
 obtain ⟨B3, hB3⟩ : ∃ B3, B3 = w.heap.size + 1 := ⟨_, rfl⟩
 obtain ⟨B4, hB4⟩ : ∃ B4, B4 = w.heap.size + 1 + 1 := ⟨_, rfl⟩
 obtain ⟨B5, hB5⟩ : ∃ B5, B5 = w.heap.size + 1 + 1 + 1 := ⟨_, rfl⟩
 have HB0 : Hid (Below w.heap.size w W) := by rw [hW]; exact ((((Below.refl _ _).alloc (Nat.le_refl _) _).alloc (by simp) _).alloc (by simp; omega) _).alloc (by simp; omega) _
 have HXB : Hid (Blk W B2 27 #[.int .i64 r.depth.lo, .int .i64 r.depth.hi, .int .i64 r.fall.lo, .int .i64 r.fall.hi, .int .i64 r.days, .slice fa fl fc, .slice la ll lc]) := by rw [hW, hB2]; exact (((Blk.new w 27 _).alloc _).alloc _).alloc _
 have HX3 : Hid (Blk W B3 3 #[.int .i64 day]) := by rw [hW, hB3]; exact ((Blk.new_ (by simp) 3 _).alloc _).alloc _
 have HX4 : Hid (Blk W B4 23 #[.int .i64 0, .int .i64 0]) := by rw [hW, hB4]; exact (Blk.new_ (by simp) 23 _).alloc _
 have HX5 : Hid (Blk W B5 30 #[.int .i64 0]) := by rw [hW, hB5]; exact Blk.new_ (by simp) 30 _
 have HE : Hid (w.heap.size ≤ B4 ∧ w.heap.size ≤ B5 ∧ B4 ≠ B5 ∧ w.heap.size ≤ W.heap.size) := ⟨by omega, by omega, by omega, HB0.out.size⟩
 rw [← hW, ← hB5, ← hB4, ← hB3, ← hB2]
 clear hW hB2 hB3 hB4 hB5
 refine HavG.wp_region_stg (fun wv => Below W.heap.size W wv) [(0,false),(1,false),(4,false),(2,true),(3,true),(5,true)] [6, 7] (fun _ _ => False) (by kernel_rfl) (by kernel_rfl) (fun _ _ _ _ h => h.elim) (Below.drew (Below.refl _ _)) ?_
 (apply HavG.stg_same (by simp only [List.getElem?_toArray, List.getElem?_cons_zero]; rfl) (by kernel_rfl); (focus (intro wv hI; have hx := HXB.out.below hI HXB.out.lt; have q0 := hx.cell 0; have q1 := hx.cell 1; have q2 := hx.cell 2; have q3 := hx.cell 3; have q4 := hx.cell 4; have q5 := hx.cell 5; have q6 := hx.cell 6; have ql := hx.lt; (try go_simp); try rfl; done)); simp only [Act.put, List.setIfInBounds_toArray, List.set_cons_succ, List.set_cons_zero])
 (apply HavG.stg_same (by simp only [List.getElem?_toArray, List.getElem?_cons_succ, List.getElem?_cons_zero]; rfl) (by kernel_rfl); (focus (intro wv hI; skip; (try go_simp); try rfl; done)); simp only [Act.put, List.setIfInBounds_toArray, List.set_cons_succ, List.set_cons_zero])
 (apply HavG.stg_same (by simp only [List.getElem?_toArray, List.getElem?_cons_succ, List.getElem?_cons_zero]; rfl) (by kernel_rfl); (focus (intro wv hI; have hx := HX3.out.below hI HX3.out.lt; have q0 := hx.cell 0; have ql := hx.lt; (try go_simp); try rfl; done)); simp only [Act.put, List.setIfInBounds_toArray, List.set_cons_succ, List.set_cons_zero])
 (apply HavG.stg_call (by simp only [List.getElem?_toArray, List.getElem?_cons_succ, List.getElem?_cons_zero]; rfl) (by kernel_rfl); (focus (go_simp; try exact ⟨rfl, rfl⟩; done)))
 refine (open_ok 47 #[.pointer (some ⟨B3, 0, none⟩)] EG.out (HP.out.grow (Below.drew HB0.out)) (fun hv => by have := isG_day (fa := fa) (fl := fl) (fc := fc) (la := la) (ll := ll) (lc := lc) hv B3 day HX3.out.drew; rwa [HH.out] at this) HV.out).mono ?_
 rintro e w1 ⟨d, k, rfl, hD, hK, hb0⟩
 have hb1 : Below W.heap.size W w1 := (Below.drew (Below.refl _ _)).trans hb0
 refine .inl ⟨_, rfl, hb1, ?_⟩
 simp only [Act.put, List.setIfInBounds_toArray, List.set_cons_succ, List.set_cons_zero]
 (apply HavG.stg_call (by simp only [List.getElem?_toArray, List.getElem?_cons_succ, List.getElem?_cons_zero]; rfl) (by kernel_rfl); (focus (go_simp; try exact ⟨rfl, rfl⟩; done)))
 refine (told_yes (good_of HV.out) HC.out w1 hD hK).mono ?_
 rintro e w2 ⟨rfl, hk2, hg2⟩
 have hkW : W.heap.size ≤ k := hD.hk
 have hb2 : Below W.heap.size W w2 := hb1.trans ((Turn.of_grownK hg2).below hb1.size (fun b e => by have e' : b = k := e; rw [e']; exact hkW))
 have hD2 := hD.turn (Turn.of_grownK hg2) (fun b e => by have e' : b = k := e; rw [e']; exact hkW) (fun e => hD.kd (show d = k from e).symm)
 refine .inl ⟨_, rfl, hb2, ?_⟩
 simp only [Act.put, List.setIfInBounds_toArray, List.set_cons_succ, List.set_cons_zero]
 (apply HavG.stg_call (by simp only [List.getElem?_toArray, List.getElem?_cons_succ, List.getElem?_cons_zero]; rfl) (by kernel_rfl); (focus (go_simp; try exact ⟨rfl, rfl⟩; done)))
 rw [HDY.out]
 refine (depth_any (good_of HV.out) n HN.out w2 hD2 hk2).mono ?_
 rw [← HSS.out]
 unfold hullV
 rintro e w3 ⟨rfl, hk3, hg3⟩
 have hb3 : Below W.heap.size W w3 := hb2.trans ((Turn.of_grownK hg3).below hb2.size (fun b e => by have e' : b = k := e; rw [e']; exact hkW))
 refine .inl ⟨_, rfl, hb3, ?_⟩
 simp only [Act.put, List.setIfInBounds_toArray, List.set_cons_succ, List.set_cons_zero]
 simp only [HavG.wpStg, List.filterMap]
 have HB3 := Lib.hid hb3
 have HY4 : Hid (Blk w3 B4 23 #[.int .i64 0, .int .i64 0]) := HX4.out.below hb3 HX4.out.lt
 have HY5 : Hid (Blk w3 B5 30 #[.int .i64 0]) := HX5.out.below hb3 HX5.out.lt
 have c0 : w3.cell? ⟨B4, 0, none⟩ = some (.int .i64 0) := HY4.out.cell 0
 have c1 : w3.cell? ⟨B4, 1, none⟩ = some (.int .i64 0) := HY4.out.cell 1
 have c2 : w3.cell? ⟨B5, 0, none⟩ = some (.int .i64 0) := HY5.out.cell 0
 have f0 := HY4.out.frozen 0
 have f1 := HY4.out.frozen 1
 have f2 := HY5.out.frozen 0
 have l4 := HY4.out.lt
 have l5 := HY5.out.lt
 have hne : B4 ≠ B5 := HE.out.2.2.1
 clear hD hK hb0 hb1 hk2 hg2 hb2 hD2 hk3 hg3 hb3
 go_wp2
 obtain ⟨W9, hW9⟩ : ∃ W9, W9 = ((w3.setCell ⟨B4, 0, none⟩ (.int .i64 (s.1 : Int))).setCell ⟨B4, 1, none⟩ (.int .i64 (s.2 : Int))).setCell ⟨B5, 0, none⟩ (.int .i64 0) := ⟨_, rfl⟩
 rw [← hW9]
 have HT4 : Blk W9 B4 23 #[.int .i64 s.1, .int .i64 s.2] := by rw [hW9]; exact ((HY4.out.set_ 0 _).set_ 1 _).far (p := ⟨B5, 0, none⟩) hne _
 have HT5 : Blk W9 B5 30 #[.int .i64 0] := by rw [hW9]; exact ((HY5.out.far (p := ⟨B4, 0, none⟩) (fun e => hne e.symm) _).far (p := ⟨B4, 1, none⟩) (fun e => hne e.symm) _).set_ 0 _
 obtain ⟨e1, e2, _, e4⟩ := HE.out
 have hB9 : Below w.heap.size w W9 := by rw [hW9]; exact setCell_below (setCell_below (setCell_below (HB0.out.trans (HB3.out.mono e4)) e1 _ _) e1 _ _) e2 _ _
 have hz9 : W.heap.size ≤ W9.heap.size := by rw [hW9]; simp [World.setCell]; exact HB3.out.size
 refine api_ret (ds := []) (B := W.heap.size) isAns44 EG44.out (Marks.nil _ _) (fun w4 hk hbel => ?_)
 have g0 := (hk _ _ _ HT5).cell 0
 have g1 := (hk _ _ _ HT4).cell 0
 have g2 := (hk _ _ _ HT4).cell 1
 simp at g0 g1 g2
 rw [← HDY.out] at HR
 refine ⟨.tuple #[.agg #[.int .i64 s.1, .int .i64 s.2], .int .i64 0], by simp [results, Try.results14, go_sem, g0, g1, g2], by rw [HR.out], ?_⟩
 exact hB9.trans (hbel w.heap.size e4)
theorem PDepth_any (day : Int) (hP : RvIn w w.heap.size fa fl la ll r) :
  Calls Try.prog 14 #[(.agg #[.int .i64 r.depth.lo, .int .i64 r.depth.hi, .int .i64 r.fall.lo, .int .i64 r.fall.hi, .int .i64 r.days, .slice fa fl fc, .slice la ll lc]), .int .i64 day] w fun e w' => e = .returned (.tuple #[hullV (depthV r day), .int .i64 (depthE r day)]) ∧ Below w.heap.size w w' := by
 cases hv : okR r
 ·exact PDepth_err day hP (.inl hv)
 cases hi : isDayB r day
 ·exact PDepth_err day hP (.inr hi)
 by_cases ht : truthsA r.nat = []
 ·exact PDepth_clash day hP hv hi ht
 ·obtain ⟨n, rfl⟩ : ∃ n : Nat, day = n := ⟨day.toNat, by have := inB_iff.1 hi; omega⟩
  exact PDepth_ok n hP hv hi ht
end
end Go.Proofs.Ytiodmkokpfgkkaa
namespace Go.Proofs.Ytiodmkokpfgkkaa
open Go.RowKit Go.Hav Go.Shelf Go.Sq
attribute [local go_sem] Oper.semAt_some
section
variable {fa la : Option Addr} {fl fc ll lc : Nat} {r : IRiv} {w : World}
set_option maxRecDepth 100000 in
set_option maxHeartbeats 1600000 in
theorem PBears_err (draws day : Int) (hP : RvIn w w.heap.size fa fl la ll r) (h : okR r = false ∨ (isDrB draws && isDayB r day) = false) :
  Calls Try.prog 20 #[(.agg #[.int .i64 r.depth.lo, .int .i64 r.depth.hi, .int .i64 r.fall.lo, .int .i64 r.fall.hi, .int .i64 r.days, .slice fa fl fc, .slice la ll lc]), .int .i64 draws, .int .i64 day] w fun e w' => e = .returned (.tuple #[.int .i64 (bearsV r draws day), .int .i64 (bearsE r draws day)]) ∧ Below w.heap.size w w' := by
 obtain ⟨EE, hEE⟩ : ∃ EE : Int, EE = (bearsE r draws day : Int) := ⟨_, rfl⟩
 have hE2 : bearsE r draws day = if okR r = false then 1 else 2 := toldE_bad h
 have HR : Hid (Value.tuple #[.int .i64 (bearsV r draws day), .int .i64 (bearsE r draws day)] = .tuple #[.int .i64 0, .int .i64 EE]) := by
  show _ = _
  rw [hEE]
  unfold bearsV
  rw [if_neg (by rw [hE2]; split <;> omega)]
  rfl
 have HEE : Hid (((if okR r = false then 1 else 2 : Int)) = EE) := by show _ = _; rw [hEE, hE2]; split <;> rfl
 have HP := Lib.hid hP
 have HH := Lib.hid h
 have EG := Lib.hid (enters_of Try.func70 (by kernel_rfl) rfl)
 have EG69 := Lib.hid (enters_of Try.func69 (by kernel_rfl) rfl)
 clear hP h hEE hE2
 refine (callsIn_wide (n := 6)).1 (callsIn_of_wp_marks Try.func20 rfl trivial ?_ rfl)
 simp only [Try.ntmps20, List.size_toArray, List.length_cons, List.length_nil, Nat.reduceAdd, Nat.reduceSub, Array.replicate_succ, Array.replicate_zero, List.push_toArray, List.append_toArray, List.nil_append, List.cons_append]
 refine wpIn_wide.2 ?_
 have hmf : ∀ (fn : Fn) (first cap : Array Value) (w : World), (Instr.makeFunc fn first cap).run Try.prog w = .ok (.func fn first cap) w := fun _ _ _ _ => rfl
 go_upto_region 2 with (fail)
 obtain ⟨W, hW⟩ : ∃ W, W = (((w.alloc (.cells #[.int .i64 r.depth.lo, .int .i64 r.depth.hi, .int .i64 r.fall.lo, .int .i64 r.fall.hi, .int .i64 r.days, .slice fa fl fc, .slice la ll lc] 27)).alloc (.cells #[.int .i64 draws] 3)).alloc (.cells #[.int .i64 day] 3)).alloc (.cells #[.int .i64 0] 30) := ⟨_, rfl⟩
 obtain ⟨B2, hB2⟩ : ∃ B2, B2 = w.heap.size := ⟨_, rfl⟩
 obtain ⟨B3, hB3⟩ : ∃ B3, B3 = w.heap.size + 1 := ⟨_, rfl⟩
 obtain ⟨B4, hB4⟩ : ∃ B4, B4 = w.heap.size + 1 + 1 := ⟨_, rfl⟩
 obtain ⟨B5, hB5⟩ : ∃ B5, B5 = w.heap.size + 1 + 1 + 1 := ⟨_, rfl⟩
 have HB0 : Hid (Below w.heap.size w W) := by rw [hW]; exact ((((Below.refl _ _).alloc (Nat.le_refl _) _).alloc (by simp) _).alloc (by simp; omega) _).alloc (by simp; omega) _
 have HXB : Hid (Blk W B2 27 #[.int .i64 r.depth.lo, .int .i64 r.depth.hi, .int .i64 r.fall.lo, .int .i64 r.fall.hi, .int .i64 r.days, .slice fa fl fc, .slice la ll lc]) := by rw [hW, hB2]; exact (((Blk.new w 27 _).alloc _).alloc _).alloc _
 have HX3 : Hid (Blk W B3 3 #[.int .i64 draws]) := by rw [hW, hB3]; exact ((Blk.new_ (by simp) 3 _).alloc _).alloc _
 have HX4 : Hid (Blk W B4 3 #[.int .i64 day]) := by rw [hW, hB4]; exact (Blk.new_ (by simp) 3 _).alloc _
 have HX5 : Hid (Blk W B5 30 #[.int .i64 0]) := by rw [hW, hB5]; exact Blk.new_ (by simp) 30 _
 have HE : Hid (w.heap.size ≤ B4 ∧ w.heap.size ≤ B5 ∧ B4 ≠ B5 ∧ w.heap.size ≤ W.heap.size) := ⟨by omega, by omega, by omega, HB0.out.size⟩
 rw [← hW, ← hB5, ← hB4, ← hB3, ← hB2]
 clear hW hB2 hB3 hB4 hB5
 refine HavG.wp_region_stg (fun wv => Below W.heap.size W wv) [(0,false),(1,false),(4,false),(5,false),(2,true),(3,true),(6,true)] [7, 8] (fun ch wp => ch = [refE EE] ∧ Below W.heap.size W wp) (by kernel_rfl) (by kernel_rfl) ?hQ (Below.drew (Below.refl _ _)) ?_
 case hQ =>
  rintro ch a' w' hA ⟨rfl, hb⟩
  show LeavesInM Fence.wide 6 Try.prog Try.f20 a'.tmps _ a'.defers (.panicking [refE _]) w'
  rw [hA.1]
  obtain ⟨_, e2, _, e4⟩ := HE.out
  refine api_panic (ds := []) (B := W.heap.size) isAns69 EG69.out (Marks.nil _ _) (HX5.out.below hb HX5.out.lt) (fun w2 hk2 _ hbel => ?_)
  have g0 := hk2.cell 0
  have s6 := hA.slot 6 (by kernel_rfl)
  have s7 := hA.slot 7 (by kernel_rfl)
  simp at s6 s7 g0
  refine ⟨.tuple #[.int .i64 0, .int .i64 EE], by simp [results, Try.results20, go_sem, s6, s7, g0], by rw [HR.out], ?_⟩
  exact HB0.out.trans ((hb.mono e4).trans ((hbel w.heap.size e4 e2).mono (Nat.le_refl _)))
 (apply HavG.stg_same (by simp only [List.getElem?_toArray, List.getElem?_cons_zero]; rfl) (by kernel_rfl); (focus (intro wv hI; have hx := HXB.out.below hI HXB.out.lt; have q0 := hx.cell 0; have q1 := hx.cell 1; have q2 := hx.cell 2; have q3 := hx.cell 3; have q4 := hx.cell 4; have q5 := hx.cell 5; have q6 := hx.cell 6; have ql := hx.lt; (try go_simp); try rfl; done)); simp only [Act.put, List.setIfInBounds_toArray, List.set_cons_succ, List.set_cons_zero])
 (apply HavG.stg_same (by simp only [List.getElem?_toArray, List.getElem?_cons_succ, List.getElem?_cons_zero]; rfl) (by kernel_rfl); (focus (intro wv hI; skip; (try go_simp); try rfl; done)); simp only [Act.put, List.setIfInBounds_toArray, List.set_cons_succ, List.set_cons_zero])
 (apply HavG.stg_same (by simp only [List.getElem?_toArray, List.getElem?_cons_succ, List.getElem?_cons_zero]; rfl) (by kernel_rfl); (focus (intro wv hI; have hx := HX3.out.below hI HX3.out.lt; have q0 := hx.cell 0; have ql := hx.lt; (try go_simp); try rfl; done)); simp only [Act.put, List.setIfInBounds_toArray, List.set_cons_succ, List.set_cons_zero])
 (apply HavG.stg_same (by simp only [List.getElem?_toArray, List.getElem?_cons_succ, List.getElem?_cons_zero]; rfl) (by kernel_rfl); (focus (intro wv hI; have hx := HX4.out.below hI HX4.out.lt; have q0 := hx.cell 0; have ql := hx.lt; (try go_simp); try rfl; done)); simp only [Act.put, List.setIfInBounds_toArray, List.set_cons_succ, List.set_cons_zero])
 (apply HavG.stg_call (by simp only [List.getElem?_toArray, List.getElem?_cons_succ, List.getElem?_cons_zero]; rfl) (by kernel_rfl); (focus (go_simp; try exact ⟨rfl, rfl⟩; done)))
 refine (open_err 70 #[.pointer (some ⟨B3, 0, none⟩), .pointer (some ⟨B4, 0, none⟩)] EG.out (HP.out.grow (Below.drew HB0.out)) (fun hv => isG_bears hv B3 B4 draws day HX3.out.drew HX4.out.drew) HH.out).mono ?_
 rintro e w' ⟨h1, h2⟩
 rw [HEE.out] at h1
 exact .inr ⟨_, h1, rfl, (Below.drew (Below.refl _ _)).trans h2⟩
set_option maxRecDepth 100000 in
set_option maxHeartbeats 1600000 in
theorem PBears_clash (draws day : Int) (hP : RvIn w w.heap.size fa fl la ll r) (hv : okR r = true) (hi : (isDrB draws && isDayB r day) = true) (ht : truthsA r.nat = []) :
  Calls Try.prog 20 #[(.agg #[.int .i64 r.depth.lo, .int .i64 r.depth.hi, .int .i64 r.fall.lo, .int .i64 r.fall.hi, .int .i64 r.days, .slice fa fl fc, .slice la ll lc]), .int .i64 draws, .int .i64 day] w fun e w' => e = .returned (.tuple #[.int .i64 (bearsV r draws day), .int .i64 (bearsE r draws day)]) ∧ Below w.heap.size w w' := by
 obtain ⟨EE, hEE⟩ : ∃ EE : Int, EE = 10 := ⟨_, rfl⟩
 have hE2 : bearsE r draws day = 10 := toldE_clash hv hi ht
 have HR : Hid (Value.tuple #[.int .i64 (bearsV r draws day), .int .i64 (bearsE r draws day)] = .tuple #[.int .i64 0, .int .i64 EE]) := by
  show _ = _
  rw [hEE, hE2]
  unfold bearsV
  rw [if_neg (by rw [hE2]; omega)]
  rfl
 have HEE : Hid (EE = 10) := hEE
 have HP := Lib.hid hP
 have HV := Lib.hid hv
 have HC : Hid (canB r.nat (full r.nat.lk.length) = false) := by show _ = _; rw [can_of hv, ht]; rfl
 have HH := Lib.hid hi
 have EG := Lib.hid (enters_of Try.func70 (by kernel_rfl) rfl)
 have EG69 := Lib.hid (enters_of Try.func69 (by kernel_rfl) rfl)
 clear hP hv hi ht hEE hE2
 refine (callsIn_wide (n := 6)).1 (callsIn_of_wp_marks Try.func20 rfl trivial ?_ rfl)
 simp only [Try.ntmps20, List.size_toArray, List.length_cons, List.length_nil, Nat.reduceAdd, Nat.reduceSub, Array.replicate_succ, Array.replicate_zero, List.push_toArray, List.append_toArray, List.nil_append, List.cons_append]
 refine wpIn_wide.2 ?_
 have hmf : ∀ (fn : Fn) (first cap : Array Value) (w : World), (Instr.makeFunc fn first cap).run Try.prog w = .ok (.func fn first cap) w := fun _ _ _ _ => rfl
 go_upto_region 2 with (fail)
 obtain ⟨W, hW⟩ : ∃ W, W = (((w.alloc (.cells #[.int .i64 r.depth.lo, .int .i64 r.depth.hi, .int .i64 r.fall.lo, .int .i64 r.fall.hi, .int .i64 r.days, .slice fa fl fc, .slice la ll lc] 27)).alloc (.cells #[.int .i64 draws] 3)).alloc (.cells #[.int .i64 day] 3)).alloc (.cells #[.int .i64 0] 30) := ⟨_, rfl⟩
 obtain ⟨B2, hB2⟩ : ∃ B2, B2 = w.heap.size := ⟨_, rfl⟩
 obtain ⟨B3, hB3⟩ : ∃ B3, B3 = w.heap.size + 1 := ⟨_, rfl⟩
 obtain ⟨B4, hB4⟩ : ∃ B4, B4 = w.heap.size + 1 + 1 := ⟨_, rfl⟩
 obtain ⟨B5, hB5⟩ : ∃ B5, B5 = w.heap.size + 1 + 1 + 1 := ⟨_, rfl⟩
 have HB0 : Hid (Below w.heap.size w W) := by rw [hW]; exact ((((Below.refl _ _).alloc (Nat.le_refl _) _).alloc (by simp) _).alloc (by simp; omega) _).alloc (by simp; omega) _
 have HXB : Hid (Blk W B2 27 #[.int .i64 r.depth.lo, .int .i64 r.depth.hi, .int .i64 r.fall.lo, .int .i64 r.fall.hi, .int .i64 r.days, .slice fa fl fc, .slice la ll lc]) := by rw [hW, hB2]; exact (((Blk.new w 27 _).alloc _).alloc _).alloc _
 have HX3 : Hid (Blk W B3 3 #[.int .i64 draws]) := by rw [hW, hB3]; exact ((Blk.new_ (by simp) 3 _).alloc _).alloc _
 have HX4 : Hid (Blk W B4 3 #[.int .i64 day]) := by rw [hW, hB4]; exact (Blk.new_ (by simp) 3 _).alloc _
 have HX5 : Hid (Blk W B5 30 #[.int .i64 0]) := by rw [hW, hB5]; exact Blk.new_ (by simp) 30 _
 have HE : Hid (w.heap.size ≤ B4 ∧ w.heap.size ≤ B5 ∧ B4 ≠ B5 ∧ w.heap.size ≤ W.heap.size) := ⟨by omega, by omega, by omega, HB0.out.size⟩
 rw [← hW, ← hB5, ← hB4, ← hB3, ← hB2]
 clear hW hB2 hB3 hB4 hB5
 refine HavG.wp_region_stg (fun wv => Below W.heap.size W wv) [(0,false),(1,false),(4,false),(5,false),(2,true),(3,true),(6,true)] [7, 8] (fun ch wp => ch = [refE EE] ∧ Below W.heap.size W wp) (by kernel_rfl) (by kernel_rfl) ?hQ (Below.drew (Below.refl _ _)) ?_
 case hQ =>
  rintro ch a' w' hA ⟨rfl, hb⟩
  show LeavesInM Fence.wide 6 Try.prog Try.f20 a'.tmps _ a'.defers (.panicking [refE _]) w'
  rw [hA.1]
  obtain ⟨_, e2, _, e4⟩ := HE.out
  refine api_panic (ds := []) (B := W.heap.size) isAns69 EG69.out (Marks.nil _ _) (HX5.out.below hb HX5.out.lt) (fun w2 hk2 _ hbel => ?_)
  have g0 := hk2.cell 0
  have s6 := hA.slot 6 (by kernel_rfl)
  have s7 := hA.slot 7 (by kernel_rfl)
  simp at s6 s7 g0
  refine ⟨.tuple #[.int .i64 0, .int .i64 EE], by simp [results, Try.results20, go_sem, s6, s7, g0], by rw [HR.out], ?_⟩
  exact HB0.out.trans ((hb.mono e4).trans ((hbel w.heap.size e4 e2).mono (Nat.le_refl _)))
 (apply HavG.stg_same (by simp only [List.getElem?_toArray, List.getElem?_cons_zero]; rfl) (by kernel_rfl); (focus (intro wv hI; have hx := HXB.out.below hI HXB.out.lt; have q0 := hx.cell 0; have q1 := hx.cell 1; have q2 := hx.cell 2; have q3 := hx.cell 3; have q4 := hx.cell 4; have q5 := hx.cell 5; have q6 := hx.cell 6; have ql := hx.lt; (try go_simp); try rfl; done)); simp only [Act.put, List.setIfInBounds_toArray, List.set_cons_succ, List.set_cons_zero])
 (apply HavG.stg_same (by simp only [List.getElem?_toArray, List.getElem?_cons_succ, List.getElem?_cons_zero]; rfl) (by kernel_rfl); (focus (intro wv hI; skip; (try go_simp); try rfl; done)); simp only [Act.put, List.setIfInBounds_toArray, List.set_cons_succ, List.set_cons_zero])
 (apply HavG.stg_same (by simp only [List.getElem?_toArray, List.getElem?_cons_succ, List.getElem?_cons_zero]; rfl) (by kernel_rfl); (focus (intro wv hI; have hx := HX3.out.below hI HX3.out.lt; have q0 := hx.cell 0; have ql := hx.lt; (try go_simp); try rfl; done)); simp only [Act.put, List.setIfInBounds_toArray, List.set_cons_succ, List.set_cons_zero])
 (apply HavG.stg_same (by simp only [List.getElem?_toArray, List.getElem?_cons_succ, List.getElem?_cons_zero]; rfl) (by kernel_rfl); (focus (intro wv hI; have hx := HX4.out.below hI HX4.out.lt; have q0 := hx.cell 0; have ql := hx.lt; (try go_simp); try rfl; done)); simp only [Act.put, List.setIfInBounds_toArray, List.set_cons_succ, List.set_cons_zero])
 (apply HavG.stg_call (by simp only [List.getElem?_toArray, List.getElem?_cons_succ, List.getElem?_cons_zero]; rfl) (by kernel_rfl); (focus (go_simp; try exact ⟨rfl, rfl⟩; done)))
 refine (open_ok 70 #[.pointer (some ⟨B3, 0, none⟩), .pointer (some ⟨B4, 0, none⟩)] EG.out (HP.out.grow (Below.drew HB0.out)) (fun hv => by have := isG_bears (fa := fa) (fl := fl) (fc := fc) (la := la) (ll := ll) (lc := lc) hv B3 B4 draws day HX3.out.drew HX4.out.drew; rwa [HH.out] at this) HV.out).mono ?_
 rintro e w1 ⟨d, k, rfl, hD, hK, hb0⟩
 have hb1 : Below W.heap.size W w1 := (Below.drew (Below.refl _ _)).trans hb0
 refine .inl ⟨_, rfl, hb1, ?_⟩
 simp only [Act.put, List.setIfInBounds_toArray, List.set_cons_succ, List.set_cons_zero]
 (apply HavG.stg_call (by simp only [List.getElem?_toArray, List.getElem?_cons_succ, List.getElem?_cons_zero]; rfl) (by kernel_rfl); (focus (go_simp; try exact ⟨rfl, rfl⟩; done)))
 refine (told_no (good_of HV.out) HC.out w1 hD hK).mono ?_
 rintro e w2 ⟨h1, h2, h3⟩
 exact .inr ⟨_, h1, by rw [HEE.out], hb1.trans ((Turn.of_grownK h3).below hb1.size (fun b e => by have e' : b = k := e; have := hD.hk; rw [e']; exact this))⟩
set_option maxRecDepth 100000 in
set_option maxHeartbeats 1600000 in
theorem PBears_ok (m n : Nat) (hP : RvIn w w.heap.size fa fl la ll r) (hv : okR r = true) (hi : (isDrB (m : Int) && isDayB r n) = true) (ht : truthsA r.nat ≠ []) :
  Calls Try.prog 20 #[(.agg #[.int .i64 r.depth.lo, .int .i64 r.depth.hi, .int .i64 r.fall.lo, .int .i64 r.fall.hi, .int .i64 r.days, .slice fa fl fc, .slice la ll lc]), .int .i64 m, .int .i64 n] w fun e w' => e = .returned (.tuple #[.int .i64 (bearsV r m n), .int .i64 (bearsE r m n)]) ∧ Below w.heap.size w w' := by
 obtain ⟨s, hs⟩ : ∃ s, s = bearsP r.nat m n := ⟨_, rfl⟩
 obtain ⟨day, hday⟩ : ∃ day : Int, day = n := ⟨_, rfl⟩
 obtain ⟨draws, hdr⟩ : ∃ draws : Int, draws = m := ⟨_, rfl⟩
 have hE2 : bearsE r m n = 0 := toldE_fine hv hi ht
 have HR : Hid (Value.tuple #[.int .i64 (bearsV r m n), .int .i64 (bearsE r m n)] = .tuple #[.int .i64 s, .int .i64 0]) := by
  show _ = _
  unfold bearsV
  rw [if_pos hE2, hE2, hs]
  rfl
 have HN : Hid (n ≤ r.nat.days) := by
  rw [Bool.and_eq_true] at hi
  have := inB_iff.1 hi.2
  show n ≤ r.days.toNat
  omega
 have HSS := Lib.hid hs
 have HP := Lib.hid hP
 have HV := Lib.hid hv
 have HC : Hid (canB r.nat (full r.nat.lk.length) = true) := by show _ = _; rw [can_of hv]; simp [ht]
 have HH : Hid ((isDrB draws && isDayB r day) = true) := by rw [hday, hdr]; exact hi
 have HDY := Lib.hid hday
 have HDR := Lib.hid hdr
 rw [← hday, ← hdr]
 have EG := Lib.hid (enters_of Try.func70 (by kernel_rfl) rfl)
 have EG69 := Lib.hid (enters_of Try.func69 (by kernel_rfl) rfl)
 clear hP hv hi ht hE2 hs hday hdr
 refine (callsIn_wide (n := 6)).1 (callsIn_of_wp_marks Try.func20 rfl trivial ?_ rfl)
 simp only [Try.ntmps20, List.size_toArray, List.length_cons, List.length_nil, Nat.reduceAdd, Nat.reduceSub, Array.replicate_succ, Array.replicate_zero, List.push_toArray, List.append_toArray, List.nil_append, List.cons_append]
 refine wpIn_wide.2 ?_
 have hmf : ∀ (fn : Fn) (first cap : Array Value) (w : World), (Instr.makeFunc fn first cap).run Try.prog w = .ok (.func fn first cap) w := fun _ _ _ _ => rfl
 go_upto_region 2 with (fail)
 obtain ⟨W, hW⟩ : ∃ W, W = (((w.alloc (.cells #[.int .i64 r.depth.lo, .int .i64 r.depth.hi, .int .i64 r.fall.lo, .int .i64 r.fall.hi, .int .i64 r.days, .slice fa fl fc, .slice la ll lc] 27)).alloc (.cells #[.int .i64 draws] 3)).alloc (.cells #[.int .i64 day] 3)).alloc (.cells #[.int .i64 0] 30) := ⟨_, rfl⟩
 obtain ⟨B2, hB2⟩ : ∃ B2, B2 = w.heap.size := ⟨_, rfl⟩
 obtain ⟨B3, hB3⟩ : ∃ B3, B3 = w.heap.size + 1 := ⟨_, rfl⟩
 obtain ⟨B4, hB4⟩ : ∃ B4, B4 = w.heap.size + 1 + 1 := ⟨_, rfl⟩
 obtain ⟨B5, hB5⟩ : ∃ B5, B5 = w.heap.size + 1 + 1 + 1 := ⟨_, rfl⟩
 have HB0 : Hid (Below w.heap.size w W) := by rw [hW]; exact ((((Below.refl _ _).alloc (Nat.le_refl _) _).alloc (by simp) _).alloc (by simp; omega) _).alloc (by simp; omega) _
 have HXB : Hid (Blk W B2 27 #[.int .i64 r.depth.lo, .int .i64 r.depth.hi, .int .i64 r.fall.lo, .int .i64 r.fall.hi, .int .i64 r.days, .slice fa fl fc, .slice la ll lc]) := by rw [hW, hB2]; exact (((Blk.new w 27 _).alloc _).alloc _).alloc _
 have HX3 : Hid (Blk W B3 3 #[.int .i64 draws]) := by rw [hW, hB3]; exact ((Blk.new_ (by simp) 3 _).alloc _).alloc _
 have HX4 : Hid (Blk W B4 3 #[.int .i64 day]) := by rw [hW, hB4]; exact (Blk.new_ (by simp) 3 _).alloc _
 have HX5 : Hid (Blk W B5 30 #[.int .i64 0]) := by rw [hW, hB5]; exact Blk.new_ (by simp) 30 _
 have HE : Hid (w.heap.size ≤ B4 ∧ w.heap.size ≤ B5 ∧ B4 ≠ B5 ∧ w.heap.size ≤ W.heap.size) := ⟨by omega, by omega, by omega, HB0.out.size⟩
 rw [← hW, ← hB5, ← hB4, ← hB3, ← hB2]
 clear hW hB2 hB3 hB4 hB5
 refine HavG.wp_region_stg (fun wv => Below W.heap.size W wv) [(0,false),(1,false),(4,false),(5,false),(2,true),(3,true),(6,true)] [7, 8] (fun _ _ => False) (by kernel_rfl) (by kernel_rfl) (fun _ _ _ _ h => h.elim) (Below.drew (Below.refl _ _)) ?_
 (apply HavG.stg_same (by simp only [List.getElem?_toArray, List.getElem?_cons_zero]; rfl) (by kernel_rfl); (focus (intro wv hI; have hx := HXB.out.below hI HXB.out.lt; have q0 := hx.cell 0; have q1 := hx.cell 1; have q2 := hx.cell 2; have q3 := hx.cell 3; have q4 := hx.cell 4; have q5 := hx.cell 5; have q6 := hx.cell 6; have ql := hx.lt; (try go_simp); try rfl; done)); simp only [Act.put, List.setIfInBounds_toArray, List.set_cons_succ, List.set_cons_zero])
 (apply HavG.stg_same (by simp only [List.getElem?_toArray, List.getElem?_cons_succ, List.getElem?_cons_zero]; rfl) (by kernel_rfl); (focus (intro wv hI; skip; (try go_simp); try rfl; done)); simp only [Act.put, List.setIfInBounds_toArray, List.set_cons_succ, List.set_cons_zero])
 (apply HavG.stg_same (by simp only [List.getElem?_toArray, List.getElem?_cons_succ, List.getElem?_cons_zero]; rfl) (by kernel_rfl); (focus (intro wv hI; have hx := HX3.out.below hI HX3.out.lt; have q0 := hx.cell 0; have ql := hx.lt; (try go_simp); try rfl; done)); simp only [Act.put, List.setIfInBounds_toArray, List.set_cons_succ, List.set_cons_zero])
 (apply HavG.stg_same (by simp only [List.getElem?_toArray, List.getElem?_cons_succ, List.getElem?_cons_zero]; rfl) (by kernel_rfl); (focus (intro wv hI; have hx := HX4.out.below hI HX4.out.lt; have q0 := hx.cell 0; have ql := hx.lt; (try go_simp); try rfl; done)); simp only [Act.put, List.setIfInBounds_toArray, List.set_cons_succ, List.set_cons_zero])
 (apply HavG.stg_call (by simp only [List.getElem?_toArray, List.getElem?_cons_succ, List.getElem?_cons_zero]; rfl) (by kernel_rfl); (focus (go_simp; try exact ⟨rfl, rfl⟩; done)))
 refine (open_ok 70 #[.pointer (some ⟨B3, 0, none⟩), .pointer (some ⟨B4, 0, none⟩)] EG.out (HP.out.grow (Below.drew HB0.out)) (fun hv => by have := isG_bears (fa := fa) (fl := fl) (fc := fc) (la := la) (ll := ll) (lc := lc) hv B3 B4 draws day HX3.out.drew HX4.out.drew; rwa [HH.out] at this) HV.out).mono ?_
 rintro e w1 ⟨d, k, rfl, hD, hK, hb0⟩
 have hb1 : Below W.heap.size W w1 := (Below.drew (Below.refl _ _)).trans hb0
 refine .inl ⟨_, rfl, hb1, ?_⟩
 simp only [Act.put, List.setIfInBounds_toArray, List.set_cons_succ, List.set_cons_zero]
 (apply HavG.stg_call (by simp only [List.getElem?_toArray, List.getElem?_cons_succ, List.getElem?_cons_zero]; rfl) (by kernel_rfl); (focus (go_simp; try exact ⟨rfl, rfl⟩; done)))
 refine (told_yes (good_of HV.out) HC.out w1 hD hK).mono ?_
 rintro e w2 ⟨rfl, hk2, hg2⟩
 have hkW : W.heap.size ≤ k := hD.hk
 have hb2 : Below W.heap.size W w2 := hb1.trans ((Turn.of_grownK hg2).below hb1.size (fun b e => by have e' : b = k := e; rw [e']; exact hkW))
 have hD2 := hD.turn (Turn.of_grownK hg2) (fun b e => by have e' : b = k := e; rw [e']; exact hkW) (fun e => hD.kd (show d = k from e).symm)
 refine .inl ⟨_, rfl, hb2, ?_⟩
 simp only [Act.put, List.setIfInBounds_toArray, List.set_cons_succ, List.set_cons_zero]
 (apply HavG.stg_call (by simp only [List.getElem?_toArray, List.getElem?_cons_succ, List.getElem?_cons_zero]; rfl) (by kernel_rfl); (focus (go_simp; try exact ⟨rfl, rfl⟩; done)))
 rw [HDY.out, HDR.out]
 refine (bears_any (good_of HV.out) m n HN.out w2 hD2 hk2).mono ?_
 rw [← HSS.out]
 rintro e w3 ⟨rfl, hk3, hg3⟩
 have hb3 : Below W.heap.size W w3 := hb2.trans ((Turn.of_grownK hg3).below hb2.size (fun b e => by have e' : b = k := e; rw [e']; exact hkW))
 refine .inl ⟨_, rfl, hb3, ?_⟩
 simp only [Act.put, List.setIfInBounds_toArray, List.set_cons_succ, List.set_cons_zero]
 simp only [HavG.wpStg, List.filterMap]
 have HB3 := Lib.hid hb3
 have HY5 : Hid (Blk w3 B5 30 #[.int .i64 0]) := HX5.out.below hb3 HX5.out.lt
 have c2 : w3.cell? ⟨B5, 0, none⟩ = some (.int .i64 0) := HY5.out.cell 0
 have f2 := HY5.out.frozen 0
 have l5 := HY5.out.lt
 clear hD hK hb0 hb1 hk2 hg2 hb2 hD2 hk3 hg3 hb3
 go_wp2
 obtain ⟨W9, hW9⟩ : ∃ W9, W9 = w3.setCell ⟨B5, 0, none⟩ (.int .i64 0) := ⟨_, rfl⟩
 rw [← hW9]
 have HT5 : Blk W9 B5 30 #[.int .i64 0] := by rw [hW9]; exact HY5.out.set_ 0 _
 obtain ⟨_, e2, _, e4⟩ := HE.out
 have hB9 : Below w.heap.size w W9 := by rw [hW9]; exact setCell_below (HB0.out.trans (HB3.out.mono e4)) e2 _ _
 refine api_ret (ds := []) (B := W.heap.size) isAns69 EG69.out (Marks.nil _ _) (fun w4 hk hbel => ?_)
 have g0 := (hk _ _ _ HT5).cell 0
 simp at g0
 rw [← HDY.out, ← HDR.out] at HR
 refine ⟨.tuple #[.int .i64 s, .int .i64 0], by simp [results, Try.results20, go_sem, g0], by rw [HR.out], ?_⟩
 exact hB9.trans (hbel w.heap.size e4)
theorem PBears_any (draws day : Int) (hP : RvIn w w.heap.size fa fl la ll r) :
  Calls Try.prog 20 #[(.agg #[.int .i64 r.depth.lo, .int .i64 r.depth.hi, .int .i64 r.fall.lo, .int .i64 r.fall.hi, .int .i64 r.days, .slice fa fl fc, .slice la ll lc]), .int .i64 draws, .int .i64 day] w fun e w' => e = .returned (.tuple #[.int .i64 (bearsV r draws day), .int .i64 (bearsE r draws day)]) ∧ Below w.heap.size w w' := by
 cases hv : okR r
 ·exact PBears_err draws day hP (.inl hv)
 cases hi : (isDrB draws && isDayB r day)
 ·exact PBears_err draws day hP (.inr hi)
 by_cases ht : truthsA r.nat = []
 ·exact PBears_clash draws day hP hv hi ht
 ·have hi2 := hi
  rw [Bool.and_eq_true] at hi2
  obtain ⟨n, rfl⟩ : ∃ n : Nat, day = n := ⟨day.toNat, by have := inB_iff.1 hi2.2; omega⟩
  obtain ⟨m, rfl⟩ : ∃ m : Nat, draws = m := ⟨draws.toNat, by have h := hi2.1; unfold isDrB at h; have := inB_iff.1 h; omega⟩
  exact PBears_ok m n hP hv hi ht
end
end Go.Proofs.Ytiodmkokpfgkkaa
