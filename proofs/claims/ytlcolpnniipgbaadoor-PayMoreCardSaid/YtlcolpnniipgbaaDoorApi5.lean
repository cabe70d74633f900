/- The walk of Left. -/
import Derived.Test.YtlcolpnniipgbaaDoorBrk
import Derived.Test.YtlcolpnniipgbaaDoorRef14
namespace Go.Proofs.YtlcolpnniipgbaaDoor
open Go.RowKit Go.Hav
section
variable {people rate bill : Int} {ra ca da pa : Option Addr} {rl rc cl cc dl dc pl pc : Nat} {p : PayD}
set_option maxRecDepth 100000 in
set_option maxHeartbeats 1600000 in
theorem PLeft_err0 (who E0 : Int) (w : World) (hP : PayIn w w.heap.size people ra rl ca cl rate bill da dl pa pl p) (h : payB p = false ∨ whoB p who = false) (hE : (if payB p then 2 else 1) = E0) :
    Calls Tryd.prog 24 #[payV people ra rl rc ca cl cc rate bill da dl dc pa pl pc, .int .i64 who] w fun e w' => e = .returned (.tuple #[spV ⟨0, 0⟩, .int .i64 E0]) ∧ Below w.heap.size w w' := by
  have HH := Lib.hid h
  have HE0 := Lib.hid hE
  clear h hE
  have HP := Lib.hid hP
  have EG := Lib.hid (enters_of Tryd.func64 (by kernel_rfl) rfl)
  have hmf : ∀ (fn : Fn) (first cap : Array Value) (w : World), (Instr.makeFunc fn first cap).run Tryd.prog w = .ok (.func fn first cap) w := fun _ _ _ _ => rfl
  clear hP
  unfold payV
  go_enter_defers Tryd.func24, Tryd.ntmps24
  go_wp2_with fail
  obtain ⟨W, hW⟩ : ∃ W, W = ((((w.alloc (.cells (payCs people ra rl rc ca cl cc rate bill da dl dc pa pl pc) 27)).alloc (.cells #[.int .i64 who] 3)).alloc (.cells #[.int .i64 0, .int .i64 0] 34)).alloc (.cells #[.int .i64 0] 30)) := ⟨_, rfl⟩
  have b0 : Blk W (w.heap.size) 27 (payCs people ra rl rc ca cl cc rate bill da dl dc pa pl pc) := by rw [hW]; exact ((((Blk.new_ (by simp) _ _).alloc _).alloc _).alloc _)
  have b1 : Blk W (w.heap.size + 1) 3 #[.int .i64 who] := by rw [hW]; exact (((Blk.new_ (by simp) _ _).alloc _).alloc _)
  have b2 : Blk W (w.heap.size + 1 + 1) 34 #[.int .i64 0, .int .i64 0] := by rw [hW]; exact ((Blk.new_ (by simp) _ _).alloc _)
  have b3 : Blk W (w.heap.size + 1 + 1 + 1) 30 #[.int .i64 0] := by rw [hW]; exact Blk.new_ (by simp) _ _
  have HBW : Hid (Below w.heap.size w W) := by rw [hW]; exact (((((Below.refl w.heap.size w).alloc (by simp <;> omega) _).alloc (by simp <;> omega) _).alloc (by simp <;> omega) _).alloc (by simp <;> omega) _)
  have c00 : W.cell? ⟨w.heap.size, 0, none⟩ = some (.int .i64 people) := b0.cell 0
  have c01 : W.cell? ⟨w.heap.size, 1, none⟩ = some (.slice ra rl rc) := b0.cell 1
  have c02 : W.cell? ⟨w.heap.size, 2, none⟩ = some (.slice ca cl cc) := b0.cell 2
  have c03 : W.cell? ⟨w.heap.size, 3, none⟩ = some (.int .i64 rate) := b0.cell 3
  have c04 : W.cell? ⟨w.heap.size, 4, none⟩ = some (.int .i64 bill) := b0.cell 4
  have c05 : W.cell? ⟨w.heap.size, 5, none⟩ = some (.slice da dl dc) := b0.cell 5
  have c06 : W.cell? ⟨w.heap.size, 6, none⟩ = some (.slice pa pl pc) := b0.cell 6
  have c10 : W.cell? ⟨w.heap.size + 1, 0, none⟩ = some (.int .i64 who) := b1.cell 0
  have c20 : W.cell? ⟨w.heap.size + 1 + 1, 0, none⟩ = some (.int .i64 0) := b2.cell 0
  have c21 : W.cell? ⟨w.heap.size + 1 + 1, 1, none⟩ = some (.int .i64 0) := b2.cell 1
  have c30 : W.cell? ⟨w.heap.size + 1 + 1 + 1, 0, none⟩ = some (.int .i64 0) := b3.cell 0
  have hs0 : w.heap.size < W.heap.size := b0.lt
  have hs1 : w.heap.size + 1 < W.heap.size := b1.lt
  have hs2 : w.heap.size + 1 + 1 < W.heap.size := b2.lt
  have hs3 : w.heap.size + 1 + 1 + 1 < W.heap.size := b3.lt
  have fz3 : W.frozen? ⟨w.heap.size + 1 + 1 + 1, 0, none⟩ = false := b3.frozen 0
  have fz2 : W.frozen? ⟨w.heap.size + 1 + 1, 0, none⟩ = false := b2.frozen 0
  have fy2 : W.frozen? ⟨w.heap.size + 1 + 1, 1, none⟩ = false := b2.frozen 1
  have HBE := Lib.hid b3
  have HBS := Lib.hid b2
  have hW' := hW.symm
  try unfold payCs at hW'
  rw [hW']
  clear hW hW' b0 b1 b2 b3
  refine (open_panics (p := p) 64 #[.pointer (some ⟨w.heap.size + 1, 0, none⟩)] (whoB p who) EG.out _ (by exact HP.out.grow HBW.out) (fun hv => clos64 who _ W (by have := (payB_parts (HP.out) hv).1; omega) (by have := (payB_parts (HP.out) hv).1; omega) c10 hs1) HH.out).mono ?_
  rw [HE0.out]
  rintro e w9 ⟨rfl, hb9⟩
  have HB9 : Hid (Below W.heap.size W w9) := hb9
  clear hb9
  have HS2 : Hid (Blk w9 (w.heap.size + 1 + 1) 34 #[.int .i64 0, .int .i64 0]) := HBS.out.below HB9.out hs2
  have HE2 : Hid (Blk w9 (w.heap.size + 1 + 1 + 1) 30 #[.int .i64 0]) := HBE.out.below HB9.out hs3
  go_wp2
  exact api_panics (b := w.heap.size + 1 + 1 + 1) rfl (HE2.out.cell 0) (HE2.out.frozen 0) (v := .tuple #[spV ⟨0, 0⟩, .int .i64 E0]) (by
    have g0 := (HE2.out.set_ 0 (.int .i64 E0)).cell 0
    have HS3 := HS2.out.far (p := ⟨w.heap.size + 1 + 1 + 1, 0, none⟩) (by show _ ≠ w.heap.size + 1 + 1 + 1; omega) (.int .i64 E0)
    have g1 := HS3.cell 0
    have g2 := HS3.cell 1
    generalize w9.setCell ⟨w.heap.size + 1 + 1 + 1, 0, none⟩ (.int .i64 E0) = w8 at *
    simp at g0 g1 g2
    simp [results, Tryd.results24, go_sem, g0, g1, g2, spV]) ⟨rfl, setCell_below (HBW.out.trans (HB9.out.mono (by omega))) (by omega) _⟩
theorem PLeft_err (who : Int) (w : World) (hP : PayIn w w.heap.size people ra rl ca cl rate bill da dl pa pl p) (h : payB p = false ∨ whoB p who = false) :
    Calls Tryd.prog 24 #[payV people ra rl rc ca cl cc rate bill da dl dc pa pl pc, .int .i64 who] w fun e w' => e = .returned (.tuple #[spV ⟨0, 0⟩, .int .i64 (if payB p then 2 else 1)]) ∧ Below w.heap.size w w' := PLeft_err0 who _ w hP h rfl
set_option maxRecDepth 100000 in
set_option maxHeartbeats 1600000 in
theorem PLeft_clash (who : Int) (w : World) (hP : PayIn w w.heap.size people ra rl ca cl rate bill da dl pa pl p) (hv : payB p = true) (hval : whoB p who = true) (ht : wrongI p ≠ 0) :
    Calls Tryd.prog 24 #[payV people ra rl rc ca cl cc rate bill da dl dc pa pl pc, .int .i64 who] w fun e w' => e = .returned (.tuple #[spV ⟨0, 0⟩, .int .i64 10]) ∧ Below w.heap.size w w' := by
  have HV := Lib.hid hv
  have HVAL := Lib.hid hval
  have HT := Lib.hid ht
  clear hv hval ht
  have HP := Lib.hid hP
  have EG := Lib.hid (enters_of Tryd.func64 (by kernel_rfl) rfl)
  have hmf : ∀ (fn : Fn) (first cap : Array Value) (w : World), (Instr.makeFunc fn first cap).run Tryd.prog w = .ok (.func fn first cap) w := fun _ _ _ _ => rfl
  clear hP
  unfold payV
  go_enter_defers Tryd.func24, Tryd.ntmps24
  go_wp2_with fail
  obtain ⟨W, hW⟩ : ∃ W, W = ((((w.alloc (.cells (payCs people ra rl rc ca cl cc rate bill da dl dc pa pl pc) 27)).alloc (.cells #[.int .i64 who] 3)).alloc (.cells #[.int .i64 0, .int .i64 0] 34)).alloc (.cells #[.int .i64 0] 30)) := ⟨_, rfl⟩
  have b0 : Blk W (w.heap.size) 27 (payCs people ra rl rc ca cl cc rate bill da dl dc pa pl pc) := by rw [hW]; exact ((((Blk.new_ (by simp) _ _).alloc _).alloc _).alloc _)
  have b1 : Blk W (w.heap.size + 1) 3 #[.int .i64 who] := by rw [hW]; exact (((Blk.new_ (by simp) _ _).alloc _).alloc _)
  have b2 : Blk W (w.heap.size + 1 + 1) 34 #[.int .i64 0, .int .i64 0] := by rw [hW]; exact ((Blk.new_ (by simp) _ _).alloc _)
  have b3 : Blk W (w.heap.size + 1 + 1 + 1) 30 #[.int .i64 0] := by rw [hW]; exact Blk.new_ (by simp) _ _
  have HBW : Hid (Below w.heap.size w W) := by rw [hW]; exact (((((Below.refl w.heap.size w).alloc (by simp <;> omega) _).alloc (by simp <;> omega) _).alloc (by simp <;> omega) _).alloc (by simp <;> omega) _)
  have c00 : W.cell? ⟨w.heap.size, 0, none⟩ = some (.int .i64 people) := b0.cell 0
  have c01 : W.cell? ⟨w.heap.size, 1, none⟩ = some (.slice ra rl rc) := b0.cell 1
  have c02 : W.cell? ⟨w.heap.size, 2, none⟩ = some (.slice ca cl cc) := b0.cell 2
  have c03 : W.cell? ⟨w.heap.size, 3, none⟩ = some (.int .i64 rate) := b0.cell 3
  have c04 : W.cell? ⟨w.heap.size, 4, none⟩ = some (.int .i64 bill) := b0.cell 4
  have c05 : W.cell? ⟨w.heap.size, 5, none⟩ = some (.slice da dl dc) := b0.cell 5
  have c06 : W.cell? ⟨w.heap.size, 6, none⟩ = some (.slice pa pl pc) := b0.cell 6
  have c10 : W.cell? ⟨w.heap.size + 1, 0, none⟩ = some (.int .i64 who) := b1.cell 0
  have c20 : W.cell? ⟨w.heap.size + 1 + 1, 0, none⟩ = some (.int .i64 0) := b2.cell 0
  have c21 : W.cell? ⟨w.heap.size + 1 + 1, 1, none⟩ = some (.int .i64 0) := b2.cell 1
  have c30 : W.cell? ⟨w.heap.size + 1 + 1 + 1, 0, none⟩ = some (.int .i64 0) := b3.cell 0
  have hs0 : w.heap.size < W.heap.size := b0.lt
  have hs1 : w.heap.size + 1 < W.heap.size := b1.lt
  have hs2 : w.heap.size + 1 + 1 < W.heap.size := b2.lt
  have hs3 : w.heap.size + 1 + 1 + 1 < W.heap.size := b3.lt
  have fz3 : W.frozen? ⟨w.heap.size + 1 + 1 + 1, 0, none⟩ = false := b3.frozen 0
  have fz2 : W.frozen? ⟨w.heap.size + 1 + 1, 0, none⟩ = false := b2.frozen 0
  have fy2 : W.frozen? ⟨w.heap.size + 1 + 1, 1, none⟩ = false := b2.frozen 1
  have HBE := Lib.hid b3
  have HBS := Lib.hid b2
  have hW' := hW.symm
  try unfold payCs at hW'
  rw [hW']
  clear hW hW' b0 b1 b2 b3
  refine (open_fine (p := p) 64 #[.pointer (some ⟨w.heap.size + 1, 0, none⟩)] EG.out _ (by exact HP.out.grow HBW.out) HV.out (by rw [← HVAL.out]; exact clos64 who _ W (by have := (payB_parts (HP.out) HV.out).1; omega) (by have := (payB_parts (HP.out) HV.out).1; omega) c10 hs1)).mono ?_
  rintro e w1 ⟨rfl, hD, hb1⟩
  have HD := Lib.hid hD
  have HB1 : Hid (Below W.heap.size W w1) := hb1
  clear hb1 hD
  go_wp2_with fail
  refine (told_any (p := p) HV.out _ (by exact HD.out)).mono ?_
  rintro e w9 ⟨h1, hb2⟩
  rw [if_neg HT.out] at h1
  obtain rfl : e = .panicked [refE 10] := h1
  have HB9 : Hid (Below W.heap.size W w9) := HB1.out.trans (hb2.mono HB1.out.size)
  clear hb2
  have HS2 : Hid (Blk w9 (w.heap.size + 1 + 1) 34 #[.int .i64 0, .int .i64 0]) := HBS.out.below HB9.out hs2
  have HE2 : Hid (Blk w9 (w.heap.size + 1 + 1 + 1) 30 #[.int .i64 0]) := HBE.out.below HB9.out hs3
  go_wp2
  exact api_panics (b := w.heap.size + 1 + 1 + 1) rfl (HE2.out.cell 0) (HE2.out.frozen 0) (v := .tuple #[spV ⟨0, 0⟩, .int .i64 10]) (by
    have g0 := (HE2.out.set_ 0 (.int .i64 10)).cell 0
    have HS3 := HS2.out.far (p := ⟨w.heap.size + 1 + 1 + 1, 0, none⟩) (by show _ ≠ w.heap.size + 1 + 1 + 1; omega) (.int .i64 10)
    have g1 := HS3.cell 0
    have g2 := HS3.cell 1
    generalize w9.setCell ⟨w.heap.size + 1 + 1 + 1, 0, none⟩ (.int .i64 10) = w8 at *
    simp at g0 g1 g2
    simp [results, Tryd.results24, go_sem, g0, g1, g2, spV]) ⟨rfl, setCell_below (HBW.out.trans (HB9.out.mono (by omega))) (by omega) _⟩
set_option maxRecDepth 100000 in
set_option maxHeartbeats 6400000 in
theorem PLeft_ok (who : Int) (w : World) (hP : PayIn w w.heap.size people ra rl ca cl rate bill da dl pa pl p) (hv : payB p = true) (hval : whoB p who = true) (ht : wrongI p = 0) :
    Calls Tryd.prog 24 #[payV people ra rl rc ca cl cc rate bill da dl dc pa pl pc, .int .i64 who] w fun e w' => e = .returned (.tuple #[spV (offS (wagesF (fun r => sheepS p who r) rate rl) (((sharesR p)[who.toNat]?).getD 0 + paidF p.paid who pl)), .int .i64 0]) ∧ Below w.heap.size w w' := by
  have HV := Lib.hid hv
  have HVAL := Lib.hid hval
  have HR1 := Lib.hid (payB_people hv)
  have HPE := Lib.hid hP.epeople
  have HRL := Lib.hid hP.erl
  have HT := Lib.hid ht
  have HWHO : Hid (0 ≤ who ∧ who ≤ 1000 ∧ who < people) := by have h1 := HR1.out; have h2 := HPE.out; have h3 : whoB p who = true := (by first | exact hval | exact (Bool.and_eq_true_iff.1 hval).1); have h4 := inB_iff.1 h3; show _ ∧ _ ∧ _; omega
  have HPE2 : Hid ((dl : Int) = people) := by have := payB_rate hv; have := hP.edl; have := hP.epeople; show _ = _; omega
  have HPL := Lib.hid hP.epl
  have HPL8 : Hid (pl ≤ 8) := by have := payB_rate hv; have := hP.epl; show _ ≤ _; omega
  have HPB : Hid (∀ (k : Nat) x, p.paid[k]? = some x → 0 ≤ x.pence ∧ x.pence ≤ 10000) := fun k x hx => by have := payB_paid hv hx; omega
  have HPF := Lib.hid (paidF_bd hv who)
  have HWB : Hid (midS 500000 (wagesF (fun r => sheepS p who r) rate rl)) := by
    have h1 := HWHO.out
    have h2 := payB_people hv
    have h3 := payB_rate hv
    have h4 := hP.erate
    have h5 := hP.erl
    have h6 := hP.epeople
    have hw := wagesF_bd (g := fun r => sheepS p who r) (rate := rate) (n := rl) (by omega) (by omega) (fun r hr => by
      have ho : okRun p r = true := (wrongI_zero p).1 ht r (by omega)
      have := sheepS_ok hv who r h1.1 (by omega) (by omega) (by omega) ho
      omega) rl (Nat.le_refl _)
    show midS _ _
    unfold midS
    omega
  clear hv hval ht
  have HP := Lib.hid hP
  have EG := Lib.hid (enters_of Tryd.func64 (by kernel_rfl) rfl)
  have hmf : ∀ (fn : Fn) (first cap : Array Value) (w : World), (Instr.makeFunc fn first cap).run Tryd.prog w = .ok (.func fn first cap) w := fun _ _ _ _ => rfl
  clear hP
  unfold payV
  go_enter_defers Tryd.func24, Tryd.ntmps24
  go_wp2_with fail
  obtain ⟨W, hW⟩ : ∃ W, W = ((((w.alloc (.cells (payCs people ra rl rc ca cl cc rate bill da dl dc pa pl pc) 27)).alloc (.cells #[.int .i64 who] 3)).alloc (.cells #[.int .i64 0, .int .i64 0] 34)).alloc (.cells #[.int .i64 0] 30)) := ⟨_, rfl⟩
  have b0 : Blk W (w.heap.size) 27 (payCs people ra rl rc ca cl cc rate bill da dl dc pa pl pc) := by rw [hW]; exact ((((Blk.new_ (by simp) _ _).alloc _).alloc _).alloc _)
  have b1 : Blk W (w.heap.size + 1) 3 #[.int .i64 who] := by rw [hW]; exact (((Blk.new_ (by simp) _ _).alloc _).alloc _)
  have b2 : Blk W (w.heap.size + 1 + 1) 34 #[.int .i64 0, .int .i64 0] := by rw [hW]; exact ((Blk.new_ (by simp) _ _).alloc _)
  have b3 : Blk W (w.heap.size + 1 + 1 + 1) 30 #[.int .i64 0] := by rw [hW]; exact Blk.new_ (by simp) _ _
  have HBW : Hid (Below w.heap.size w W) := by rw [hW]; exact (((((Below.refl w.heap.size w).alloc (by simp <;> omega) _).alloc (by simp <;> omega) _).alloc (by simp <;> omega) _).alloc (by simp <;> omega) _)
  have c00 : W.cell? ⟨w.heap.size, 0, none⟩ = some (.int .i64 people) := b0.cell 0
  have c01 : W.cell? ⟨w.heap.size, 1, none⟩ = some (.slice ra rl rc) := b0.cell 1
  have c02 : W.cell? ⟨w.heap.size, 2, none⟩ = some (.slice ca cl cc) := b0.cell 2
  have c03 : W.cell? ⟨w.heap.size, 3, none⟩ = some (.int .i64 rate) := b0.cell 3
  have c04 : W.cell? ⟨w.heap.size, 4, none⟩ = some (.int .i64 bill) := b0.cell 4
  have c05 : W.cell? ⟨w.heap.size, 5, none⟩ = some (.slice da dl dc) := b0.cell 5
  have c06 : W.cell? ⟨w.heap.size, 6, none⟩ = some (.slice pa pl pc) := b0.cell 6
  have c10 : W.cell? ⟨w.heap.size + 1, 0, none⟩ = some (.int .i64 who) := b1.cell 0
  have c20 : W.cell? ⟨w.heap.size + 1 + 1, 0, none⟩ = some (.int .i64 0) := b2.cell 0
  have c21 : W.cell? ⟨w.heap.size + 1 + 1, 1, none⟩ = some (.int .i64 0) := b2.cell 1
  have c30 : W.cell? ⟨w.heap.size + 1 + 1 + 1, 0, none⟩ = some (.int .i64 0) := b3.cell 0
  have hs0 : w.heap.size < W.heap.size := b0.lt
  have hs1 : w.heap.size + 1 < W.heap.size := b1.lt
  have hs2 : w.heap.size + 1 + 1 < W.heap.size := b2.lt
  have hs3 : w.heap.size + 1 + 1 + 1 < W.heap.size := b3.lt
  have fz3 : W.frozen? ⟨w.heap.size + 1 + 1 + 1, 0, none⟩ = false := b3.frozen 0
  have fz2 : W.frozen? ⟨w.heap.size + 1 + 1, 0, none⟩ = false := b2.frozen 0
  have fy2 : W.frozen? ⟨w.heap.size + 1 + 1, 1, none⟩ = false := b2.frozen 1
  have HBE := Lib.hid b3
  have HBS := Lib.hid b2
  have hW' := hW.symm
  try unfold payCs at hW'
  rw [hW']
  clear hW hW' b0 b1 b2 b3
  refine (open_fine (p := p) 64 #[.pointer (some ⟨w.heap.size + 1, 0, none⟩)] EG.out _ (by exact HP.out.grow HBW.out) HV.out (by rw [← HVAL.out]; exact clos64 who _ W (by have := (payB_parts (HP.out) HV.out).1; omega) (by have := (payB_parts (HP.out) HV.out).1; omega) c10 hs1)).mono ?_
  rintro e w1 ⟨rfl, hD, hb1⟩
  have HD := Lib.hid hD
  have HB1 : Hid (Below W.heap.size W w1) := hb1
  clear hb1 hD
  go_wp2_with fail
  refine (told_any (p := p) HV.out _ (by exact HD.out)).mono ?_
  rintro e w2 ⟨h1, hb2⟩
  rw [if_pos HT.out] at h1
  obtain rfl := h1
  have HB2 : Hid (Below W.heap.size W w2) := HB1.out.trans (hb2.mono HB1.out.size)
  have HD2 := Lib.hid (HD.out.grow hb2)
  clear hb2
  go_wp2
  obtain ⟨who, rfl⟩ : ∃ k : Nat, who = k := ⟨who.toNat, by have := HWHO.out; omega⟩
  have hwl : who < dl := by have := HWHO.out; have := HPE2.out; omega
  have hwl2 : (who : Int) < (dl : Int) := by omega
  obtain ⟨x, HX⟩ : ∃ x, Hid (((sharesR p)[who]?).getD 0 = x) := ⟨_, rfl⟩
  have HXB : Hid (∀ v, (sharesR p)[who]? = some v → v = x) := fun v hv => by rw [← HX.out, hv]; rfl
  have hb10 : w2.cell? ⟨w.heap.size + 1, 0, none⟩ = some (.int .i64 (who : Int)) := (HB2.out.cell (p := ⟨w.heap.size + 1, 0, none⟩) hs1).trans c10
  have hs12 : w.heap.size + 1 < w2.heap.size := by have := HB2.out.size; omega
  refine wp_region_havoc [(0,false),(2,false),(1,true),(3,false),(4,false)] [5] (fun _ _ => False) (by kernel_rfl) (by kernel_rfl) (fun _ _ _ _ h => h.elim) ?_
  iterate 2 (apply hav_same (by simp only [List.getElem?_toArray, List.getElem?_cons_succ, List.getElem?_cons_zero]; rfl) (by kernel_rfl); (focus (intro wv hgv _; have hcv : ∀ b o, b < _ → wv.cell? ⟨b, o, none⟩ = _ := fun b o hb => Below.cell hgv (p := ⟨b, o, none⟩) hb; go_simp; try rfl; done)); simp only [Act.put, List.setIfInBounds_toArray, List.set_cons_succ, List.set_cons_zero])
  (apply hav_call_ghost (fun v wq => ∃ g, v = .slice (some ⟨g, 0, none⟩) dl dl ∧ Blk wq g 3 (intsA (sharesR p)) ∧ (sharesR p).length = dl ∧ ∀ x ∈ sharesR p, 0 ≤ x ∧ x ≤ 600000) (by simp only [List.getElem?_toArray, List.getElem?_cons_succ, List.getElem?_cons_zero]; rfl) (by kernel_rfl); (focus (intro wv; go_simp; try exact ⟨rfl, rfl⟩; done)); (focus (rintro v w1 w2 ⟨g, rfl, h, hl⟩ hg; exact ⟨g, rfl, h.below hg h.lt, hl⟩)); (focus (intro wv hgv _; refine (dshares_any (p := p) HV.out _ (by exact (HD2.out.grow hgv).desk)).mono ?_; rintro e w' ⟨⟨g, h1, _, h2, h3, h5⟩, h4⟩; exact .inl ⟨_, h1, h4, g, rfl, h2, h3, h5⟩)); intro v; simp only [Act.put, List.setIfInBounds_toArray, List.set_cons_succ, List.set_cons_zero])
  by_cases hg : ∃ g, v = .slice (some ⟨g, 0, none⟩) dl dl
  case neg =>
    iterate 2 (refine hav_det (V := undef) (by simp only [List.getElem?_toArray, List.getElem?_cons_succ, List.getElem?_cons_zero]; rfl) (fun _ _ hF => (hg (hF.2.imp fun _ h => h.1)).elim) ?_; simp only [Act.put, List.setIfInBounds_toArray, List.set_cons_succ, List.set_cons_zero])
    exact hav_end (fun _ _ hF => (hg (hF.2.imp fun _ h => h.1)).elim)
  obtain ⟨g, rfl⟩ := hg
  (apply hav_same (by simp only [List.getElem?_toArray, List.getElem?_cons_succ, List.getElem?_cons_zero]; rfl) (by kernel_rfl); (focus (intro wv hgv _; have hcv : ∀ b o, b < _ → wv.cell? ⟨b, o, none⟩ = _ := fun b o hb => Below.cell hgv (p := ⟨b, o, none⟩) hb; go_simp; try rfl; done)); simp only [Act.put, List.setIfInBounds_toArray, List.set_cons_succ, List.set_cons_zero])
  (apply hav_same (by simp only [List.getElem?_toArray, List.getElem?_cons_succ, List.getElem?_cons_zero]; rfl) (by kernel_rfl); (focus (intro wv hgv hF; have hcv : ∀ b o, b < _ → wv.cell? ⟨b, o, none⟩ = _ := fun b o hb => Below.cell hgv (p := ⟨b, o, none⟩) hb; obtain ⟨g', he, hB, hL, _⟩ := hF.2; obtain rfl : g = g' := (by simpa using he); have q7 : wv.cell? ⟨g, who, none⟩ = some (.int .i64 x) := (by rw [hB.cell, intsA_get, List.getElem?_eq_getElem (by rw [hL]; exact hwl), ← HX.out, List.getElem?_eq_getElem (by rw [hL]; exact hwl)]; rfl); go_simp; try rfl; done)); simp only [Act.put, List.setIfInBounds_toArray, List.set_cons_succ, List.set_cons_zero])
  refine hav_end (fun w3 hg3 hF => ?_)
  simp only [List.filterMap]
  have hxb : 0 ≤ x ∧ x ≤ 600000 := by
    obtain ⟨g', he, hB, hL, hbd⟩ := hF.2
    have e := List.getElem?_eq_getElem (l := sharesR p) (i := who) (by rw [hL]; exact hwl)
    have := hbd _ (List.mem_of_getElem? e)
    rw [HXB.out _ e] at this
    exact this
  obtain ⟨xb0, xb1⟩ := hxb
  have HB3 : Hid (Below W.heap.size W w3) := HB2.out.trans (hg3.mono HB2.out.size)
  have HD3 := Lib.hid (HD2.out.grow hg3)
  have b6 : w3.cell? ⟨w.heap.size, 6, none⟩ = some (.slice pa pl pc) := (HB3.out.cell (p := ⟨w.heap.size, 6, none⟩) hs0).trans c06
  clear hF hg3
  have hpl8 := HPL8.out
  go_wp2
  go_loopw [7, 22] (fun z i wr => ∃ k : Nat, i = .int .i64 k ∧ k ≤ pl ∧ z = .int .i64 (x + paidF p.paid who k) ∧ Hid (Below w3.heap.size w3 wr)) (fun _ i _ => pl - (intOf i).toNat)
  case atStart => exact ⟨0, rfl, Nat.zero_le _, by simp [paidF], Below.refl _ _⟩
  case round =>
    obtain ⟨k, rfl, hk, rfl, HBR⟩ := hrel
    have HBR1 : Hid (Below W.heap.size W wr) := HB3.out.trans (HBR.out.mono HB3.out.size)
    have HDR := Lib.hid (HD3.out.grow HBR.out)
    have k10 : wr.cell? ⟨w.heap.size + 1, 0, none⟩ = some (.int .i64 (who : Int)) := (HBR1.out.cell (p := ⟨w.heap.size + 1, 0, none⟩) hs1).trans c10
    have hs13 : w.heap.size + 1 < wr.heap.size := by have := HBR1.out.size; omega
    obtain ⟨pf0, pf1⟩ := HPF.out k
    have hszr := HBR.out.size
    by_cases hlt : k < pl
    · obtain ⟨y, hy⟩ : ∃ y, p.paid[k]? = some y := ⟨p.paid[k]'(by have := HPL.out; omega), by simp⟩
      obtain ⟨y0, y1⟩ := HPB.out k y hy
      have HST : Hid (paidF p.paid who (k + 1) = paidF p.paid who k + if y.who = (who : Int) then y.pence else 0) := by show _ = _; rw [paidF, hy]
      obtain ⟨b, off, rfl, hbl, H0, H1, H2⟩ := HDR.out.desk.pay.hpaid k y hy
      clear hy
      by_cases he : y.who = (who : Int)
      · rw [if_pos he] at HST
        have heb : (y.who == (who : Int)) = true := by simp [he]
        clear he
        go_wp2
        go_roundw
        case rel => exact ⟨k + 1, by go_num, by omega, by rw [HST.out]; go_num, HBR.out.alloc (by omega) _⟩
        case measure => simp [intOf]; omega
      · rw [if_neg he, Int.add_zero] at HST
        have heb : (y.who == (who : Int)) = false := by simp [he]
        clear he
        go_wp2
        go_roundw
        case rel => exact ⟨k + 1, by go_num, by omega, by rw [HST.out], HBR.out.alloc (by omega) _⟩
        case measure => simp [intOf]; omega
    · obtain rfl : pl = k := by omega
      obtain ⟨n, hn⟩ : ∃ n, x + paidF p.paid who pl = n := ⟨_, rfl⟩
      have HN := Lib.hid hn
      have hn0 : 0 ≤ n := by omega
      have hn1 : n ≤ 700000 := by omega
      rw [hn]
      clear hn
      go_wp2_with fail
      refine (dwages_any (p := p) HV.out HT.out who HWHO.out.1 HWHO.out.2.2 _ (by exact HDR.out)).mono ?_
      obtain ⟨C, HC⟩ : ∃ C, Hid (wagesF (fun r => sheepS p who r) rate rl = C) := ⟨_, rfl⟩
      rw [HC.out] at HWB ⊢
      rintro e w5 ⟨rfl, hb5⟩
      have HB5 : Hid (Below W.heap.size W w5) := HBR1.out.trans (hb5.mono HBR1.out.size)
      clear hb5
      simp only [spV]
      go_wp2_with fail
      refine (less_any C ⟨n, n⟩ (by have := HWB.out; unfold midS at this ⊢; omega) (by unfold midS; simp only; omega) _).mono ?_
      rintro e w6 ⟨rfl, hb6⟩
      have HB6 : Hid (Below W.heap.size W w6) := HB5.out.trans (hb6.mono HB5.out.size)
      clear hb6
      have hfd : ∀ (a b : Int) (w : World), (Instr.field 80 (.agg #[.int .i64 a, .int .i64 b]) 0).run Tryd.prog w = .ok (.agg #[.int .i64 a, .int .i64 b]) w := fun _ _ _ => by kernel_rfl
      have HE1 : Hid (Blk w6 (w.heap.size + 1 + 1 + 1) 30 #[.int .i64 0]) := HBE.out.below HB6.out hs3
      have HS1 : Hid (Blk w6 (w.heap.size + 1 + 1) 34 #[.int .i64 0, .int .i64 0]) := HBS.out.below HB6.out hs2
      have q0 : w6.cell? ⟨w.heap.size + 1 + 1 + 1, 0, none⟩ = some (.int .i64 0) := HE1.out.cell 0
      have q1 : w6.frozen? ⟨w.heap.size + 1 + 1 + 1, 0, none⟩ = false := HE1.out.frozen 0
      have q2 : w6.cell? ⟨w.heap.size + 1 + 1, 0, none⟩ = some (.int .i64 0) := HS1.out.cell 0
      have q3 : w6.frozen? ⟨w.heap.size + 1 + 1, 0, none⟩ = false := HS1.out.frozen 0
      have q4 : w6.cell? ⟨w.heap.size + 1 + 1, 1, none⟩ = some (.int .i64 0) := HS1.out.cell 1
      have q5 : w6.frozen? ⟨w.heap.size + 1 + 1, 1, none⟩ = false := HS1.out.frozen 1
      simp only [spV, lessS]
      go_wp2
      have HS2 := ((HS1.out.set_ 0 (.int .i64 (C.lo - n))).set_ 1 (.int .i64 (C.hi - n))).far (p := ⟨w.heap.size + 1 + 1 + 1, 0, none⟩) (by show _ ≠ w.heap.size + 1 + 1 + 1; omega) (.int .i64 0)
      have HE2 := ((HE1.out.far (p := ⟨w.heap.size + 1 + 1, 0, none⟩) (by show _ ≠ w.heap.size + 1 + 1; omega) (.int .i64 (C.lo - n))).far (p := ⟨w.heap.size + 1 + 1, 1, none⟩) (by show _ ≠ w.heap.size + 1 + 1; omega) (.int .i64 (C.hi - n))).set_ 0 (.int .i64 0)
      have g0 := HE2.cell 0
      have g1 := HS2.cell 0
      have g2 := HS2.cell 1
      exact api_returns (b := w.heap.size + 1 + 1 + 1) rfl (v := .tuple #[.agg #[.int .i64 (C.lo - n), .int .i64 (C.hi - n)], .int .i64 0]) (by
        simp at g0 g1 g2
        simp [results, Tryd.results24, go_sem, g0, g1, g2]) ⟨by rw [HC.out, Int.toNat_natCast, HX.out, HN.out]; rfl, setCell_below (setCell_below2 (setCell_below (HBW.out.trans (HB6.out.mono (by omega))) (by omega) _) (by omega) _) (by omega) _⟩
end
end Go.Proofs.YtlcolpnniipgbaaDoor
