/- The walks of Out and Wages. -/
import Derived.Test.YtlcolpnniipgbaaDoorApi2
namespace Go.Proofs.YtlcolpnniipgbaaDoor
open Go.RowKit Go.Hav
section
variable {people rate bill : Int} {ra ca da pa : Option Addr} {rl rc cl cc dl dc pl pc : Nat} {p : PayD}
set_option maxRecDepth 100000 in
set_option maxHeartbeats 1600000 in
theorem POut_err (run : Int) (w : World) (hP : PayIn w w.heap.size people ra rl ca cl rate bill da dl pa pl p) (h : payB p = false ∨ runB p run = false) :
    Calls Tryd.prog 18 #[payV people ra rl rc ca cl cc rate bill da dl dc pa pl pc, .int .i64 run] w fun e w' => e = .returned (.tuple #[spV ⟨0, 0⟩, .int .i64 (if payB p then 2 else 1)]) ∧ Below w.heap.size w w' := by
  have HH := Lib.hid h
  clear h
  have HP := Lib.hid hP
  have EG := Lib.hid (enters_of Tryd.func55 (by kernel_rfl) rfl)
  have hmf : ∀ (fn : Fn) (first cap : Array Value) (w : World), (Instr.makeFunc fn first cap).run Tryd.prog w = .ok (.func fn first cap) w := fun _ _ _ _ => rfl
  clear hP
  unfold payV
  go_enter_defers Tryd.func18, Tryd.ntmps18
  go_wp2_with fail
  obtain ⟨W, hW⟩ : ∃ W, W = ((((w.alloc (.cells (payCs people ra rl rc ca cl cc rate bill da dl dc pa pl pc) 27)).alloc (.cells #[.int .i64 run] 3)).alloc (.cells #[.int .i64 0, .int .i64 0] 34)).alloc (.cells #[.int .i64 0] 30)) := ⟨_, rfl⟩
  have b0 : Blk W (w.heap.size) 27 (payCs people ra rl rc ca cl cc rate bill da dl dc pa pl pc) := by rw [hW]; exact ((((Blk.new_ (by simp) _ _).alloc _).alloc _).alloc _)
  have b1 : Blk W (w.heap.size + 1) 3 #[.int .i64 run] := by rw [hW]; exact (((Blk.new_ (by simp) _ _).alloc _).alloc _)
  have b2 : Blk W (w.heap.size + 1 + 1) 34 #[.int .i64 0, .int .i64 0] := by rw [hW]; exact ((Blk.new_ (by simp) _ _).alloc _)
  have b3 : Blk W (w.heap.size + 1 + 1 + 1) 30 #[.int .i64 0] := by rw [hW]; exact Blk.new_ (by simp) _ _
  have HBW : Hid (Below w.heap.size w W) := by rw [hW]; exact (((((Below.refl w.heap.size w).alloc (by simp <;> omega) _).alloc (by simp <;> omega) _).alloc (by simp <;> omega) _).alloc (by simp <;> omega) _)
  have c00 : W.cell? ⟨w.heap.size, 0, none⟩ = some (.int .i64 people) := b0.cell 0
  have c01 : W.cell? ⟨w.heap.size, 1, none⟩ = some (.slice ra rl rc) := b0.cell 1
  have c02 : W.cell? ⟨w.heap.size, 2, none⟩ = some (.slice ca cl cc) := b0.cell 2
  have c03 : W.cell? ⟨w.heap.size, 3, none⟩ = some (.int .i64 rate) := b0.cell 3
  have c04 : W.cell? ⟨w.heap.size, 4, none⟩ = some (.int .i64 bill) := b0.cell 4
  have c05 : W.cell? ⟨w.heap.size, 5, none⟩ = some (.slice da dl dc) := b0.cell 5
  have c06 : W.cell? ⟨w.heap.size, 6, none⟩ = some (.slice pa pl pc) := b0.cell 6
  have c10 : W.cell? ⟨w.heap.size + 1, 0, none⟩ = some (.int .i64 run) := b1.cell 0
  have c20 : W.cell? ⟨w.heap.size + 1 + 1, 0, none⟩ = some (.int .i64 0) := b2.cell 0
  have c21 : W.cell? ⟨w.heap.size + 1 + 1, 1, none⟩ = some (.int .i64 0) := b2.cell 1
  have c30 : W.cell? ⟨w.heap.size + 1 + 1 + 1, 0, none⟩ = some (.int .i64 0) := b3.cell 0
  have hs0 : w.heap.size < W.heap.size := b0.lt
  have hs1 : w.heap.size + 1 < W.heap.size := b1.lt
  have hs2 : w.heap.size + 1 + 1 < W.heap.size := b2.lt
  have hs3 : w.heap.size + 1 + 1 + 1 < W.heap.size := b3.lt
  have fz3 : W.frozen? ⟨w.heap.size + 1 + 1 + 1, 0, none⟩ = false := b3.frozen 0
  have fz2 : W.frozen? ⟨w.heap.size + 1 + 1, 0, none⟩ = false := b2.frozen 0
  have fy2 : W.frozen? ⟨w.heap.size + 1 + 1, 1, none⟩ = false := b2.frozen 1
  have HBE := Lib.hid b3
  have HBS := Lib.hid b2
  have hW' := hW.symm
  try unfold payCs at hW'
  rw [hW']
  clear hW hW' b0 b1 b2 b3
  refine wp_region_havoc [(0,false), (1,false), (4,false), (2,true), (3,false), (5,false), (6,false)] [7, 8] (fun ch wp => ch = [refE (if payB p then 2 else 1)] ∧ Grow W wp) (by kernel_rfl) (by kernel_rfl) ?hQ ?_
  case hQ =>
    rintro ch a' w' hA ⟨rfl, hg⟩
    have HE' : Hid (Blk w' (w.heap.size + 1 + 1 + 1) 30 #[.int .i64 0]) := HBE.out.below hg hs3
    have g0 := (HE'.out.set_ 0 (.int .i64 (if payB p then 2 else 1))).cell 0
    have e4 := hA.slot 4 (by kernel_rfl)
    have e5 := hA.slot 5 (by kernel_rfl)
    have HS' : Hid (Blk (w'.setCell ⟨w.heap.size + 1 + 1 + 1, 0, none⟩ (.int .i64 (if payB p then 2 else 1))) (w.heap.size + 1 + 1) 34 #[.int .i64 0, .int .i64 0]) := (HBS.out.below hg hs2).far (by show _ ≠ w.heap.size + 1 + 1 + 1; omega) _
    have g1 := HS'.out.cell 0
    have g2 := HS'.out.cell 1
    exact api_panics (b := w.heap.size + 1 + 1 + 1) hA.1 (HE'.out.cell 0) (HE'.out.frozen 0) (v := .tuple #[spV ⟨0, 0⟩, .int .i64 (if payB p then 2 else 1)]) (by
      simp at e4 e5 g0 g1 g2
      simp [results, Tryd.results18, go_sem, e4, e5, g0, g1, g2, spV]) ⟨rfl, setCell_below (HBW.out.trans (hg.mono (by omega))) (by omega) _⟩
  iterate 3 (apply hav_same (by simp only [List.getElem?_toArray, List.getElem?_cons_succ, List.getElem?_cons_zero]; rfl) (by kernel_rfl); (focus (intro wv hgv _; have hcv : ∀ b o, b < _ → wv.cell? ⟨b, o, none⟩ = _ := fun b o hb => Below.cell hgv (p := ⟨b, o, none⟩) hb; go_simp; try rfl; done)); simp only [Act.put, List.setIfInBounds_toArray, List.set_cons_succ, List.set_cons_zero])
  (apply hav_call_ghost (fun _ _ => False) (by simp only [List.getElem?_toArray, List.getElem?_cons_succ, List.getElem?_cons_zero]; rfl) (by kernel_rfl); (focus (intro wv; go_simp; try exact ⟨rfl, rfl⟩; done)); (focus (intro _ _ _ h _; exact h.elim)); (focus (intro wv hgv _; have hcv : ∀ b o, b < _ → wv.cell? ⟨b, o, none⟩ = _ := fun b o hb => Below.cell hgv (p := ⟨b, o, none⟩) hb; exact (open_panics (p := p) 55 #[.pointer (some ⟨w.heap.size + 1, 0, none⟩)] (runB p run) EG.out wv (by exact HP.out.grow (HBW.out.trans (hgv.mono (by omega)))) (fun hv => clos55 run _ wv (by rw [hcv _ _ hs1]; exact c10) (by have := hgv.size; omega)) HH.out).mono (fun e w' h => .inr ⟨_, h.1, rfl, Grow.trans hgv h.2⟩); done)); intro _; simp only [Act.put, List.setIfInBounds_toArray, List.set_cons_succ, List.set_cons_zero])
  iterate 3 (refine hav_det (V := undef) (by simp only [List.getElem?_toArray, List.getElem?_cons_succ, List.getElem?_cons_zero]; rfl) (fun _ _ hF => hF.2.elim) ?_; simp only [Act.put, List.setIfInBounds_toArray, List.set_cons_succ, List.set_cons_zero])
  exact hav_end (fun _ _ hF => hF.2.elim)
set_option maxRecDepth 100000 in
set_option maxHeartbeats 1600000 in
theorem POut_clash (run : Int) (w : World) (hP : PayIn w w.heap.size people ra rl ca cl rate bill da dl pa pl p) (hv : payB p = true) (hval : runB p run = true) (ht : wrongI p ≠ 0) :
    Calls Tryd.prog 18 #[payV people ra rl rc ca cl cc rate bill da dl dc pa pl pc, .int .i64 run] w fun e w' => e = .returned (.tuple #[spV ⟨0, 0⟩, .int .i64 10]) ∧ Below w.heap.size w w' := by
  have HV := Lib.hid hv
  have HVAL := Lib.hid hval
  have HT := Lib.hid ht
  clear hv hval ht
  have HP := Lib.hid hP
  have EG := Lib.hid (enters_of Tryd.func55 (by kernel_rfl) rfl)
  have hmf : ∀ (fn : Fn) (first cap : Array Value) (w : World), (Instr.makeFunc fn first cap).run Tryd.prog w = .ok (.func fn first cap) w := fun _ _ _ _ => rfl
  clear hP
  unfold payV
  go_enter_defers Tryd.func18, Tryd.ntmps18
  go_wp2_with fail
  obtain ⟨W, hW⟩ : ∃ W, W = ((((w.alloc (.cells (payCs people ra rl rc ca cl cc rate bill da dl dc pa pl pc) 27)).alloc (.cells #[.int .i64 run] 3)).alloc (.cells #[.int .i64 0, .int .i64 0] 34)).alloc (.cells #[.int .i64 0] 30)) := ⟨_, rfl⟩
  have b0 : Blk W (w.heap.size) 27 (payCs people ra rl rc ca cl cc rate bill da dl dc pa pl pc) := by rw [hW]; exact ((((Blk.new_ (by simp) _ _).alloc _).alloc _).alloc _)
  have b1 : Blk W (w.heap.size + 1) 3 #[.int .i64 run] := by rw [hW]; exact (((Blk.new_ (by simp) _ _).alloc _).alloc _)
  have b2 : Blk W (w.heap.size + 1 + 1) 34 #[.int .i64 0, .int .i64 0] := by rw [hW]; exact ((Blk.new_ (by simp) _ _).alloc _)
  have b3 : Blk W (w.heap.size + 1 + 1 + 1) 30 #[.int .i64 0] := by rw [hW]; exact Blk.new_ (by simp) _ _
  have HBW : Hid (Below w.heap.size w W) := by rw [hW]; exact (((((Below.refl w.heap.size w).alloc (by simp <;> omega) _).alloc (by simp <;> omega) _).alloc (by simp <;> omega) _).alloc (by simp <;> omega) _)
  have c00 : W.cell? ⟨w.heap.size, 0, none⟩ = some (.int .i64 people) := b0.cell 0
  have c01 : W.cell? ⟨w.heap.size, 1, none⟩ = some (.slice ra rl rc) := b0.cell 1
  have c02 : W.cell? ⟨w.heap.size, 2, none⟩ = some (.slice ca cl cc) := b0.cell 2
  have c03 : W.cell? ⟨w.heap.size, 3, none⟩ = some (.int .i64 rate) := b0.cell 3
  have c04 : W.cell? ⟨w.heap.size, 4, none⟩ = some (.int .i64 bill) := b0.cell 4
  have c05 : W.cell? ⟨w.heap.size, 5, none⟩ = some (.slice da dl dc) := b0.cell 5
  have c06 : W.cell? ⟨w.heap.size, 6, none⟩ = some (.slice pa pl pc) := b0.cell 6
  have c10 : W.cell? ⟨w.heap.size + 1, 0, none⟩ = some (.int .i64 run) := b1.cell 0
  have c20 : W.cell? ⟨w.heap.size + 1 + 1, 0, none⟩ = some (.int .i64 0) := b2.cell 0
  have c21 : W.cell? ⟨w.heap.size + 1 + 1, 1, none⟩ = some (.int .i64 0) := b2.cell 1
  have c30 : W.cell? ⟨w.heap.size + 1 + 1 + 1, 0, none⟩ = some (.int .i64 0) := b3.cell 0
  have hs0 : w.heap.size < W.heap.size := b0.lt
  have hs1 : w.heap.size + 1 < W.heap.size := b1.lt
  have hs2 : w.heap.size + 1 + 1 < W.heap.size := b2.lt
  have hs3 : w.heap.size + 1 + 1 + 1 < W.heap.size := b3.lt
  have fz3 : W.frozen? ⟨w.heap.size + 1 + 1 + 1, 0, none⟩ = false := b3.frozen 0
  have fz2 : W.frozen? ⟨w.heap.size + 1 + 1, 0, none⟩ = false := b2.frozen 0
  have fy2 : W.frozen? ⟨w.heap.size + 1 + 1, 1, none⟩ = false := b2.frozen 1
  have HBE := Lib.hid b3
  have HBS := Lib.hid b2
  have hW' := hW.symm
  try unfold payCs at hW'
  rw [hW']
  clear hW hW' b0 b1 b2 b3
  refine wp_region_havoc [(0,false), (1,false), (4,false), (2,true), (3,true), (5,false), (6,false)] [7, 8] (fun ch wp => ch = [refE 10] ∧ Grow W wp) (by kernel_rfl) (by kernel_rfl) ?hQ ?_
  case hQ =>
    rintro ch a' w' hA ⟨rfl, hg⟩
    have HE' : Hid (Blk w' (w.heap.size + 1 + 1 + 1) 30 #[.int .i64 0]) := HBE.out.below hg hs3
    have g0 := (HE'.out.set_ 0 (.int .i64 10)).cell 0
    have e4 := hA.slot 4 (by kernel_rfl)
    have e5 := hA.slot 5 (by kernel_rfl)
    have HS' : Hid (Blk (w'.setCell ⟨w.heap.size + 1 + 1 + 1, 0, none⟩ (.int .i64 10)) (w.heap.size + 1 + 1) 34 #[.int .i64 0, .int .i64 0]) := (HBS.out.below hg hs2).far (by show _ ≠ w.heap.size + 1 + 1 + 1; omega) _
    have g1 := HS'.out.cell 0
    have g2 := HS'.out.cell 1
    exact api_panics (b := w.heap.size + 1 + 1 + 1) hA.1 (HE'.out.cell 0) (HE'.out.frozen 0) (v := .tuple #[spV ⟨0, 0⟩, .int .i64 10]) (by
      simp at e4 e5 g0 g1 g2
      simp [results, Tryd.results18, go_sem, e4, e5, g0, g1, g2, spV]) ⟨rfl, setCell_below (HBW.out.trans (hg.mono (by omega))) (by omega) _⟩
  iterate 3 (apply hav_same (by simp only [List.getElem?_toArray, List.getElem?_cons_succ, List.getElem?_cons_zero]; rfl) (by kernel_rfl); (focus (intro wv hgv _; have hcv : ∀ b o, b < _ → wv.cell? ⟨b, o, none⟩ = _ := fun b o hb => Below.cell hgv (p := ⟨b, o, none⟩) hb; go_simp; try rfl; done)); simp only [Act.put, List.setIfInBounds_toArray, List.set_cons_succ, List.set_cons_zero])
  (apply hav_call_ghost (fun (v : Value) (wq : World) => ∃ d, v = .pointer (some ⟨d, 0, none⟩) ∧ DeskM wq (d + 2) d (d - 1) people ra rl rc ca cl cc rate bill da dl dc pa pl pc p) (by simp only [List.getElem?_toArray, List.getElem?_cons_succ, List.getElem?_cons_zero]; rfl) (by kernel_rfl); (focus (intro wv; go_simp; try exact ⟨rfl, rfl⟩; done)); (focus (rintro v w1 w2 ⟨d, rfl, h⟩ hg; exact ⟨d, rfl, h.grow hg⟩)); (focus (intro wv hgv _; have hcv : ∀ b o, b < _ → wv.cell? ⟨b, o, none⟩ = _ := fun b o hb => Below.cell hgv (p := ⟨b, o, none⟩) hb; exact (open_fine (p := p) 55 #[.pointer (some ⟨w.heap.size + 1, 0, none⟩)] EG.out wv (by exact HP.out.grow (HBW.out.trans (hgv.mono (by omega)))) HV.out (by rw [← HVAL.out]; exact (fun hv => clos55 run _ wv (by rw [hcv _ _ hs1]; exact c10) (by have := hgv.size; omega)) HV.out)).mono (fun e w' h => .inl ⟨_, h.1, h.2.2, _, rfl, h.2.1⟩); done)); intro v; simp only [Act.put, List.setIfInBounds_toArray, List.set_cons_succ, List.set_cons_zero])
  by_cases hd : ∃ d, v = .pointer (some ⟨d, 0, none⟩)
  · obtain ⟨d, rfl⟩ := hd
    (apply hav_call_ghost (fun _ _ => False) (by simp only [List.getElem?_toArray, List.getElem?_cons_succ, List.getElem?_cons_zero]; rfl) (by kernel_rfl); (focus (intro wv; go_simp; try exact ⟨rfl, rfl⟩; done)); (focus (intro _ _ _ h _; exact h.elim)); (focus (rintro wv hgv ⟨_, d', he, hD⟩; obtain rfl : d = d' := (by simpa using he); refine (told_any (p := p) HV.out _ hD).mono ?_; rintro e w' ⟨h1, h2⟩; rw [if_neg HT.out] at h1; exact .inr ⟨_, h1, rfl, Grow.trans hgv h2⟩)); intro _; simp only [Act.put, List.setIfInBounds_toArray, List.set_cons_succ, List.set_cons_zero])
    iterate 2 (refine hav_det (V := undef) (by simp only [List.getElem?_toArray, List.getElem?_cons_succ, List.getElem?_cons_zero]; rfl) (fun _ _ hF => hF.2.elim) ?_; simp only [Act.put, List.setIfInBounds_toArray, List.set_cons_succ, List.set_cons_zero])
    exact hav_end (fun _ _ hF => hF.2.elim)
  · (refine hav_ghost (fun _ _ => False) (by simp only [List.getElem?_toArray, List.getElem?_cons_succ, List.getElem?_cons_zero]; rfl) (fun _ _ _ h _ => h) (fun _ _ hF => (hd (hF.2.imp fun _ h => h.1)).elim) ?_; intro _; simp only [Act.put, List.setIfInBounds_toArray, List.set_cons_succ, List.set_cons_zero])
    iterate 2 (refine hav_det (V := undef) (by simp only [List.getElem?_toArray, List.getElem?_cons_succ, List.getElem?_cons_zero]; rfl) (fun _ _ hF => hF.2.elim) ?_; simp only [Act.put, List.setIfInBounds_toArray, List.set_cons_succ, List.set_cons_zero])
    exact hav_end (fun _ _ hF => hF.2.elim)
set_option maxRecDepth 100000 in
set_option maxHeartbeats 6400000 in
theorem POut_ok (run : Int) (w : World) (hP : PayIn w w.heap.size people ra rl ca cl rate bill da dl pa pl p) (hv : payB p = true) (hval : runB p run = true) (ht : wrongI p = 0) :
    Calls Tryd.prog 18 #[payV people ra rl rc ca cl cc rate bill da dl dc pa pl pc, .int .i64 run] w fun e w' => e = .returned (.tuple #[spV (outS p run), .int .i64 0]) ∧ Below w.heap.size w w' := by
  have HV := Lib.hid hv
  have HVAL := Lib.hid hval
  have HR1 := Lib.hid (payB_people hv)
  have HPE := Lib.hid hP.epeople
  have HRL := Lib.hid hP.erl
  have HT := Lib.hid ht
  have HRUN : Hid (0 ≤ run ∧ run ≤ 1000 ∧ run < rl) := by have h1 := HR1.out; have h2 := HRL.out; have h3 : runB p run = true := (by first | exact hval | exact (Bool.and_eq_true_iff.1 hval).2); have h4 := inB_iff.1 h3; show _ ∧ _ ∧ _; omega
  clear hv hval ht
  have HP := Lib.hid hP
  have EG := Lib.hid (enters_of Tryd.func55 (by kernel_rfl) rfl)
  have hmf : ∀ (fn : Fn) (first cap : Array Value) (w : World), (Instr.makeFunc fn first cap).run Tryd.prog w = .ok (.func fn first cap) w := fun _ _ _ _ => rfl
  clear hP
  unfold payV
  go_enter_defers Tryd.func18, Tryd.ntmps18
  go_wp2_with fail
  obtain ⟨W, hW⟩ : ∃ W, W = ((((w.alloc (.cells (payCs people ra rl rc ca cl cc rate bill da dl dc pa pl pc) 27)).alloc (.cells #[.int .i64 run] 3)).alloc (.cells #[.int .i64 0, .int .i64 0] 34)).alloc (.cells #[.int .i64 0] 30)) := ⟨_, rfl⟩
  have b0 : Blk W (w.heap.size) 27 (payCs people ra rl rc ca cl cc rate bill da dl dc pa pl pc) := by rw [hW]; exact ((((Blk.new_ (by simp) _ _).alloc _).alloc _).alloc _)
  have b1 : Blk W (w.heap.size + 1) 3 #[.int .i64 run] := by rw [hW]; exact (((Blk.new_ (by simp) _ _).alloc _).alloc _)
  have b2 : Blk W (w.heap.size + 1 + 1) 34 #[.int .i64 0, .int .i64 0] := by rw [hW]; exact ((Blk.new_ (by simp) _ _).alloc _)
  have b3 : Blk W (w.heap.size + 1 + 1 + 1) 30 #[.int .i64 0] := by rw [hW]; exact Blk.new_ (by simp) _ _
  have HBW : Hid (Below w.heap.size w W) := by rw [hW]; exact (((((Below.refl w.heap.size w).alloc (by simp <;> omega) _).alloc (by simp <;> omega) _).alloc (by simp <;> omega) _).alloc (by simp <;> omega) _)
  have c00 : W.cell? ⟨w.heap.size, 0, none⟩ = some (.int .i64 people) := b0.cell 0
  have c01 : W.cell? ⟨w.heap.size, 1, none⟩ = some (.slice ra rl rc) := b0.cell 1
  have c02 : W.cell? ⟨w.heap.size, 2, none⟩ = some (.slice ca cl cc) := b0.cell 2
  have c03 : W.cell? ⟨w.heap.size, 3, none⟩ = some (.int .i64 rate) := b0.cell 3
  have c04 : W.cell? ⟨w.heap.size, 4, none⟩ = some (.int .i64 bill) := b0.cell 4
  have c05 : W.cell? ⟨w.heap.size, 5, none⟩ = some (.slice da dl dc) := b0.cell 5
  have c06 : W.cell? ⟨w.heap.size, 6, none⟩ = some (.slice pa pl pc) := b0.cell 6
  have c10 : W.cell? ⟨w.heap.size + 1, 0, none⟩ = some (.int .i64 run) := b1.cell 0
  have c20 : W.cell? ⟨w.heap.size + 1 + 1, 0, none⟩ = some (.int .i64 0) := b2.cell 0
  have c21 : W.cell? ⟨w.heap.size + 1 + 1, 1, none⟩ = some (.int .i64 0) := b2.cell 1
  have c30 : W.cell? ⟨w.heap.size + 1 + 1 + 1, 0, none⟩ = some (.int .i64 0) := b3.cell 0
  have hs0 : w.heap.size < W.heap.size := b0.lt
  have hs1 : w.heap.size + 1 < W.heap.size := b1.lt
  have hs2 : w.heap.size + 1 + 1 < W.heap.size := b2.lt
  have hs3 : w.heap.size + 1 + 1 + 1 < W.heap.size := b3.lt
  have fz3 : W.frozen? ⟨w.heap.size + 1 + 1 + 1, 0, none⟩ = false := b3.frozen 0
  have fz2 : W.frozen? ⟨w.heap.size + 1 + 1, 0, none⟩ = false := b2.frozen 0
  have fy2 : W.frozen? ⟨w.heap.size + 1 + 1, 1, none⟩ = false := b2.frozen 1
  have HBE := Lib.hid b3
  have HBS := Lib.hid b2
  have hW' := hW.symm
  try unfold payCs at hW'
  rw [hW']
  clear hW hW' b0 b1 b2 b3
  refine wp_region_havoc [(0,false), (1,false), (4,false), (2,true), (3,false), (5,false), (6,false)] [7, 8] (fun _ _ => False) (by kernel_rfl) (by kernel_rfl) (fun _ _ _ _ h => h.elim) ?_
  iterate 3 (apply hav_same (by simp only [List.getElem?_toArray, List.getElem?_cons_succ, List.getElem?_cons_zero]; rfl) (by kernel_rfl); (focus (intro wv hgv _; have hcv : ∀ b o, b < _ → wv.cell? ⟨b, o, none⟩ = _ := fun b o hb => Below.cell hgv (p := ⟨b, o, none⟩) hb; go_simp; try rfl; done)); simp only [Act.put, List.setIfInBounds_toArray, List.set_cons_succ, List.set_cons_zero])
  (apply hav_call_ghost (fun (v : Value) (wq : World) => ∃ d, v = .pointer (some ⟨d, 0, none⟩) ∧ DeskM wq (d + 2) d (d - 1) people ra rl rc ca cl cc rate bill da dl dc pa pl pc p) (by simp only [List.getElem?_toArray, List.getElem?_cons_succ, List.getElem?_cons_zero]; rfl) (by kernel_rfl); (focus (intro wv; go_simp; try exact ⟨rfl, rfl⟩; done)); (focus (rintro v w1 w2 ⟨d, rfl, h⟩ hg; exact ⟨d, rfl, h.grow hg⟩)); (focus (intro wv hgv _; have hcv : ∀ b o, b < _ → wv.cell? ⟨b, o, none⟩ = _ := fun b o hb => Below.cell hgv (p := ⟨b, o, none⟩) hb; exact (open_fine (p := p) 55 #[.pointer (some ⟨w.heap.size + 1, 0, none⟩)] EG.out wv (by exact HP.out.grow (HBW.out.trans (hgv.mono (by omega)))) HV.out (by rw [← HVAL.out]; exact (fun hv => clos55 run _ wv (by rw [hcv _ _ hs1]; exact c10) (by have := hgv.size; omega)) HV.out)).mono (fun e w' h => .inl ⟨_, h.1, h.2.2, _, rfl, h.2.1⟩); done)); intro v; simp only [Act.put, List.setIfInBounds_toArray, List.set_cons_succ, List.set_cons_zero])
  by_cases hd : ∃ d, v = .pointer (some ⟨d, 0, none⟩)
  case neg =>
    iterate 3 (refine hav_det (V := undef) (by simp only [List.getElem?_toArray, List.getElem?_cons_succ, List.getElem?_cons_zero]; rfl) (fun _ _ hF => (hd (hF.2.imp fun _ h => h.1)).elim) ?_; simp only [Act.put, List.setIfInBounds_toArray, List.set_cons_succ, List.set_cons_zero])
    exact hav_end (fun _ _ hF => (hd (hF.2.imp fun _ h => h.1)).elim)
  obtain ⟨d, rfl⟩ := hd
  (apply hav_call (by simp only [List.getElem?_toArray, List.getElem?_cons_succ, List.getElem?_cons_zero]; rfl) (by kernel_rfl); (focus (intro wv; go_simp; try exact ⟨rfl, rfl⟩; done)); (focus (intro wv hgv hF; obtain ⟨d', he, hD⟩ := hF.2; obtain rfl : d = d' := (by simpa using he); refine (told_any (p := p) HV.out _ hD).mono ?_; rintro e w' ⟨h1, h2⟩; rw [if_pos HT.out] at h1; exact ⟨h1, h2⟩; done)); simp only [Act.put, List.setIfInBounds_toArray, List.set_cons_succ, List.set_cons_zero])
  (apply hav_call (by simp only [List.getElem?_toArray, List.getElem?_cons_succ, List.getElem?_cons_zero]; rfl) (by kernel_rfl); (focus (intro wv; go_simp; try exact ⟨rfl, rfl⟩; done)); (focus (intro wv hgv hF; obtain ⟨d', he, hD⟩ := hF.2; obtain rfl : d = d' := (by simpa using he); exact out_any (p := p) (rl := rl) HV.out run HRUN.out.1 HRUN.out.2.2 _ hD; done)); simp only [Act.put, List.setIfInBounds_toArray, List.set_cons_succ, List.set_cons_zero])
  have hfd : ∀ (a b : Int) (w : World), (Instr.field 80 (.agg #[.int .i64 a, .int .i64 b]) 0).run Tryd.prog w = .ok (.agg #[.int .i64 a, .int .i64 b]) w := fun _ _ _ => by kernel_rfl
  obtain ⟨C, HC⟩ : ∃ C, Hid (outS p run = C) := ⟨_, rfl⟩
  rw [HC.out]
  simp only [spV]
  (apply hav_same (by simp only [List.getElem?_toArray, List.getElem?_cons_succ, List.getElem?_cons_zero]; rfl) (by kernel_rfl); (focus (intro wv hgv _; have hcv : ∀ b o, b < _ → wv.cell? ⟨b, o, none⟩ = _ := fun b o hb => Below.cell hgv (p := ⟨b, o, none⟩) hb; go_simp; try rfl; done)); simp only [Act.put, List.setIfInBounds_toArray, List.set_cons_succ, List.set_cons_zero])
  refine hav_end (fun w1 hgw1 _ => ?_); simp only [List.filterMap]; have hcw1 : ∀ b o, b < _ → w1.cell? ⟨b, o, none⟩ = _ := fun b o hb => Below.cell hgw1 (p := ⟨b, o, none⟩) hb; have hfw1 : ∀ b o, b < _ → w1.frozen? ⟨b, o, none⟩ = _ := fun b o hb => Below.frozen hgw1 (p := ⟨b, o, none⟩) hb; have hzw1 := Below.size hgw1; (try simp at hzw1)
  have HE1 : Hid (Blk w1 (w.heap.size + 1 + 1 + 1) 30 #[.int .i64 0]) := HBE.out.below hgw1 hs3
  have HS1 : Hid (Blk w1 (w.heap.size + 1 + 1) 34 #[.int .i64 0, .int .i64 0]) := HBS.out.below hgw1 hs2
  have q0 : w1.cell? ⟨w.heap.size + 1 + 1 + 1, 0, none⟩ = some (.int .i64 0) := HE1.out.cell 0
  have q1 : w1.frozen? ⟨w.heap.size + 1 + 1 + 1, 0, none⟩ = false := HE1.out.frozen 0
  have q2 : w1.cell? ⟨w.heap.size + 1 + 1, 0, none⟩ = some (.int .i64 0) := HS1.out.cell 0
  have q3 : w1.frozen? ⟨w.heap.size + 1 + 1, 0, none⟩ = false := HS1.out.frozen 0
  have q4 : w1.cell? ⟨w.heap.size + 1 + 1, 1, none⟩ = some (.int .i64 0) := HS1.out.cell 1
  have q5 : w1.frozen? ⟨w.heap.size + 1 + 1, 1, none⟩ = false := HS1.out.frozen 1
  have HB1 : Hid (Below w.heap.size w w1) := HBW.out.trans (hgw1.mono (by omega))
  clear hgw1 hcw1 hfw1
  go_wp2
  have HS2 := ((HS1.out.set_ 0 (.int .i64 C.lo)).set_ 1 (.int .i64 C.hi)).far (p := ⟨w.heap.size + 1 + 1 + 1, 0, none⟩) (by show _ ≠ w.heap.size + 1 + 1 + 1; omega) (.int .i64 0)
  have HE2 := ((HE1.out.far (p := ⟨w.heap.size + 1 + 1, 0, none⟩) (by show _ ≠ w.heap.size + 1 + 1; omega) (.int .i64 C.lo)).far (p := ⟨w.heap.size + 1 + 1, 1, none⟩) (by show _ ≠ w.heap.size + 1 + 1; omega) (.int .i64 C.hi)).set_ 0 (.int .i64 0)
  have g0 := HE2.cell 0
  have g1 := HS2.cell 0
  have g2 := HS2.cell 1
  exact api_returns (b := w.heap.size + 1 + 1 + 1) rfl (v := .tuple #[.agg #[.int .i64 C.lo, .int .i64 C.hi], .int .i64 0]) (by
    simp at g0 g1 g2
    simp [results, Tryd.results18, go_sem, g0, g1, g2]) ⟨by rw [HC.out]; rfl, setCell_below (setCell_below2 (setCell_below HB1.out (by omega) _) (by omega) _) (by omega) _⟩
set_option maxRecDepth 100000 in
set_option maxHeartbeats 1600000 in
theorem PWages_err (who : Int) (w : World) (hP : PayIn w w.heap.size people ra rl ca cl rate bill da dl pa pl p) (h : payB p = false ∨ whoB p who = false) :
    Calls Tryd.prog 20 #[payV people ra rl rc ca cl cc rate bill da dl dc pa pl pc, .int .i64 who] w fun e w' => e = .returned (.tuple #[spV ⟨0, 0⟩, .int .i64 (if payB p then 2 else 1)]) ∧ Below w.heap.size w w' := by
  have HH := Lib.hid h
  clear h
  have HP := Lib.hid hP
  have EG := Lib.hid (enters_of Tryd.func58 (by kernel_rfl) rfl)
  have hmf : ∀ (fn : Fn) (first cap : Array Value) (w : World), (Instr.makeFunc fn first cap).run Tryd.prog w = .ok (.func fn first cap) w := fun _ _ _ _ => rfl
  clear hP
  unfold payV
  go_enter_defers Tryd.func20, Tryd.ntmps20
  go_wp2_with fail
  obtain ⟨W, hW⟩ : ∃ W, W = ((((w.alloc (.cells (payCs people ra rl rc ca cl cc rate bill da dl dc pa pl pc) 27)).alloc (.cells #[.int .i64 who] 3)).alloc (.cells #[.int .i64 0, .int .i64 0] 34)).alloc (.cells #[.int .i64 0] 30)) := ⟨_, rfl⟩
  have b0 : Blk W (w.heap.size) 27 (payCs people ra rl rc ca cl cc rate bill da dl dc pa pl pc) := by rw [hW]; exact ((((Blk.new_ (by simp) _ _).alloc _).alloc _).alloc _)
  have b1 : Blk W (w.heap.size + 1) 3 #[.int .i64 who] := by rw [hW]; exact (((Blk.new_ (by simp) _ _).alloc _).alloc _)
  have b2 : Blk W (w.heap.size + 1 + 1) 34 #[.int .i64 0, .int .i64 0] := by rw [hW]; exact ((Blk.new_ (by simp) _ _).alloc _)
  have b3 : Blk W (w.heap.size + 1 + 1 + 1) 30 #[.int .i64 0] := by rw [hW]; exact Blk.new_ (by simp) _ _
  have HBW : Hid (Below w.heap.size w W) := by rw [hW]; exact (((((Below.refl w.heap.size w).alloc (by simp <;> omega) _).alloc (by simp <;> omega) _).alloc (by simp <;> omega) _).alloc (by simp <;> omega) _)
  have c00 : W.cell? ⟨w.heap.size, 0, none⟩ = some (.int .i64 people) := b0.cell 0
  have c01 : W.cell? ⟨w.heap.size, 1, none⟩ = some (.slice ra rl rc) := b0.cell 1
  have c02 : W.cell? ⟨w.heap.size, 2, none⟩ = some (.slice ca cl cc) := b0.cell 2
  have c03 : W.cell? ⟨w.heap.size, 3, none⟩ = some (.int .i64 rate) := b0.cell 3
  have c04 : W.cell? ⟨w.heap.size, 4, none⟩ = some (.int .i64 bill) := b0.cell 4
  have c05 : W.cell? ⟨w.heap.size, 5, none⟩ = some (.slice da dl dc) := b0.cell 5
  have c06 : W.cell? ⟨w.heap.size, 6, none⟩ = some (.slice pa pl pc) := b0.cell 6
  have c10 : W.cell? ⟨w.heap.size + 1, 0, none⟩ = some (.int .i64 who) := b1.cell 0
  have c20 : W.cell? ⟨w.heap.size + 1 + 1, 0, none⟩ = some (.int .i64 0) := b2.cell 0
  have c21 : W.cell? ⟨w.heap.size + 1 + 1, 1, none⟩ = some (.int .i64 0) := b2.cell 1
  have c30 : W.cell? ⟨w.heap.size + 1 + 1 + 1, 0, none⟩ = some (.int .i64 0) := b3.cell 0
  have hs0 : w.heap.size < W.heap.size := b0.lt
  have hs1 : w.heap.size + 1 < W.heap.size := b1.lt
  have hs2 : w.heap.size + 1 + 1 < W.heap.size := b2.lt
  have hs3 : w.heap.size + 1 + 1 + 1 < W.heap.size := b3.lt
  have fz3 : W.frozen? ⟨w.heap.size + 1 + 1 + 1, 0, none⟩ = false := b3.frozen 0
  have fz2 : W.frozen? ⟨w.heap.size + 1 + 1, 0, none⟩ = false := b2.frozen 0
  have fy2 : W.frozen? ⟨w.heap.size + 1 + 1, 1, none⟩ = false := b2.frozen 1
  have HBE := Lib.hid b3
  have HBS := Lib.hid b2
  have hW' := hW.symm
  try unfold payCs at hW'
  rw [hW']
  clear hW hW' b0 b1 b2 b3
  refine wp_region_havoc [(0,false), (1,false), (4,false), (2,true), (3,false), (5,false), (6,false)] [7, 8] (fun ch wp => ch = [refE (if payB p then 2 else 1)] ∧ Grow W wp) (by kernel_rfl) (by kernel_rfl) ?hQ ?_
  case hQ =>
    rintro ch a' w' hA ⟨rfl, hg⟩
    have HE' : Hid (Blk w' (w.heap.size + 1 + 1 + 1) 30 #[.int .i64 0]) := HBE.out.below hg hs3
    have g0 := (HE'.out.set_ 0 (.int .i64 (if payB p then 2 else 1))).cell 0
    have e4 := hA.slot 4 (by kernel_rfl)
    have e5 := hA.slot 5 (by kernel_rfl)
    have HS' : Hid (Blk (w'.setCell ⟨w.heap.size + 1 + 1 + 1, 0, none⟩ (.int .i64 (if payB p then 2 else 1))) (w.heap.size + 1 + 1) 34 #[.int .i64 0, .int .i64 0]) := (HBS.out.below hg hs2).far (by show _ ≠ w.heap.size + 1 + 1 + 1; omega) _
    have g1 := HS'.out.cell 0
    have g2 := HS'.out.cell 1
    exact api_panics (b := w.heap.size + 1 + 1 + 1) hA.1 (HE'.out.cell 0) (HE'.out.frozen 0) (v := .tuple #[spV ⟨0, 0⟩, .int .i64 (if payB p then 2 else 1)]) (by
      simp at e4 e5 g0 g1 g2
      simp [results, Tryd.results20, go_sem, e4, e5, g0, g1, g2, spV]) ⟨rfl, setCell_below (HBW.out.trans (hg.mono (by omega))) (by omega) _⟩
  iterate 3 (apply hav_same (by simp only [List.getElem?_toArray, List.getElem?_cons_succ, List.getElem?_cons_zero]; rfl) (by kernel_rfl); (focus (intro wv hgv _; have hcv : ∀ b o, b < _ → wv.cell? ⟨b, o, none⟩ = _ := fun b o hb => Below.cell hgv (p := ⟨b, o, none⟩) hb; go_simp; try rfl; done)); simp only [Act.put, List.setIfInBounds_toArray, List.set_cons_succ, List.set_cons_zero])
  (apply hav_call_ghost (fun _ _ => False) (by simp only [List.getElem?_toArray, List.getElem?_cons_succ, List.getElem?_cons_zero]; rfl) (by kernel_rfl); (focus (intro wv; go_simp; try exact ⟨rfl, rfl⟩; done)); (focus (intro _ _ _ h _; exact h.elim)); (focus (intro wv hgv _; have hcv : ∀ b o, b < _ → wv.cell? ⟨b, o, none⟩ = _ := fun b o hb => Below.cell hgv (p := ⟨b, o, none⟩) hb; exact (open_panics (p := p) 58 #[.pointer (some ⟨w.heap.size + 1, 0, none⟩)] (whoB p who) EG.out wv (by exact HP.out.grow (HBW.out.trans (hgv.mono (by omega)))) (fun hv => clos58 who _ wv (by have := (payB_parts (HP.out) hv).1; omega) (by have := (payB_parts (HP.out) hv).1; omega) (by rw [hcv _ _ hs1]; exact c10) (by have := hgv.size; omega)) HH.out).mono (fun e w' h => .inr ⟨_, h.1, rfl, Grow.trans hgv h.2⟩); done)); intro _; simp only [Act.put, List.setIfInBounds_toArray, List.set_cons_succ, List.set_cons_zero])
  iterate 3 (refine hav_det (V := undef) (by simp only [List.getElem?_toArray, List.getElem?_cons_succ, List.getElem?_cons_zero]; rfl) (fun _ _ hF => hF.2.elim) ?_; simp only [Act.put, List.setIfInBounds_toArray, List.set_cons_succ, List.set_cons_zero])
  exact hav_end (fun _ _ hF => hF.2.elim)
set_option maxRecDepth 100000 in
set_option maxHeartbeats 1600000 in
theorem PWages_clash (who : Int) (w : World) (hP : PayIn w w.heap.size people ra rl ca cl rate bill da dl pa pl p) (hv : payB p = true) (hval : whoB p who = true) (ht : wrongI p ≠ 0) :
    Calls Tryd.prog 20 #[payV people ra rl rc ca cl cc rate bill da dl dc pa pl pc, .int .i64 who] w fun e w' => e = .returned (.tuple #[spV ⟨0, 0⟩, .int .i64 10]) ∧ Below w.heap.size w w' := by
  have HV := Lib.hid hv
  have HVAL := Lib.hid hval
  have HT := Lib.hid ht
  clear hv hval ht
  have HP := Lib.hid hP
  have EG := Lib.hid (enters_of Tryd.func58 (by kernel_rfl) rfl)
  have hmf : ∀ (fn : Fn) (first cap : Array Value) (w : World), (Instr.makeFunc fn first cap).run Tryd.prog w = .ok (.func fn first cap) w := fun _ _ _ _ => rfl
  clear hP
  unfold payV
  go_enter_defers Tryd.func20, Tryd.ntmps20
  go_wp2_with fail
  obtain ⟨W, hW⟩ : ∃ W, W = ((((w.alloc (.cells (payCs people ra rl rc ca cl cc rate bill da dl dc pa pl pc) 27)).alloc (.cells #[.int .i64 who] 3)).alloc (.cells #[.int .i64 0, .int .i64 0] 34)).alloc (.cells #[.int .i64 0] 30)) := ⟨_, rfl⟩
  have b0 : Blk W (w.heap.size) 27 (payCs people ra rl rc ca cl cc rate bill da dl dc pa pl pc) := by rw [hW]; exact ((((Blk.new_ (by simp) _ _).alloc _).alloc _).alloc _)
  have b1 : Blk W (w.heap.size + 1) 3 #[.int .i64 who] := by rw [hW]; exact (((Blk.new_ (by simp) _ _).alloc _).alloc _)
  have b2 : Blk W (w.heap.size + 1 + 1) 34 #[.int .i64 0, .int .i64 0] := by rw [hW]; exact ((Blk.new_ (by simp) _ _).alloc _)
  have b3 : Blk W (w.heap.size + 1 + 1 + 1) 30 #[.int .i64 0] := by rw [hW]; exact Blk.new_ (by simp) _ _
  have HBW : Hid (Below w.heap.size w W) := by rw [hW]; exact (((((Below.refl w.heap.size w).alloc (by simp <;> omega) _).alloc (by simp <;> omega) _).alloc (by simp <;> omega) _).alloc (by simp <;> omega) _)
  have c00 : W.cell? ⟨w.heap.size, 0, none⟩ = some (.int .i64 people) := b0.cell 0
  have c01 : W.cell? ⟨w.heap.size, 1, none⟩ = some (.slice ra rl rc) := b0.cell 1
  have c02 : W.cell? ⟨w.heap.size, 2, none⟩ = some (.slice ca cl cc) := b0.cell 2
  have c03 : W.cell? ⟨w.heap.size, 3, none⟩ = some (.int .i64 rate) := b0.cell 3
  have c04 : W.cell? ⟨w.heap.size, 4, none⟩ = some (.int .i64 bill) := b0.cell 4
  have c05 : W.cell? ⟨w.heap.size, 5, none⟩ = some (.slice da dl dc) := b0.cell 5
  have c06 : W.cell? ⟨w.heap.size, 6, none⟩ = some (.slice pa pl pc) := b0.cell 6
  have c10 : W.cell? ⟨w.heap.size + 1, 0, none⟩ = some (.int .i64 who) := b1.cell 0
  have c20 : W.cell? ⟨w.heap.size + 1 + 1, 0, none⟩ = some (.int .i64 0) := b2.cell 0
  have c21 : W.cell? ⟨w.heap.size + 1 + 1, 1, none⟩ = some (.int .i64 0) := b2.cell 1
  have c30 : W.cell? ⟨w.heap.size + 1 + 1 + 1, 0, none⟩ = some (.int .i64 0) := b3.cell 0
  have hs0 : w.heap.size < W.heap.size := b0.lt
  have hs1 : w.heap.size + 1 < W.heap.size := b1.lt
  have hs2 : w.heap.size + 1 + 1 < W.heap.size := b2.lt
  have hs3 : w.heap.size + 1 + 1 + 1 < W.heap.size := b3.lt
  have fz3 : W.frozen? ⟨w.heap.size + 1 + 1 + 1, 0, none⟩ = false := b3.frozen 0
  have fz2 : W.frozen? ⟨w.heap.size + 1 + 1, 0, none⟩ = false := b2.frozen 0
  have fy2 : W.frozen? ⟨w.heap.size + 1 + 1, 1, none⟩ = false := b2.frozen 1
  have HBE := Lib.hid b3
  have HBS := Lib.hid b2
  have hW' := hW.symm
  try unfold payCs at hW'
  rw [hW']
  clear hW hW' b0 b1 b2 b3
  refine wp_region_havoc [(0,false), (1,false), (4,false), (2,true), (3,true), (5,false), (6,false)] [7, 8] (fun ch wp => ch = [refE 10] ∧ Grow W wp) (by kernel_rfl) (by kernel_rfl) ?hQ ?_
  case hQ =>
    rintro ch a' w' hA ⟨rfl, hg⟩
    have HE' : Hid (Blk w' (w.heap.size + 1 + 1 + 1) 30 #[.int .i64 0]) := HBE.out.below hg hs3
    have g0 := (HE'.out.set_ 0 (.int .i64 10)).cell 0
    have e4 := hA.slot 4 (by kernel_rfl)
    have e5 := hA.slot 5 (by kernel_rfl)
    have HS' : Hid (Blk (w'.setCell ⟨w.heap.size + 1 + 1 + 1, 0, none⟩ (.int .i64 10)) (w.heap.size + 1 + 1) 34 #[.int .i64 0, .int .i64 0]) := (HBS.out.below hg hs2).far (by show _ ≠ w.heap.size + 1 + 1 + 1; omega) _
    have g1 := HS'.out.cell 0
    have g2 := HS'.out.cell 1
    exact api_panics (b := w.heap.size + 1 + 1 + 1) hA.1 (HE'.out.cell 0) (HE'.out.frozen 0) (v := .tuple #[spV ⟨0, 0⟩, .int .i64 10]) (by
      simp at e4 e5 g0 g1 g2
      simp [results, Tryd.results20, go_sem, e4, e5, g0, g1, g2, spV]) ⟨rfl, setCell_below (HBW.out.trans (hg.mono (by omega))) (by omega) _⟩
  iterate 3 (apply hav_same (by simp only [List.getElem?_toArray, List.getElem?_cons_succ, List.getElem?_cons_zero]; rfl) (by kernel_rfl); (focus (intro wv hgv _; have hcv : ∀ b o, b < _ → wv.cell? ⟨b, o, none⟩ = _ := fun b o hb => Below.cell hgv (p := ⟨b, o, none⟩) hb; go_simp; try rfl; done)); simp only [Act.put, List.setIfInBounds_toArray, List.set_cons_succ, List.set_cons_zero])
  (apply hav_call_ghost (fun (v : Value) (wq : World) => ∃ d, v = .pointer (some ⟨d, 0, none⟩) ∧ DeskM wq (d + 2) d (d - 1) people ra rl rc ca cl cc rate bill da dl dc pa pl pc p) (by simp only [List.getElem?_toArray, List.getElem?_cons_succ, List.getElem?_cons_zero]; rfl) (by kernel_rfl); (focus (intro wv; go_simp; try exact ⟨rfl, rfl⟩; done)); (focus (rintro v w1 w2 ⟨d, rfl, h⟩ hg; exact ⟨d, rfl, h.grow hg⟩)); (focus (intro wv hgv _; have hcv : ∀ b o, b < _ → wv.cell? ⟨b, o, none⟩ = _ := fun b o hb => Below.cell hgv (p := ⟨b, o, none⟩) hb; exact (open_fine (p := p) 58 #[.pointer (some ⟨w.heap.size + 1, 0, none⟩)] EG.out wv (by exact HP.out.grow (HBW.out.trans (hgv.mono (by omega)))) HV.out (by rw [← HVAL.out]; exact (fun hv => clos58 who _ wv (by have := (payB_parts (HP.out) hv).1; omega) (by have := (payB_parts (HP.out) hv).1; omega) (by rw [hcv _ _ hs1]; exact c10) (by have := hgv.size; omega)) HV.out)).mono (fun e w' h => .inl ⟨_, h.1, h.2.2, _, rfl, h.2.1⟩); done)); intro v; simp only [Act.put, List.setIfInBounds_toArray, List.set_cons_succ, List.set_cons_zero])
  by_cases hd : ∃ d, v = .pointer (some ⟨d, 0, none⟩)
  · obtain ⟨d, rfl⟩ := hd
    (apply hav_call_ghost (fun _ _ => False) (by simp only [List.getElem?_toArray, List.getElem?_cons_succ, List.getElem?_cons_zero]; rfl) (by kernel_rfl); (focus (intro wv; go_simp; try exact ⟨rfl, rfl⟩; done)); (focus (intro _ _ _ h _; exact h.elim)); (focus (rintro wv hgv ⟨_, d', he, hD⟩; obtain rfl : d = d' := (by simpa using he); refine (told_any (p := p) HV.out _ hD).mono ?_; rintro e w' ⟨h1, h2⟩; rw [if_neg HT.out] at h1; exact .inr ⟨_, h1, rfl, Grow.trans hgv h2⟩)); intro _; simp only [Act.put, List.setIfInBounds_toArray, List.set_cons_succ, List.set_cons_zero])
    iterate 2 (refine hav_det (V := undef) (by simp only [List.getElem?_toArray, List.getElem?_cons_succ, List.getElem?_cons_zero]; rfl) (fun _ _ hF => hF.2.elim) ?_; simp only [Act.put, List.setIfInBounds_toArray, List.set_cons_succ, List.set_cons_zero])
    exact hav_end (fun _ _ hF => hF.2.elim)
  · (refine hav_ghost (fun _ _ => False) (by simp only [List.getElem?_toArray, List.getElem?_cons_succ, List.getElem?_cons_zero]; rfl) (fun _ _ _ h _ => h) (fun _ _ hF => (hd (hF.2.imp fun _ h => h.1)).elim) ?_; intro _; simp only [Act.put, List.setIfInBounds_toArray, List.set_cons_succ, List.set_cons_zero])
    iterate 2 (refine hav_det (V := undef) (by simp only [List.getElem?_toArray, List.getElem?_cons_succ, List.getElem?_cons_zero]; rfl) (fun _ _ hF => hF.2.elim) ?_; simp only [Act.put, List.setIfInBounds_toArray, List.set_cons_succ, List.set_cons_zero])
    exact hav_end (fun _ _ hF => hF.2.elim)
set_option maxRecDepth 100000 in
set_option maxHeartbeats 6400000 in
theorem PWages_ok (who : Int) (w : World) (hP : PayIn w w.heap.size people ra rl ca cl rate bill da dl pa pl p) (hv : payB p = true) (hval : whoB p who = true) (ht : wrongI p = 0) :
    Calls Tryd.prog 20 #[payV people ra rl rc ca cl cc rate bill da dl dc pa pl pc, .int .i64 who] w fun e w' => e = .returned (.tuple #[spV (wagesF (fun r => sheepS p who r) rate rl), .int .i64 0]) ∧ Below w.heap.size w w' := by
  have HV := Lib.hid hv
  have HVAL := Lib.hid hval
  have HR1 := Lib.hid (payB_people hv)
  have HPE := Lib.hid hP.epeople
  have HRL := Lib.hid hP.erl
  have HT := Lib.hid ht
  have HWHO : Hid (0 ≤ who ∧ who ≤ 1000 ∧ who < people) := by have h1 := HR1.out; have h2 := HPE.out; have h3 : whoB p who = true := (by first | exact hval | exact (Bool.and_eq_true_iff.1 hval).1); have h4 := inB_iff.1 h3; show _ ∧ _ ∧ _; omega
  clear hv hval ht
  have HP := Lib.hid hP
  have EG := Lib.hid (enters_of Tryd.func58 (by kernel_rfl) rfl)
  have hmf : ∀ (fn : Fn) (first cap : Array Value) (w : World), (Instr.makeFunc fn first cap).run Tryd.prog w = .ok (.func fn first cap) w := fun _ _ _ _ => rfl
  clear hP
  unfold payV
  go_enter_defers Tryd.func20, Tryd.ntmps20
  go_wp2_with fail
  obtain ⟨W, hW⟩ : ∃ W, W = ((((w.alloc (.cells (payCs people ra rl rc ca cl cc rate bill da dl dc pa pl pc) 27)).alloc (.cells #[.int .i64 who] 3)).alloc (.cells #[.int .i64 0, .int .i64 0] 34)).alloc (.cells #[.int .i64 0] 30)) := ⟨_, rfl⟩
  have b0 : Blk W (w.heap.size) 27 (payCs people ra rl rc ca cl cc rate bill da dl dc pa pl pc) := by rw [hW]; exact ((((Blk.new_ (by simp) _ _).alloc _).alloc _).alloc _)
  have b1 : Blk W (w.heap.size + 1) 3 #[.int .i64 who] := by rw [hW]; exact (((Blk.new_ (by simp) _ _).alloc _).alloc _)
  have b2 : Blk W (w.heap.size + 1 + 1) 34 #[.int .i64 0, .int .i64 0] := by rw [hW]; exact ((Blk.new_ (by simp) _ _).alloc _)
  have b3 : Blk W (w.heap.size + 1 + 1 + 1) 30 #[.int .i64 0] := by rw [hW]; exact Blk.new_ (by simp) _ _
  have HBW : Hid (Below w.heap.size w W) := by rw [hW]; exact (((((Below.refl w.heap.size w).alloc (by simp <;> omega) _).alloc (by simp <;> omega) _).alloc (by simp <;> omega) _).alloc (by simp <;> omega) _)
  have c00 : W.cell? ⟨w.heap.size, 0, none⟩ = some (.int .i64 people) := b0.cell 0
  have c01 : W.cell? ⟨w.heap.size, 1, none⟩ = some (.slice ra rl rc) := b0.cell 1
  have c02 : W.cell? ⟨w.heap.size, 2, none⟩ = some (.slice ca cl cc) := b0.cell 2
  have c03 : W.cell? ⟨w.heap.size, 3, none⟩ = some (.int .i64 rate) := b0.cell 3
  have c04 : W.cell? ⟨w.heap.size, 4, none⟩ = some (.int .i64 bill) := b0.cell 4
  have c05 : W.cell? ⟨w.heap.size, 5, none⟩ = some (.slice da dl dc) := b0.cell 5
  have c06 : W.cell? ⟨w.heap.size, 6, none⟩ = some (.slice pa pl pc) := b0.cell 6
  have c10 : W.cell? ⟨w.heap.size + 1, 0, none⟩ = some (.int .i64 who) := b1.cell 0
  have c20 : W.cell? ⟨w.heap.size + 1 + 1, 0, none⟩ = some (.int .i64 0) := b2.cell 0
  have c21 : W.cell? ⟨w.heap.size + 1 + 1, 1, none⟩ = some (.int .i64 0) := b2.cell 1
  have c30 : W.cell? ⟨w.heap.size + 1 + 1 + 1, 0, none⟩ = some (.int .i64 0) := b3.cell 0
  have hs0 : w.heap.size < W.heap.size := b0.lt
  have hs1 : w.heap.size + 1 < W.heap.size := b1.lt
  have hs2 : w.heap.size + 1 + 1 < W.heap.size := b2.lt
  have hs3 : w.heap.size + 1 + 1 + 1 < W.heap.size := b3.lt
  have fz3 : W.frozen? ⟨w.heap.size + 1 + 1 + 1, 0, none⟩ = false := b3.frozen 0
  have fz2 : W.frozen? ⟨w.heap.size + 1 + 1, 0, none⟩ = false := b2.frozen 0
  have fy2 : W.frozen? ⟨w.heap.size + 1 + 1, 1, none⟩ = false := b2.frozen 1
  have HBE := Lib.hid b3
  have HBS := Lib.hid b2
  have hW' := hW.symm
  try unfold payCs at hW'
  rw [hW']
  clear hW hW' b0 b1 b2 b3
  refine wp_region_havoc [(0,false), (1,false), (4,false), (2,true), (3,false), (5,false), (6,false)] [7, 8] (fun _ _ => False) (by kernel_rfl) (by kernel_rfl) (fun _ _ _ _ h => h.elim) ?_
  iterate 3 (apply hav_same (by simp only [List.getElem?_toArray, List.getElem?_cons_succ, List.getElem?_cons_zero]; rfl) (by kernel_rfl); (focus (intro wv hgv _; have hcv : ∀ b o, b < _ → wv.cell? ⟨b, o, none⟩ = _ := fun b o hb => Below.cell hgv (p := ⟨b, o, none⟩) hb; go_simp; try rfl; done)); simp only [Act.put, List.setIfInBounds_toArray, List.set_cons_succ, List.set_cons_zero])
  (apply hav_call_ghost (fun (v : Value) (wq : World) => ∃ d, v = .pointer (some ⟨d, 0, none⟩) ∧ DeskM wq (d + 2) d (d - 1) people ra rl rc ca cl cc rate bill da dl dc pa pl pc p) (by simp only [List.getElem?_toArray, List.getElem?_cons_succ, List.getElem?_cons_zero]; rfl) (by kernel_rfl); (focus (intro wv; go_simp; try exact ⟨rfl, rfl⟩; done)); (focus (rintro v w1 w2 ⟨d, rfl, h⟩ hg; exact ⟨d, rfl, h.grow hg⟩)); (focus (intro wv hgv _; have hcv : ∀ b o, b < _ → wv.cell? ⟨b, o, none⟩ = _ := fun b o hb => Below.cell hgv (p := ⟨b, o, none⟩) hb; exact (open_fine (p := p) 58 #[.pointer (some ⟨w.heap.size + 1, 0, none⟩)] EG.out wv (by exact HP.out.grow (HBW.out.trans (hgv.mono (by omega)))) HV.out (by rw [← HVAL.out]; exact (fun hv => clos58 who _ wv (by have := (payB_parts (HP.out) hv).1; omega) (by have := (payB_parts (HP.out) hv).1; omega) (by rw [hcv _ _ hs1]; exact c10) (by have := hgv.size; omega)) HV.out)).mono (fun e w' h => .inl ⟨_, h.1, h.2.2, _, rfl, h.2.1⟩); done)); intro v; simp only [Act.put, List.setIfInBounds_toArray, List.set_cons_succ, List.set_cons_zero])
  by_cases hd : ∃ d, v = .pointer (some ⟨d, 0, none⟩)
  case neg =>
    iterate 3 (refine hav_det (V := undef) (by simp only [List.getElem?_toArray, List.getElem?_cons_succ, List.getElem?_cons_zero]; rfl) (fun _ _ hF => (hd (hF.2.imp fun _ h => h.1)).elim) ?_; simp only [Act.put, List.setIfInBounds_toArray, List.set_cons_succ, List.set_cons_zero])
    exact hav_end (fun _ _ hF => (hd (hF.2.imp fun _ h => h.1)).elim)
  obtain ⟨d, rfl⟩ := hd
  (apply hav_call (by simp only [List.getElem?_toArray, List.getElem?_cons_succ, List.getElem?_cons_zero]; rfl) (by kernel_rfl); (focus (intro wv; go_simp; try exact ⟨rfl, rfl⟩; done)); (focus (intro wv hgv hF; obtain ⟨d', he, hD⟩ := hF.2; obtain rfl : d = d' := (by simpa using he); refine (told_any (p := p) HV.out _ hD).mono ?_; rintro e w' ⟨h1, h2⟩; rw [if_pos HT.out] at h1; exact ⟨h1, h2⟩; done)); simp only [Act.put, List.setIfInBounds_toArray, List.set_cons_succ, List.set_cons_zero])
  (apply hav_call (by simp only [List.getElem?_toArray, List.getElem?_cons_succ, List.getElem?_cons_zero]; rfl) (by kernel_rfl); (focus (intro wv; go_simp; try exact ⟨rfl, rfl⟩; done)); (focus (intro wv hgv hF; obtain ⟨d', he, hD⟩ := hF.2; obtain rfl : d = d' := (by simpa using he); exact dwages_any (p := p) HV.out HT.out who HWHO.out.1 HWHO.out.2.2 _ hD; done)); simp only [Act.put, List.setIfInBounds_toArray, List.set_cons_succ, List.set_cons_zero])
  have hfd : ∀ (a b : Int) (w : World), (Instr.field 80 (.agg #[.int .i64 a, .int .i64 b]) 0).run Tryd.prog w = .ok (.agg #[.int .i64 a, .int .i64 b]) w := fun _ _ _ => by kernel_rfl
  obtain ⟨C, HC⟩ : ∃ C, Hid (wagesF (fun r => sheepS p who r) rate rl = C) := ⟨_, rfl⟩
  rw [HC.out]
  simp only [spV]
  (apply hav_same (by simp only [List.getElem?_toArray, List.getElem?_cons_succ, List.getElem?_cons_zero]; rfl) (by kernel_rfl); (focus (intro wv hgv _; have hcv : ∀ b o, b < _ → wv.cell? ⟨b, o, none⟩ = _ := fun b o hb => Below.cell hgv (p := ⟨b, o, none⟩) hb; go_simp; try rfl; done)); simp only [Act.put, List.setIfInBounds_toArray, List.set_cons_succ, List.set_cons_zero])
  refine hav_end (fun w1 hgw1 _ => ?_); simp only [List.filterMap]; have hcw1 : ∀ b o, b < _ → w1.cell? ⟨b, o, none⟩ = _ := fun b o hb => Below.cell hgw1 (p := ⟨b, o, none⟩) hb; have hfw1 : ∀ b o, b < _ → w1.frozen? ⟨b, o, none⟩ = _ := fun b o hb => Below.frozen hgw1 (p := ⟨b, o, none⟩) hb; have hzw1 := Below.size hgw1; (try simp at hzw1)
  have HE1 : Hid (Blk w1 (w.heap.size + 1 + 1 + 1) 30 #[.int .i64 0]) := HBE.out.below hgw1 hs3
  have HS1 : Hid (Blk w1 (w.heap.size + 1 + 1) 34 #[.int .i64 0, .int .i64 0]) := HBS.out.below hgw1 hs2
  have q0 : w1.cell? ⟨w.heap.size + 1 + 1 + 1, 0, none⟩ = some (.int .i64 0) := HE1.out.cell 0
  have q1 : w1.frozen? ⟨w.heap.size + 1 + 1 + 1, 0, none⟩ = false := HE1.out.frozen 0
  have q2 : w1.cell? ⟨w.heap.size + 1 + 1, 0, none⟩ = some (.int .i64 0) := HS1.out.cell 0
  have q3 : w1.frozen? ⟨w.heap.size + 1 + 1, 0, none⟩ = false := HS1.out.frozen 0
  have q4 : w1.cell? ⟨w.heap.size + 1 + 1, 1, none⟩ = some (.int .i64 0) := HS1.out.cell 1
  have q5 : w1.frozen? ⟨w.heap.size + 1 + 1, 1, none⟩ = false := HS1.out.frozen 1
  have HB1 : Hid (Below w.heap.size w w1) := HBW.out.trans (hgw1.mono (by omega))
  clear hgw1 hcw1 hfw1
  go_wp2
  have HS2 := ((HS1.out.set_ 0 (.int .i64 C.lo)).set_ 1 (.int .i64 C.hi)).far (p := ⟨w.heap.size + 1 + 1 + 1, 0, none⟩) (by show _ ≠ w.heap.size + 1 + 1 + 1; omega) (.int .i64 0)
  have HE2 := ((HE1.out.far (p := ⟨w.heap.size + 1 + 1, 0, none⟩) (by show _ ≠ w.heap.size + 1 + 1; omega) (.int .i64 C.lo)).far (p := ⟨w.heap.size + 1 + 1, 1, none⟩) (by show _ ≠ w.heap.size + 1 + 1; omega) (.int .i64 C.hi)).set_ 0 (.int .i64 0)
  have g0 := HE2.cell 0
  have g1 := HS2.cell 0
  have g2 := HS2.cell 1
  exact api_returns (b := w.heap.size + 1 + 1 + 1) rfl (v := .tuple #[.agg #[.int .i64 C.lo, .int .i64 C.hi], .int .i64 0]) (by
    simp at g0 g1 g2
    simp [results, Tryd.results20, go_sem, g0, g1, g2]) ⟨by rw [HC.out]; rfl, setCell_below (setCell_below2 (setCell_below HB1.out (by omega) _) (by omega) _) (by omega) _⟩
end
end Go.Proofs.YtlcolpnniipgbaaDoor
