/- The walks of Stands and Sheep, where they refuse. -/
import Derived.Test.YtlcolpnniipgbaaDoorOpen7
namespace Go.Proofs.YtlcolpnniipgbaaDoor
open Go.RowKit Go.Hav
section
variable {people rate bill : Int} {ra ca da pa : Option Addr} {rl rc cl cc dl dc pl pc : Nat} {p : PayD}
set_option maxRecDepth 100000 in
set_option maxHeartbeats 1600000 in
theorem PStands_err (who run : Int) (w : World) (hP : PayIn w w.heap.size people ra rl ca cl rate bill da dl pa pl p) (h : payB p = false ∨ (whoB p who && runB p run) = false) :
    Calls Tryd.prog 14 #[payV people ra rl rc ca cl cc rate bill da dl dc pa pl pc, .int .i64 who, .int .i64 run] w fun e w' => e = .returned (.tuple #[.int .i64 0, .int .i64 (if payB p then 2 else 1)]) ∧ Below w.heap.size w w' := by
  have HH := Lib.hid h
  clear h
  have HP := Lib.hid hP
  have EG := Lib.hid (enters_of Tryd.func43 (by kernel_rfl) rfl)
  have hmf : ∀ (fn : Fn) (first cap : Array Value) (w : World), (Instr.makeFunc fn first cap).run Tryd.prog w = .ok (.func fn first cap) w := fun _ _ _ _ => rfl
  clear hP
  unfold payV
  go_enter_defers Tryd.func14, Tryd.ntmps14
  go_wp2_with fail
  obtain ⟨W, hW⟩ : ∃ W, W = ((((w.alloc (.cells (payCs people ra rl rc ca cl cc rate bill da dl dc pa pl pc) 27)).alloc (.cells #[.int .i64 who] 3)).alloc (.cells #[.int .i64 run] 3)).alloc (.cells #[.int .i64 0] 30)) := ⟨_, rfl⟩
  have b0 : Blk W (w.heap.size) 27 (payCs people ra rl rc ca cl cc rate bill da dl dc pa pl pc) := by rw [hW]; exact ((((Blk.new_ (by simp) _ _).alloc _).alloc _).alloc _)
  have b1 : Blk W (w.heap.size + 1) 3 #[.int .i64 who] := by rw [hW]; exact (((Blk.new_ (by simp) _ _).alloc _).alloc _)
  have b2 : Blk W (w.heap.size + 1 + 1) 3 #[.int .i64 run] := by rw [hW]; exact ((Blk.new_ (by simp) _ _).alloc _)
  have b3 : Blk W (w.heap.size + 1 + 1 + 1) 30 #[.int .i64 0] := by rw [hW]; exact Blk.new_ (by simp) _ _
  have HBW : Hid (Below w.heap.size w W) := by rw [hW]; exact (((((Below.refl w.heap.size w).alloc (by simp <;> omega) _).alloc (by simp <;> omega) _).alloc (by simp <;> omega) _).alloc (by simp <;> omega) _)
  have c00 : W.cell? ⟨w.heap.size, 0, none⟩ = some (.int .i64 people) := b0.cell 0
  have c01 : W.cell? ⟨w.heap.size, 1, none⟩ = some (.slice ra rl rc) := b0.cell 1
  have c02 : W.cell? ⟨w.heap.size, 2, none⟩ = some (.slice ca cl cc) := b0.cell 2
  have c03 : W.cell? ⟨w.heap.size, 3, none⟩ = some (.int .i64 rate) := b0.cell 3
  have c04 : W.cell? ⟨w.heap.size, 4, none⟩ = some (.int .i64 bill) := b0.cell 4
  have c05 : W.cell? ⟨w.heap.size, 5, none⟩ = some (.slice da dl dc) := b0.cell 5
  have c06 : W.cell? ⟨w.heap.size, 6, none⟩ = some (.slice pa pl pc) := b0.cell 6
  have c10 : W.cell? ⟨w.heap.size + 1, 0, none⟩ = some (.int .i64 who) := b1.cell 0
  have c20 : W.cell? ⟨w.heap.size + 1 + 1, 0, none⟩ = some (.int .i64 run) := b2.cell 0
  have c30 : W.cell? ⟨w.heap.size + 1 + 1 + 1, 0, none⟩ = some (.int .i64 0) := b3.cell 0
  have hs0 : w.heap.size < W.heap.size := b0.lt
  have hs1 : w.heap.size + 1 < W.heap.size := b1.lt
  have hs2 : w.heap.size + 1 + 1 < W.heap.size := b2.lt
  have hs3 : w.heap.size + 1 + 1 + 1 < W.heap.size := b3.lt
  have fz3 : W.frozen? ⟨w.heap.size + 1 + 1 + 1, 0, none⟩ = false := b3.frozen 0
  have HBE := Lib.hid b3
  have hW' := hW.symm
  try unfold payCs at hW'
  rw [hW']
  clear hW hW' b0 b1 b2 b3
  refine wp_region_havoc [(0,false), (1,false), (6,false), (7,false), (8,false), (2,true), (3,false), (4,false), (5,false), (9,false), (10,false), (11,false), (12,false), (13,false), (14,false)] [] (fun ch wp => ch = [refE (if payB p then 2 else 1)] ∧ Grow W wp) (by kernel_rfl) (by kernel_rfl) ?hQ ?_
  case hQ =>
    rintro ch a' w' hA ⟨rfl, hg⟩
    have HE' : Hid (Blk w' (w.heap.size + 1 + 1 + 1) 30 #[.int .i64 0]) := HBE.out.below hg hs3
    have g0 := (HE'.out.set_ 0 (.int .i64 (if payB p then 2 else 1))).cell 0
    have e6 := hA.slot 6 (by kernel_rfl)
    have e7 := hA.slot 7 (by kernel_rfl)
    exact api_panics (b := w.heap.size + 1 + 1 + 1) hA.1 (HE'.out.cell 0) (HE'.out.frozen 0) (v := .tuple #[.int .i64 0, .int .i64 (if payB p then 2 else 1)]) (by
      simp at e6 e7 g0
      simp [results, Tryd.results14, go_sem, e6, e7, g0]) ⟨rfl, setCell_below (HBW.out.trans (hg.mono (by omega))) (by omega) _⟩
  iterate 5 (apply hav_same (by simp only [List.getElem?_toArray, List.getElem?_cons_succ, List.getElem?_cons_zero]; rfl) (by kernel_rfl); (focus (intro wv hgv _; have hcv : ∀ b o, b < _ → wv.cell? ⟨b, o, none⟩ = _ := fun b o hb => Below.cell hgv (p := ⟨b, o, none⟩) hb; go_simp; try rfl; done)); simp only [Act.put, List.setIfInBounds_toArray, List.set_cons_succ, List.set_cons_zero])
  (apply hav_call_ghost (fun _ _ => False) (by simp only [List.getElem?_toArray, List.getElem?_cons_succ, List.getElem?_cons_zero]; rfl) (by kernel_rfl); (focus (intro wv; go_simp; try exact ⟨rfl, rfl⟩; done)); (focus (intro _ _ _ h _; exact h.elim)); (focus (intro wv hgv _; have hcv : ∀ b o, b < _ → wv.cell? ⟨b, o, none⟩ = _ := fun b o hb => Below.cell hgv (p := ⟨b, o, none⟩) hb; exact (open_panics (p := p) 43 #[.pointer (some ⟨w.heap.size + 1, 0, none⟩), .pointer (some ⟨w.heap.size + 1 + 1, 0, none⟩)] (whoB p who && runB p run) EG.out wv (by exact HP.out.grow (HBW.out.trans (hgv.mono (by omega)))) (fun hv => clos43 who run _ _ wv (by have := (payB_parts (HP.out) hv).1; omega) (by have := (payB_parts (HP.out) hv).1; omega) (by rw [hcv _ _ hs1]; exact c10) (by rw [hcv _ _ hs2]; exact c20) (by have := hgv.size; omega) (by have := hgv.size; omega)) HH.out).mono (fun e w' h => .inr ⟨_, h.1, rfl, Grow.trans hgv h.2⟩); done)); intro _; simp only [Act.put, List.setIfInBounds_toArray, List.set_cons_succ, List.set_cons_zero])
  iterate 9 (refine hav_det (V := undef) (by simp only [List.getElem?_toArray, List.getElem?_cons_succ, List.getElem?_cons_zero]; rfl) (fun _ _ hF => hF.2.elim) ?_; simp only [Act.put, List.setIfInBounds_toArray, List.set_cons_succ, List.set_cons_zero])
  exact hav_end (fun _ _ hF => hF.2.elim)
set_option maxRecDepth 100000 in
set_option maxHeartbeats 1600000 in
theorem PSheep_err (who run : Int) (w : World) (hP : PayIn w w.heap.size people ra rl ca cl rate bill da dl pa pl p) (h : payB p = false ∨ (whoB p who && runB p run) = false) :
    Calls Tryd.prog 16 #[payV people ra rl rc ca cl cc rate bill da dl dc pa pl pc, .int .i64 who, .int .i64 run] w fun e w' => e = .returned (.tuple #[spV ⟨0, 0⟩, .int .i64 (if payB p then 2 else 1)]) ∧ Below w.heap.size w w' := by
  have HH := Lib.hid h
  clear h
  have HP := Lib.hid hP
  have EG := Lib.hid (enters_of Tryd.func51 (by kernel_rfl) rfl)
  have hmf : ∀ (fn : Fn) (first cap : Array Value) (w : World), (Instr.makeFunc fn first cap).run Tryd.prog w = .ok (.func fn first cap) w := fun _ _ _ _ => rfl
  clear hP
  unfold payV
  go_enter_defers Tryd.func16, Tryd.ntmps16
  go_wp2_with fail
  obtain ⟨W, hW⟩ : ∃ W, W = (((((w.alloc (.cells (payCs people ra rl rc ca cl cc rate bill da dl dc pa pl pc) 27)).alloc (.cells #[.int .i64 who] 3)).alloc (.cells #[.int .i64 run] 3)).alloc (.cells #[.int .i64 0, .int .i64 0] 34)).alloc (.cells #[.int .i64 0] 30)) := ⟨_, rfl⟩
  have b0 : Blk W (w.heap.size) 27 (payCs people ra rl rc ca cl cc rate bill da dl dc pa pl pc) := by rw [hW]; exact (((((Blk.new_ (by simp) _ _).alloc _).alloc _).alloc _).alloc _)
  have b1 : Blk W (w.heap.size + 1) 3 #[.int .i64 who] := by rw [hW]; exact ((((Blk.new_ (by simp) _ _).alloc _).alloc _).alloc _)
  have b2 : Blk W (w.heap.size + 1 + 1) 3 #[.int .i64 run] := by rw [hW]; exact (((Blk.new_ (by simp) _ _).alloc _).alloc _)
  have b3 : Blk W (w.heap.size + 1 + 1 + 1) 34 #[.int .i64 0, .int .i64 0] := by rw [hW]; exact ((Blk.new_ (by simp) _ _).alloc _)
  have b4 : Blk W (w.heap.size + 1 + 1 + 1 + 1) 30 #[.int .i64 0] := by rw [hW]; exact Blk.new_ (by simp) _ _
  have HBW : Hid (Below w.heap.size w W) := by rw [hW]; exact ((((((Below.refl w.heap.size w).alloc (by simp <;> omega) _).alloc (by simp <;> omega) _).alloc (by simp <;> omega) _).alloc (by simp <;> omega) _).alloc (by simp <;> omega) _)
  have c00 : W.cell? ⟨w.heap.size, 0, none⟩ = some (.int .i64 people) := b0.cell 0
  have c01 : W.cell? ⟨w.heap.size, 1, none⟩ = some (.slice ra rl rc) := b0.cell 1
  have c02 : W.cell? ⟨w.heap.size, 2, none⟩ = some (.slice ca cl cc) := b0.cell 2
  have c03 : W.cell? ⟨w.heap.size, 3, none⟩ = some (.int .i64 rate) := b0.cell 3
  have c04 : W.cell? ⟨w.heap.size, 4, none⟩ = some (.int .i64 bill) := b0.cell 4
  have c05 : W.cell? ⟨w.heap.size, 5, none⟩ = some (.slice da dl dc) := b0.cell 5
  have c06 : W.cell? ⟨w.heap.size, 6, none⟩ = some (.slice pa pl pc) := b0.cell 6
  have c10 : W.cell? ⟨w.heap.size + 1, 0, none⟩ = some (.int .i64 who) := b1.cell 0
  have c20 : W.cell? ⟨w.heap.size + 1 + 1, 0, none⟩ = some (.int .i64 run) := b2.cell 0
  have c30 : W.cell? ⟨w.heap.size + 1 + 1 + 1, 0, none⟩ = some (.int .i64 0) := b3.cell 0
  have c31 : W.cell? ⟨w.heap.size + 1 + 1 + 1, 1, none⟩ = some (.int .i64 0) := b3.cell 1
  have c40 : W.cell? ⟨w.heap.size + 1 + 1 + 1 + 1, 0, none⟩ = some (.int .i64 0) := b4.cell 0
  have hs0 : w.heap.size < W.heap.size := b0.lt
  have hs1 : w.heap.size + 1 < W.heap.size := b1.lt
  have hs2 : w.heap.size + 1 + 1 < W.heap.size := b2.lt
  have hs3 : w.heap.size + 1 + 1 + 1 < W.heap.size := b3.lt
  have hs4 : w.heap.size + 1 + 1 + 1 + 1 < W.heap.size := b4.lt
  have fz4 : W.frozen? ⟨w.heap.size + 1 + 1 + 1 + 1, 0, none⟩ = false := b4.frozen 0
  have fz3 : W.frozen? ⟨w.heap.size + 1 + 1 + 1, 0, none⟩ = false := b3.frozen 0
  have fy3 : W.frozen? ⟨w.heap.size + 1 + 1 + 1, 1, none⟩ = false := b3.frozen 1
  have HBE := Lib.hid b4
  have HBS := Lib.hid b3
  have hW' := hW.symm
  try unfold payCs at hW'
  rw [hW']
  clear hW hW' b0 b1 b2 b3 b4
  refine wp_region_havoc [(0,false), (1,false), (4,false), (5,false), (6,false), (2,true), (3,false), (7,false), (8,false)] [9, 10] (fun ch wp => ch = [refE (if payB p then 2 else 1)] ∧ Grow W wp) (by kernel_rfl) (by kernel_rfl) ?hQ ?_
  case hQ =>
    rintro ch a' w' hA ⟨rfl, hg⟩
    have HE' : Hid (Blk w' (w.heap.size + 1 + 1 + 1 + 1) 30 #[.int .i64 0]) := HBE.out.below hg hs4
    have g0 := (HE'.out.set_ 0 (.int .i64 (if payB p then 2 else 1))).cell 0
    have e6 := hA.slot 6 (by kernel_rfl)
    have e7 := hA.slot 7 (by kernel_rfl)
    have HS' : Hid (Blk (w'.setCell ⟨w.heap.size + 1 + 1 + 1 + 1, 0, none⟩ (.int .i64 (if payB p then 2 else 1))) (w.heap.size + 1 + 1 + 1) 34 #[.int .i64 0, .int .i64 0]) := (HBS.out.below hg hs3).far (by show _ ≠ w.heap.size + 1 + 1 + 1 + 1; omega) _
    have g1 := HS'.out.cell 0
    have g2 := HS'.out.cell 1
    exact api_panics (b := w.heap.size + 1 + 1 + 1 + 1) hA.1 (HE'.out.cell 0) (HE'.out.frozen 0) (v := .tuple #[spV ⟨0, 0⟩, .int .i64 (if payB p then 2 else 1)]) (by
      simp at e6 e7 g0 g1 g2
      simp [results, Tryd.results16, go_sem, e6, e7, g0, g1, g2, spV]) ⟨rfl, setCell_below (HBW.out.trans (hg.mono (by omega))) (by omega) _⟩
  iterate 5 (apply hav_same (by simp only [List.getElem?_toArray, List.getElem?_cons_succ, List.getElem?_cons_zero]; rfl) (by kernel_rfl); (focus (intro wv hgv _; have hcv : ∀ b o, b < _ → wv.cell? ⟨b, o, none⟩ = _ := fun b o hb => Below.cell hgv (p := ⟨b, o, none⟩) hb; go_simp; try rfl; done)); simp only [Act.put, List.setIfInBounds_toArray, List.set_cons_succ, List.set_cons_zero])
  (apply hav_call_ghost (fun _ _ => False) (by simp only [List.getElem?_toArray, List.getElem?_cons_succ, List.getElem?_cons_zero]; rfl) (by kernel_rfl); (focus (intro wv; go_simp; try exact ⟨rfl, rfl⟩; done)); (focus (intro _ _ _ h _; exact h.elim)); (focus (intro wv hgv _; have hcv : ∀ b o, b < _ → wv.cell? ⟨b, o, none⟩ = _ := fun b o hb => Below.cell hgv (p := ⟨b, o, none⟩) hb; exact (open_panics (p := p) 51 #[.pointer (some ⟨w.heap.size + 1, 0, none⟩), .pointer (some ⟨w.heap.size + 1 + 1, 0, none⟩)] (whoB p who && runB p run) EG.out wv (by exact HP.out.grow (HBW.out.trans (hgv.mono (by omega)))) (fun hv => clos51 who run _ _ wv (by have := (payB_parts (HP.out) hv).1; omega) (by have := (payB_parts (HP.out) hv).1; omega) (by rw [hcv _ _ hs1]; exact c10) (by rw [hcv _ _ hs2]; exact c20) (by have := hgv.size; omega) (by have := hgv.size; omega)) HH.out).mono (fun e w' h => .inr ⟨_, h.1, rfl, Grow.trans hgv h.2⟩); done)); intro _; simp only [Act.put, List.setIfInBounds_toArray, List.set_cons_succ, List.set_cons_zero])
  iterate 3 (refine hav_det (V := undef) (by simp only [List.getElem?_toArray, List.getElem?_cons_succ, List.getElem?_cons_zero]; rfl) (fun _ _ hF => hF.2.elim) ?_; simp only [Act.put, List.setIfInBounds_toArray, List.set_cons_succ, List.set_cons_zero])
  exact hav_end (fun _ _ hF => hF.2.elim)
set_option maxRecDepth 100000 in
set_option maxHeartbeats 1600000 in
theorem PSheep_clash (who run : Int) (w : World) (hP : PayIn w w.heap.size people ra rl ca cl rate bill da dl pa pl p) (hv : payB p = true) (hval : (whoB p who && runB p run) = true) (ht : wrongI p ≠ 0) :
    Calls Tryd.prog 16 #[payV people ra rl rc ca cl cc rate bill da dl dc pa pl pc, .int .i64 who, .int .i64 run] w fun e w' => e = .returned (.tuple #[spV ⟨0, 0⟩, .int .i64 10]) ∧ Below w.heap.size w w' := by
  have HV := Lib.hid hv
  have HVAL := Lib.hid hval
  have HT := Lib.hid ht
  clear hv hval ht
  have HP := Lib.hid hP
  have EG := Lib.hid (enters_of Tryd.func51 (by kernel_rfl) rfl)
  have hmf : ∀ (fn : Fn) (first cap : Array Value) (w : World), (Instr.makeFunc fn first cap).run Tryd.prog w = .ok (.func fn first cap) w := fun _ _ _ _ => rfl
  clear hP
  unfold payV
  go_enter_defers Tryd.func16, Tryd.ntmps16
  go_wp2_with fail
  obtain ⟨W, hW⟩ : ∃ W, W = (((((w.alloc (.cells (payCs people ra rl rc ca cl cc rate bill da dl dc pa pl pc) 27)).alloc (.cells #[.int .i64 who] 3)).alloc (.cells #[.int .i64 run] 3)).alloc (.cells #[.int .i64 0, .int .i64 0] 34)).alloc (.cells #[.int .i64 0] 30)) := ⟨_, rfl⟩
  have b0 : Blk W (w.heap.size) 27 (payCs people ra rl rc ca cl cc rate bill da dl dc pa pl pc) := by rw [hW]; exact (((((Blk.new_ (by simp) _ _).alloc _).alloc _).alloc _).alloc _)
  have b1 : Blk W (w.heap.size + 1) 3 #[.int .i64 who] := by rw [hW]; exact ((((Blk.new_ (by simp) _ _).alloc _).alloc _).alloc _)
  have b2 : Blk W (w.heap.size + 1 + 1) 3 #[.int .i64 run] := by rw [hW]; exact (((Blk.new_ (by simp) _ _).alloc _).alloc _)
  have b3 : Blk W (w.heap.size + 1 + 1 + 1) 34 #[.int .i64 0, .int .i64 0] := by rw [hW]; exact ((Blk.new_ (by simp) _ _).alloc _)
  have b4 : Blk W (w.heap.size + 1 + 1 + 1 + 1) 30 #[.int .i64 0] := by rw [hW]; exact Blk.new_ (by simp) _ _
  have HBW : Hid (Below w.heap.size w W) := by rw [hW]; exact ((((((Below.refl w.heap.size w).alloc (by simp <;> omega) _).alloc (by simp <;> omega) _).alloc (by simp <;> omega) _).alloc (by simp <;> omega) _).alloc (by simp <;> omega) _)
  have c00 : W.cell? ⟨w.heap.size, 0, none⟩ = some (.int .i64 people) := b0.cell 0
  have c01 : W.cell? ⟨w.heap.size, 1, none⟩ = some (.slice ra rl rc) := b0.cell 1
  have c02 : W.cell? ⟨w.heap.size, 2, none⟩ = some (.slice ca cl cc) := b0.cell 2
  have c03 : W.cell? ⟨w.heap.size, 3, none⟩ = some (.int .i64 rate) := b0.cell 3
  have c04 : W.cell? ⟨w.heap.size, 4, none⟩ = some (.int .i64 bill) := b0.cell 4
  have c05 : W.cell? ⟨w.heap.size, 5, none⟩ = some (.slice da dl dc) := b0.cell 5
  have c06 : W.cell? ⟨w.heap.size, 6, none⟩ = some (.slice pa pl pc) := b0.cell 6
  have c10 : W.cell? ⟨w.heap.size + 1, 0, none⟩ = some (.int .i64 who) := b1.cell 0
  have c20 : W.cell? ⟨w.heap.size + 1 + 1, 0, none⟩ = some (.int .i64 run) := b2.cell 0
  have c30 : W.cell? ⟨w.heap.size + 1 + 1 + 1, 0, none⟩ = some (.int .i64 0) := b3.cell 0
  have c31 : W.cell? ⟨w.heap.size + 1 + 1 + 1, 1, none⟩ = some (.int .i64 0) := b3.cell 1
  have c40 : W.cell? ⟨w.heap.size + 1 + 1 + 1 + 1, 0, none⟩ = some (.int .i64 0) := b4.cell 0
  have hs0 : w.heap.size < W.heap.size := b0.lt
  have hs1 : w.heap.size + 1 < W.heap.size := b1.lt
  have hs2 : w.heap.size + 1 + 1 < W.heap.size := b2.lt
  have hs3 : w.heap.size + 1 + 1 + 1 < W.heap.size := b3.lt
  have hs4 : w.heap.size + 1 + 1 + 1 + 1 < W.heap.size := b4.lt
  have fz4 : W.frozen? ⟨w.heap.size + 1 + 1 + 1 + 1, 0, none⟩ = false := b4.frozen 0
  have fz3 : W.frozen? ⟨w.heap.size + 1 + 1 + 1, 0, none⟩ = false := b3.frozen 0
  have fy3 : W.frozen? ⟨w.heap.size + 1 + 1 + 1, 1, none⟩ = false := b3.frozen 1
  have HBE := Lib.hid b4
  have HBS := Lib.hid b3
  have hW' := hW.symm
  try unfold payCs at hW'
  rw [hW']
  clear hW hW' b0 b1 b2 b3 b4
  refine wp_region_havoc [(0,false), (1,false), (4,false), (5,false), (6,false), (2,true), (3,true), (7,false), (8,false)] [9, 10] (fun ch wp => ch = [refE 10] ∧ Grow W wp) (by kernel_rfl) (by kernel_rfl) ?hQ ?_
  case hQ =>
    rintro ch a' w' hA ⟨rfl, hg⟩
    have HE' : Hid (Blk w' (w.heap.size + 1 + 1 + 1 + 1) 30 #[.int .i64 0]) := HBE.out.below hg hs4
    have g0 := (HE'.out.set_ 0 (.int .i64 10)).cell 0
    have e6 := hA.slot 6 (by kernel_rfl)
    have e7 := hA.slot 7 (by kernel_rfl)
    have HS' : Hid (Blk (w'.setCell ⟨w.heap.size + 1 + 1 + 1 + 1, 0, none⟩ (.int .i64 10)) (w.heap.size + 1 + 1 + 1) 34 #[.int .i64 0, .int .i64 0]) := (HBS.out.below hg hs3).far (by show _ ≠ w.heap.size + 1 + 1 + 1 + 1; omega) _
    have g1 := HS'.out.cell 0
    have g2 := HS'.out.cell 1
    exact api_panics (b := w.heap.size + 1 + 1 + 1 + 1) hA.1 (HE'.out.cell 0) (HE'.out.frozen 0) (v := .tuple #[spV ⟨0, 0⟩, .int .i64 10]) (by
      simp at e6 e7 g0 g1 g2
      simp [results, Tryd.results16, go_sem, e6, e7, g0, g1, g2, spV]) ⟨rfl, setCell_below (HBW.out.trans (hg.mono (by omega))) (by omega) _⟩
  iterate 5 (apply hav_same (by simp only [List.getElem?_toArray, List.getElem?_cons_succ, List.getElem?_cons_zero]; rfl) (by kernel_rfl); (focus (intro wv hgv _; have hcv : ∀ b o, b < _ → wv.cell? ⟨b, o, none⟩ = _ := fun b o hb => Below.cell hgv (p := ⟨b, o, none⟩) hb; go_simp; try rfl; done)); simp only [Act.put, List.setIfInBounds_toArray, List.set_cons_succ, List.set_cons_zero])
  (apply hav_call_ghost (fun (v : Value) (wq : World) => ∃ d, v = .pointer (some ⟨d, 0, none⟩) ∧ DeskM wq (d + 2) d (d - 1) people ra rl rc ca cl cc rate bill da dl dc pa pl pc p) (by simp only [List.getElem?_toArray, List.getElem?_cons_succ, List.getElem?_cons_zero]; rfl) (by kernel_rfl); (focus (intro wv; go_simp; try exact ⟨rfl, rfl⟩; done)); (focus (rintro v w1 w2 ⟨d, rfl, h⟩ hg; exact ⟨d, rfl, h.grow hg⟩)); (focus (intro wv hgv _; have hcv : ∀ b o, b < _ → wv.cell? ⟨b, o, none⟩ = _ := fun b o hb => Below.cell hgv (p := ⟨b, o, none⟩) hb; exact (open_fine (p := p) 51 #[.pointer (some ⟨w.heap.size + 1, 0, none⟩), .pointer (some ⟨w.heap.size + 1 + 1, 0, none⟩)] EG.out wv (by exact HP.out.grow (HBW.out.trans (hgv.mono (by omega)))) HV.out (by rw [← HVAL.out]; exact (fun hv => clos51 who run _ _ wv (by have := (payB_parts (HP.out) hv).1; omega) (by have := (payB_parts (HP.out) hv).1; omega) (by rw [hcv _ _ hs1]; exact c10) (by rw [hcv _ _ hs2]; exact c20) (by have := hgv.size; omega) (by have := hgv.size; omega)) HV.out)).mono (fun e w' h => .inl ⟨_, h.1, h.2.2, _, rfl, h.2.1⟩); done)); intro v; simp only [Act.put, List.setIfInBounds_toArray, List.set_cons_succ, List.set_cons_zero])
  by_cases hd : ∃ d, v = .pointer (some ⟨d, 0, none⟩)
  · obtain ⟨d, rfl⟩ := hd
    (apply hav_call_ghost (fun _ _ => False) (by simp only [List.getElem?_toArray, List.getElem?_cons_succ, List.getElem?_cons_zero]; rfl) (by kernel_rfl); (focus (intro wv; go_simp; try exact ⟨rfl, rfl⟩; done)); (focus (intro _ _ _ h _; exact h.elim)); (focus (rintro wv hgv ⟨_, d', he, hD⟩; obtain rfl : d = d' := (by simpa using he); refine (told_any (p := p) HV.out _ hD).mono ?_; rintro e w' ⟨h1, h2⟩; rw [if_neg HT.out] at h1; exact .inr ⟨_, h1, rfl, Grow.trans hgv h2⟩)); intro _; simp only [Act.put, List.setIfInBounds_toArray, List.set_cons_succ, List.set_cons_zero])
    iterate 2 (refine hav_det (V := undef) (by simp only [List.getElem?_toArray, List.getElem?_cons_succ, List.getElem?_cons_zero]; rfl) (fun _ _ hF => hF.2.elim) ?_; simp only [Act.put, List.setIfInBounds_toArray, List.set_cons_succ, List.set_cons_zero])
    exact hav_end (fun _ _ hF => hF.2.elim)
  · (refine hav_ghost (fun _ _ => False) (by simp only [List.getElem?_toArray, List.getElem?_cons_succ, List.getElem?_cons_zero]; rfl) (fun _ _ _ h _ => h) (fun _ _ hF => (hd (hF.2.imp fun _ h => h.1)).elim) ?_; intro _; simp only [Act.put, List.setIfInBounds_toArray, List.set_cons_succ, List.set_cons_zero])
    iterate 2 (refine hav_det (V := undef) (by simp only [List.getElem?_toArray, List.getElem?_cons_succ, List.getElem?_cons_zero]; rfl) (fun _ _ hF => hF.2.elim) ?_; simp only [Act.put, List.setIfInBounds_toArray, List.set_cons_succ, List.set_cons_zero])
    exact hav_end (fun _ _ hF => hF.2.elim)
end
end Go.Proofs.YtlcolpnniipgbaaDoor
