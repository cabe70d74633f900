/- The walks of Mess and Wrong. -/
import Derived.Test.YtlcolpnniipgbaaDoorApi3
import Derived.Test.YtlcolpnniipgbaaDoorDShares
namespace Go.Proofs.YtlcolpnniipgbaaDoor
open Go.RowKit Go.Hav
section
variable {people rate bill : Int} {ra ca da pa : Option Addr} {rl rc cl cc dl dc pl pc : Nat} {p : PayD}
set_option maxRecDepth 100000 in
set_option maxHeartbeats 1600000 in
theorem PMess_err (who : Int) (w : World) (hP : PayIn w w.heap.size people ra rl ca cl rate bill da dl pa pl p) (h : payB p = false ∨ whoB p who = false) :
    Calls Tryd.prog 22 #[payV people ra rl rc ca cl cc rate bill da dl dc pa pl pc, .int .i64 who] w fun e w' => e = .returned (.tuple #[.int .i64 0, .int .i64 (if payB p then 2 else 1)]) ∧ Below w.heap.size w w' := by
  have HH := Lib.hid h
  clear h
  have HP := Lib.hid hP
  have EG := Lib.hid (enters_of Tryd.func61 (by kernel_rfl) rfl)
  have hmf : ∀ (fn : Fn) (first cap : Array Value) (w : World), (Instr.makeFunc fn first cap).run Tryd.prog w = .ok (.func fn first cap) w := fun _ _ _ _ => rfl
  clear hP
  unfold payV
  go_enter_defers Tryd.func22, Tryd.ntmps22
  go_wp2_with fail
  obtain ⟨W, hW⟩ : ∃ W, W = (((w.alloc (.cells (payCs people ra rl rc ca cl cc rate bill da dl dc pa pl pc) 27)).alloc (.cells #[.int .i64 who] 3)).alloc (.cells #[.int .i64 0] 30)) := ⟨_, rfl⟩
  have b0 : Blk W (w.heap.size) 27 (payCs people ra rl rc ca cl cc rate bill da dl dc pa pl pc) := by rw [hW]; exact (((Blk.new_ (by simp) _ _).alloc _).alloc _)
  have b1 : Blk W (w.heap.size + 1) 3 #[.int .i64 who] := by rw [hW]; exact ((Blk.new_ (by simp) _ _).alloc _)
  have b2 : Blk W (w.heap.size + 1 + 1) 30 #[.int .i64 0] := by rw [hW]; exact Blk.new_ (by simp) _ _
  have HBW : Hid (Below w.heap.size w W) := by rw [hW]; exact ((((Below.refl w.heap.size w).alloc (by simp <;> omega) _).alloc (by simp <;> omega) _).alloc (by simp <;> omega) _)
  have c00 : W.cell? ⟨w.heap.size, 0, none⟩ = some (.int .i64 people) := b0.cell 0
  have c01 : W.cell? ⟨w.heap.size, 1, none⟩ = some (.slice ra rl rc) := b0.cell 1
  have c02 : W.cell? ⟨w.heap.size, 2, none⟩ = some (.slice ca cl cc) := b0.cell 2
  have c03 : W.cell? ⟨w.heap.size, 3, none⟩ = some (.int .i64 rate) := b0.cell 3
  have c04 : W.cell? ⟨w.heap.size, 4, none⟩ = some (.int .i64 bill) := b0.cell 4
  have c05 : W.cell? ⟨w.heap.size, 5, none⟩ = some (.slice da dl dc) := b0.cell 5
  have c06 : W.cell? ⟨w.heap.size, 6, none⟩ = some (.slice pa pl pc) := b0.cell 6
  have c10 : W.cell? ⟨w.heap.size + 1, 0, none⟩ = some (.int .i64 who) := b1.cell 0
  have c20 : W.cell? ⟨w.heap.size + 1 + 1, 0, none⟩ = some (.int .i64 0) := b2.cell 0
  have hs0 : w.heap.size < W.heap.size := b0.lt
  have hs1 : w.heap.size + 1 < W.heap.size := b1.lt
  have hs2 : w.heap.size + 1 + 1 < W.heap.size := b2.lt
  have fz2 : W.frozen? ⟨w.heap.size + 1 + 1, 0, none⟩ = false := b2.frozen 0
  have HBE := Lib.hid b2
  have hW' := hW.symm
  try unfold payCs at hW'
  rw [hW']
  clear hW hW' b0 b1 b2
  refine wp_region_havoc [(0,false), (1,false), (4,false), (2,true), (3,false), (5,false), (6,false)] [7, 8] (fun ch wp => ch = [refE (if payB p then 2 else 1)] ∧ Grow W wp) (by kernel_rfl) (by kernel_rfl) ?hQ ?_
  case hQ =>
    rintro ch a' w' hA ⟨rfl, hg⟩
    have HE' : Hid (Blk w' (w.heap.size + 1 + 1) 30 #[.int .i64 0]) := HBE.out.below hg hs2
    have g0 := (HE'.out.set_ 0 (.int .i64 (if payB p then 2 else 1))).cell 0
    have e4 := hA.slot 4 (by kernel_rfl)
    have e5 := hA.slot 5 (by kernel_rfl)
    exact api_panics (b := w.heap.size + 1 + 1) hA.1 (HE'.out.cell 0) (HE'.out.frozen 0) (v := .tuple #[.int .i64 0, .int .i64 (if payB p then 2 else 1)]) (by
      simp at e4 e5 g0
      simp [results, Tryd.results22, go_sem, e4, e5, g0]) ⟨rfl, setCell_below (HBW.out.trans (hg.mono (by omega))) (by omega) _⟩
  iterate 3 (apply hav_same (by simp only [List.getElem?_toArray, List.getElem?_cons_succ, List.getElem?_cons_zero]; rfl) (by kernel_rfl); (focus (intro wv hgv _; have hcv : ∀ b o, b < _ → wv.cell? ⟨b, o, none⟩ = _ := fun b o hb => Below.cell hgv (p := ⟨b, o, none⟩) hb; go_simp; try rfl; done)); simp only [Act.put, List.setIfInBounds_toArray, List.set_cons_succ, List.set_cons_zero])
  (apply hav_call_ghost (fun _ _ => False) (by simp only [List.getElem?_toArray, List.getElem?_cons_succ, List.getElem?_cons_zero]; rfl) (by kernel_rfl); (focus (intro wv; go_simp; try exact ⟨rfl, rfl⟩; done)); (focus (intro _ _ _ h _; exact h.elim)); (focus (intro wv hgv _; have hcv : ∀ b o, b < _ → wv.cell? ⟨b, o, none⟩ = _ := fun b o hb => Below.cell hgv (p := ⟨b, o, none⟩) hb; exact (open_panics (p := p) 61 #[.pointer (some ⟨w.heap.size + 1, 0, none⟩)] (whoB p who) EG.out wv (by exact HP.out.grow (HBW.out.trans (hgv.mono (by omega)))) (fun hv => clos61 who _ wv (by have := (payB_parts (HP.out) hv).1; omega) (by have := (payB_parts (HP.out) hv).1; omega) (by rw [hcv _ _ hs1]; exact c10) (by have := hgv.size; omega)) HH.out).mono (fun e w' h => .inr ⟨_, h.1, rfl, Grow.trans hgv h.2⟩); done)); intro _; simp only [Act.put, List.setIfInBounds_toArray, List.set_cons_succ, List.set_cons_zero])
  iterate 3 (refine hav_det (V := undef) (by simp only [List.getElem?_toArray, List.getElem?_cons_succ, List.getElem?_cons_zero]; rfl) (fun _ _ hF => hF.2.elim) ?_; simp only [Act.put, List.setIfInBounds_toArray, List.set_cons_succ, List.set_cons_zero])
  exact hav_end (fun _ _ hF => hF.2.elim)
set_option maxRecDepth 100000 in
set_option maxHeartbeats 6400000 in
theorem PMess_ok (who : Int) (w : World) (hP : PayIn w w.heap.size people ra rl ca cl rate bill da dl pa pl p) (hv : payB p = true) (hval : whoB p who = true) :
    Calls Tryd.prog 22 #[payV people ra rl rc ca cl cc rate bill da dl dc pa pl pc, .int .i64 who] w fun e w' => e = .returned (.tuple #[.int .i64 (((sharesR p)[who.toNat]?).getD 0), .int .i64 0]) ∧ Below w.heap.size w w' := by
  have HV := Lib.hid hv
  have HVAL := Lib.hid hval
  have HR1 := Lib.hid (payB_people hv)
  have HPE := Lib.hid hP.epeople
  have HRL := Lib.hid hP.erl
  have HWHO : Hid (0 ≤ who ∧ who ≤ 1000 ∧ who < people) := by have h1 := HR1.out; have h2 := HPE.out; have h3 : whoB p who = true := (by first | exact hval | exact (Bool.and_eq_true_iff.1 hval).1); have h4 := inB_iff.1 h3; show _ ∧ _ ∧ _; omega
  have HDL := Lib.hid hP.edl
  have HPE2 : Hid ((dl : Int) = people) := by have := payB_rate hv; have := hP.edl; have := hP.epeople; show _ = _; omega
  clear hv hval
  have HP := Lib.hid hP
  have EG := Lib.hid (enters_of Tryd.func61 (by kernel_rfl) rfl)
  have hmf : ∀ (fn : Fn) (first cap : Array Value) (w : World), (Instr.makeFunc fn first cap).run Tryd.prog w = .ok (.func fn first cap) w := fun _ _ _ _ => rfl
  clear hP
  unfold payV
  go_enter_defers Tryd.func22, Tryd.ntmps22
  go_wp2_with fail
  obtain ⟨W, hW⟩ : ∃ W, W = (((w.alloc (.cells (payCs people ra rl rc ca cl cc rate bill da dl dc pa pl pc) 27)).alloc (.cells #[.int .i64 who] 3)).alloc (.cells #[.int .i64 0] 30)) := ⟨_, rfl⟩
  have b0 : Blk W (w.heap.size) 27 (payCs people ra rl rc ca cl cc rate bill da dl dc pa pl pc) := by rw [hW]; exact (((Blk.new_ (by simp) _ _).alloc _).alloc _)
  have b1 : Blk W (w.heap.size + 1) 3 #[.int .i64 who] := by rw [hW]; exact ((Blk.new_ (by simp) _ _).alloc _)
  have b2 : Blk W (w.heap.size + 1 + 1) 30 #[.int .i64 0] := by rw [hW]; exact Blk.new_ (by simp) _ _
  have HBW : Hid (Below w.heap.size w W) := by rw [hW]; exact ((((Below.refl w.heap.size w).alloc (by simp <;> omega) _).alloc (by simp <;> omega) _).alloc (by simp <;> omega) _)
  have c00 : W.cell? ⟨w.heap.size, 0, none⟩ = some (.int .i64 people) := b0.cell 0
  have c01 : W.cell? ⟨w.heap.size, 1, none⟩ = some (.slice ra rl rc) := b0.cell 1
  have c02 : W.cell? ⟨w.heap.size, 2, none⟩ = some (.slice ca cl cc) := b0.cell 2
  have c03 : W.cell? ⟨w.heap.size, 3, none⟩ = some (.int .i64 rate) := b0.cell 3
  have c04 : W.cell? ⟨w.heap.size, 4, none⟩ = some (.int .i64 bill) := b0.cell 4
  have c05 : W.cell? ⟨w.heap.size, 5, none⟩ = some (.slice da dl dc) := b0.cell 5
  have c06 : W.cell? ⟨w.heap.size, 6, none⟩ = some (.slice pa pl pc) := b0.cell 6
  have c10 : W.cell? ⟨w.heap.size + 1, 0, none⟩ = some (.int .i64 who) := b1.cell 0
  have c20 : W.cell? ⟨w.heap.size + 1 + 1, 0, none⟩ = some (.int .i64 0) := b2.cell 0
  have hs0 : w.heap.size < W.heap.size := b0.lt
  have hs1 : w.heap.size + 1 < W.heap.size := b1.lt
  have hs2 : w.heap.size + 1 + 1 < W.heap.size := b2.lt
  have fz2 : W.frozen? ⟨w.heap.size + 1 + 1, 0, none⟩ = false := b2.frozen 0
  have HBE := Lib.hid b2
  have hW' := hW.symm
  try unfold payCs at hW'
  rw [hW']
  clear hW hW' b0 b1 b2
  obtain ⟨who, rfl⟩ : ∃ k : Nat, who = k := ⟨who.toNat, by have := HWHO.out; omega⟩
  have hwl : who < dl := by have := HWHO.out; have := HPE2.out; omega
  have hwl2 : (who : Int) < (dl : Int) := by omega
  obtain ⟨x, HX⟩ : ∃ x, Hid (((sharesR p)[who]?).getD 0 = x) := ⟨_, rfl⟩
  refine wp_region_havoc [(0,false), (1,false), (4,false), (2,true), (3,true), (5,false), (6,false)] [7, 8] (fun _ _ => False) (by kernel_rfl) (by kernel_rfl) (fun _ _ _ _ h => h.elim) ?_
  iterate 3 (apply hav_same (by simp only [List.getElem?_toArray, List.getElem?_cons_succ, List.getElem?_cons_zero]; rfl) (by kernel_rfl); (focus (intro wv hgv _; have hcv : ∀ b o, b < _ → wv.cell? ⟨b, o, none⟩ = _ := fun b o hb => Below.cell hgv (p := ⟨b, o, none⟩) hb; go_simp; try rfl; done)); simp only [Act.put, List.setIfInBounds_toArray, List.set_cons_succ, List.set_cons_zero])
  (apply hav_call_ghost (fun (v : Value) (wq : World) => ∃ d, v = .pointer (some ⟨d, 0, none⟩) ∧ DeskM wq (d + 2) d (d - 1) people ra rl rc ca cl cc rate bill da dl dc pa pl pc p) (by simp only [List.getElem?_toArray, List.getElem?_cons_succ, List.getElem?_cons_zero]; rfl) (by kernel_rfl); (focus (intro wv; go_simp; try exact ⟨rfl, rfl⟩; done)); (focus (rintro v w1 w2 ⟨d, rfl, h⟩ hg; exact ⟨d, rfl, h.grow hg⟩)); (focus (intro wv hgv _; have hcv : ∀ b o, b < _ → wv.cell? ⟨b, o, none⟩ = _ := fun b o hb => Below.cell hgv (p := ⟨b, o, none⟩) hb; exact (open_fine (p := p) 61 #[.pointer (some ⟨w.heap.size + 1, 0, none⟩)] EG.out wv (by exact HP.out.grow (HBW.out.trans (hgv.mono (by omega)))) HV.out (by rw [← HVAL.out]; exact (fun hv => clos61 who _ wv (by have := (payB_parts (HP.out) hv).1; omega) (by have := (payB_parts (HP.out) hv).1; omega) (by rw [hcv _ _ hs1]; exact c10) (by have := hgv.size; omega)) HV.out)).mono (fun e w' h => .inl ⟨_, h.1, h.2.2, _, rfl, h.2.1⟩); done)); intro v; simp only [Act.put, List.setIfInBounds_toArray, List.set_cons_succ, List.set_cons_zero])
  by_cases hd : ∃ d, v = .pointer (some ⟨d, 0, none⟩)
  case neg =>
    (refine hav_ghost (fun _ _ => False) (by simp only [List.getElem?_toArray, List.getElem?_cons_succ, List.getElem?_cons_zero]; rfl) (fun _ _ _ h _ => h) (fun _ _ hF => (hd (hF.2.imp fun _ h => h.1)).elim) ?_; intro _; simp only [Act.put, List.setIfInBounds_toArray, List.set_cons_succ, List.set_cons_zero])
    iterate 2 (refine hav_det (V := undef) (by simp only [List.getElem?_toArray, List.getElem?_cons_succ, List.getElem?_cons_zero]; rfl) (fun _ _ hF => hF.2.elim) ?_; simp only [Act.put, List.setIfInBounds_toArray, List.set_cons_succ, List.set_cons_zero])
    exact hav_end (fun _ _ hF => hF.2.elim)
  obtain ⟨d, rfl⟩ := hd
  (apply hav_call_ghost (fun v wq => ∃ g, v = .slice (some ⟨g, 0, none⟩) dl dl ∧ Blk wq g 3 (intsA (sharesR p)) ∧ (sharesR p).length = dl) (by simp only [List.getElem?_toArray, List.getElem?_cons_succ, List.getElem?_cons_zero]; rfl) (by kernel_rfl); (focus (intro wv; go_simp; try exact ⟨rfl, rfl⟩; done)); (focus (rintro v w1 w2 ⟨g, rfl, h, hl⟩ hg; exact ⟨g, rfl, h.below hg h.lt, hl⟩)); (focus (intro wv hgv hF; obtain ⟨d', he, hD⟩ := hF.2; obtain rfl : d = d' := (by simpa using he); refine (dshares_any (p := p) HV.out _ hD.desk).mono ?_; rintro e w' ⟨⟨g, h1, _, h2, h3, _⟩, h4⟩; exact .inl ⟨_, h1, h4, g, rfl, h2, h3⟩)); intro v; simp only [Act.put, List.setIfInBounds_toArray, List.set_cons_succ, List.set_cons_zero])
  by_cases hg : ∃ g, v = .slice (some ⟨g, 0, none⟩) dl dl
  case neg =>
    iterate 2 (refine hav_det (V := undef) (by simp only [List.getElem?_toArray, List.getElem?_cons_succ, List.getElem?_cons_zero]; rfl) (fun _ _ hF => (hg (hF.2.imp fun _ h => h.1)).elim) ?_; simp only [Act.put, List.setIfInBounds_toArray, List.set_cons_succ, List.set_cons_zero])
    exact hav_end (fun _ _ hF => (hg (hF.2.imp fun _ h => h.1)).elim)
  obtain ⟨g, rfl⟩ := hg
  (apply hav_same (by simp only [List.getElem?_toArray, List.getElem?_cons_succ, List.getElem?_cons_zero]; rfl) (by kernel_rfl); (focus (intro wv hgv _; have hcv : ∀ b o, b < _ → wv.cell? ⟨b, o, none⟩ = _ := fun b o hb => Below.cell hgv (p := ⟨b, o, none⟩) hb; go_simp; try rfl; done)); simp only [Act.put, List.setIfInBounds_toArray, List.set_cons_succ, List.set_cons_zero])
  (apply hav_same (by simp only [List.getElem?_toArray, List.getElem?_cons_succ, List.getElem?_cons_zero]; rfl) (by kernel_rfl); (focus (intro wv hgv hF; have hcv : ∀ b o, b < _ → wv.cell? ⟨b, o, none⟩ = _ := fun b o hb => Below.cell hgv (p := ⟨b, o, none⟩) hb; obtain ⟨g', he, hB, hL⟩ := hF.2; obtain rfl : g = g' := (by simpa using he); have q7 : wv.cell? ⟨g, who, none⟩ = some (.int .i64 x) := (by rw [hB.cell, intsA_get, List.getElem?_eq_getElem (by rw [hL]; exact hwl), ← HX.out, List.getElem?_eq_getElem (by rw [hL]; exact hwl)]; rfl); go_simp; try rfl; done)); simp only [Act.put, List.setIfInBounds_toArray, List.set_cons_succ, List.set_cons_zero])
  refine hav_end (fun w1 hgw1 _ => ?_); simp only [List.filterMap]; have hcw1 : ∀ b o, b < _ → w1.cell? ⟨b, o, none⟩ = _ := fun b o hb => Below.cell hgw1 (p := ⟨b, o, none⟩) hb; have hfw1 : ∀ b o, b < _ → w1.frozen? ⟨b, o, none⟩ = _ := fun b o hb => Below.frozen hgw1 (p := ⟨b, o, none⟩) hb; have hzw1 := Below.size hgw1; (try simp at hzw1)
  have HE1 : Hid (Blk w1 (w.heap.size + 1 + 1) 30 #[.int .i64 0]) := HBE.out.below hgw1 hs2
  have q0 : w1.cell? ⟨w.heap.size + 1 + 1, 0, none⟩ = some (.int .i64 0) := HE1.out.cell 0
  have q1 : w1.frozen? ⟨w.heap.size + 1 + 1, 0, none⟩ = false := HE1.out.frozen 0
  have HB1 : Hid (Below w.heap.size w w1) := HBW.out.trans (hgw1.mono (by omega))
  clear hgw1 hcw1 hfw1
  go_wp2
  have g0 := (HE1.out.set_ 0 (.int .i64 0)).cell 0
  exact api_returns (b := w.heap.size + 1 + 1) rfl (v := .tuple #[.int .i64 x, .int .i64 0]) (by
    simp at g0
    simp [results, Tryd.results22, go_sem, g0]) ⟨by rw [Int.toNat_natCast, HX.out], setCell_below HB1.out (by omega) _⟩
set_option maxRecDepth 100000 in
set_option maxHeartbeats 1600000 in
theorem PWrong_err (w : World) (hP : PayIn w w.heap.size people ra rl ca cl rate bill da dl pa pl p) (hv : payB p = false) :
    Calls Tryd.prog 28 #[payV people ra rl rc ca cl cc rate bill da dl dc pa pl pc] w fun e w' => e = .returned (.tuple #[.int .i64 0, .int .i64 1]) ∧ Below w.heap.size w w' := by
  have HV := Lib.hid hv
  clear hv
  have HP := Lib.hid hP
  have EG := Lib.hid (enters_of Tryd.func66 (by kernel_rfl) rfl)
  have hmf : ∀ (fn : Fn) (first cap : Array Value) (w : World), (Instr.makeFunc fn first cap).run Tryd.prog w = .ok (.func fn first cap) w := fun _ _ _ _ => rfl
  clear hP
  unfold payV
  go_enter_defers Tryd.func28, Tryd.ntmps28
  go_wp2_with fail
  obtain ⟨W, hW⟩ : ∃ W, W = ((w.alloc (.cells (payCs people ra rl rc ca cl cc rate bill da dl dc pa pl pc) 27)).alloc (.cells #[.int .i64 0] 30)) := ⟨_, rfl⟩
  have b0 : Blk W (w.heap.size) 27 (payCs people ra rl rc ca cl cc rate bill da dl dc pa pl pc) := by rw [hW]; exact ((Blk.new_ (by simp) _ _).alloc _)
  have b1 : Blk W (w.heap.size + 1) 30 #[.int .i64 0] := by rw [hW]; exact Blk.new_ (by simp) _ _
  have HBW : Hid (Below w.heap.size w W) := by rw [hW]; exact (((Below.refl w.heap.size w).alloc (by simp <;> omega) _).alloc (by simp <;> omega) _)
  have c00 : W.cell? ⟨w.heap.size, 0, none⟩ = some (.int .i64 people) := b0.cell 0
  have c01 : W.cell? ⟨w.heap.size, 1, none⟩ = some (.slice ra rl rc) := b0.cell 1
  have c02 : W.cell? ⟨w.heap.size, 2, none⟩ = some (.slice ca cl cc) := b0.cell 2
  have c03 : W.cell? ⟨w.heap.size, 3, none⟩ = some (.int .i64 rate) := b0.cell 3
  have c04 : W.cell? ⟨w.heap.size, 4, none⟩ = some (.int .i64 bill) := b0.cell 4
  have c05 : W.cell? ⟨w.heap.size, 5, none⟩ = some (.slice da dl dc) := b0.cell 5
  have c06 : W.cell? ⟨w.heap.size, 6, none⟩ = some (.slice pa pl pc) := b0.cell 6
  have c10 : W.cell? ⟨w.heap.size + 1, 0, none⟩ = some (.int .i64 0) := b1.cell 0
  have hs0 : w.heap.size < W.heap.size := b0.lt
  have hs1 : w.heap.size + 1 < W.heap.size := b1.lt
  have fz1 : W.frozen? ⟨w.heap.size + 1, 0, none⟩ = false := b1.frozen 0
  have HBE := Lib.hid b1
  have hW' := hW.symm
  try unfold payCs at hW'
  rw [hW']
  clear hW hW' b0 b1
  have HE1 := HBE
  refine (open_bad (p := p) _ _ (by exact HP.out.grow HBW.out) HV.out).mono ?_
  rintro e w1 ⟨rfl, hb1⟩
  have HE2 : Hid (Blk w1 (w.heap.size + 1) 30 #[.int .i64 0]) := HBE.out.below hb1 hs1
  have HB1 : Hid (Below w.heap.size w w1) := HBW.out.trans (hb1.mono (by omega))
  clear hb1
  go_wp2
  have g0 := (HE2.out.set_ 0 (.int .i64 1)).cell 0
  exact api_panics (b := w.heap.size + 1) rfl (HE2.out.cell 0) (HE2.out.frozen 0) (v := .tuple #[.int .i64 0, .int .i64 1]) (by
    simp at g0
    simp [results, Tryd.results28, go_sem, g0]) ⟨rfl, setCell_below HB1.out (by omega) _⟩
set_option maxRecDepth 100000 in
set_option maxHeartbeats 1600000 in
theorem PWrong_none (w : World) (hP : PayIn w w.heap.size people ra rl ca cl rate bill da dl pa pl p) (hv : payB p = true) (hz : wrongI p = 0) :
    Calls Tryd.prog 28 #[payV people ra rl rc ca cl cc rate bill da dl dc pa pl pc] w fun e w' => e = .returned (.tuple #[.int .i64 0, .int .i64 4]) ∧ Below w.heap.size w w' := by
  have HV := Lib.hid hv
  have HZ := Lib.hid hz
  have hzb : (wrongI p != 0) = false := by simp [hz]
  clear hz
  clear hv
  have HP := Lib.hid hP
  have EG := Lib.hid (enters_of Tryd.func66 (by kernel_rfl) rfl)
  have hmf : ∀ (fn : Fn) (first cap : Array Value) (w : World), (Instr.makeFunc fn first cap).run Tryd.prog w = .ok (.func fn first cap) w := fun _ _ _ _ => rfl
  clear hP
  unfold payV
  go_enter_defers Tryd.func28, Tryd.ntmps28
  go_wp2_with fail
  obtain ⟨W, hW⟩ : ∃ W, W = ((w.alloc (.cells (payCs people ra rl rc ca cl cc rate bill da dl dc pa pl pc) 27)).alloc (.cells #[.int .i64 0] 30)) := ⟨_, rfl⟩
  have b0 : Blk W (w.heap.size) 27 (payCs people ra rl rc ca cl cc rate bill da dl dc pa pl pc) := by rw [hW]; exact ((Blk.new_ (by simp) _ _).alloc _)
  have b1 : Blk W (w.heap.size + 1) 30 #[.int .i64 0] := by rw [hW]; exact Blk.new_ (by simp) _ _
  have HBW : Hid (Below w.heap.size w W) := by rw [hW]; exact (((Below.refl w.heap.size w).alloc (by simp <;> omega) _).alloc (by simp <;> omega) _)
  have c00 : W.cell? ⟨w.heap.size, 0, none⟩ = some (.int .i64 people) := b0.cell 0
  have c01 : W.cell? ⟨w.heap.size, 1, none⟩ = some (.slice ra rl rc) := b0.cell 1
  have c02 : W.cell? ⟨w.heap.size, 2, none⟩ = some (.slice ca cl cc) := b0.cell 2
  have c03 : W.cell? ⟨w.heap.size, 3, none⟩ = some (.int .i64 rate) := b0.cell 3
  have c04 : W.cell? ⟨w.heap.size, 4, none⟩ = some (.int .i64 bill) := b0.cell 4
  have c05 : W.cell? ⟨w.heap.size, 5, none⟩ = some (.slice da dl dc) := b0.cell 5
  have c06 : W.cell? ⟨w.heap.size, 6, none⟩ = some (.slice pa pl pc) := b0.cell 6
  have c10 : W.cell? ⟨w.heap.size + 1, 0, none⟩ = some (.int .i64 0) := b1.cell 0
  have hs0 : w.heap.size < W.heap.size := b0.lt
  have hs1 : w.heap.size + 1 < W.heap.size := b1.lt
  have fz1 : W.frozen? ⟨w.heap.size + 1, 0, none⟩ = false := b1.frozen 0
  have HBE := Lib.hid b1
  have hW' := hW.symm
  try unfold payCs at hW'
  rw [hW']
  clear hW hW' b0 b1
  have HE1 := HBE
  refine (open_fine (p := p) 66 #[] EG.out _ (by exact HP.out.grow HBW.out) HV.out (clos66 _)).mono ?_
  rintro e w1 ⟨rfl, hD, hb1⟩
  have HD := Lib.hid hD
  have HE2 : Hid (Blk w1 (w.heap.size + 1) 30 #[.int .i64 0]) := HBE.out.below hb1 hs1
  have HB1 : Hid (Below w.heap.size w w1) := HBW.out.trans (hb1.mono (by omega))
  clear hb1 hD
  go_wp2_with fail
  refine (dwrong_any (p := p) HV.out _ (by exact HD.out)).mono ?_
  rintro e w2 ⟨rfl, hb2⟩
  have HE3 : Hid (Blk w2 (w.heap.size + 1) 30 #[.int .i64 0]) := HE2.out.below hb2 HE2.out.lt
  have HB2 : Hid (Below w.heap.size w w2) := HB1.out.trans (hb2.mono (by have := HB1.out.size; omega))
  have q0 : w2.cell? ⟨w.heap.size + 1, 0, none⟩ = some (.int .i64 0) := HE3.out.cell 0
  have q1 : w2.frozen? ⟨w.heap.size + 1, 0, none⟩ = false := HE3.out.frozen 0
  clear hb2
  go_wp2_with fail
  refine (ask_any false 4 _).mono ?_
  rintro e w' ⟨h1, rfl⟩
  obtain rfl : e = .panicked [refE 4] := h1
  go_wp2
  have g0 := (HE3.out.set_ 0 (.int .i64 4)).cell 0
  exact api_panics (b := w.heap.size + 1) rfl (HE3.out.cell 0) (HE3.out.frozen 0) (v := .tuple #[.int .i64 0, .int .i64 4]) (by
    simp at g0
    simp [results, Tryd.results28, go_sem, g0]) ⟨rfl, setCell_below HB2.out (by omega) _⟩
set_option maxRecDepth 100000 in
set_option maxHeartbeats 1600000 in
theorem PWrong_ok (w : World) (hP : PayIn w w.heap.size people ra rl ca cl rate bill da dl pa pl p) (hv : payB p = true) (hz : wrongI p ≠ 0) :
    Calls Tryd.prog 28 #[payV people ra rl rc ca cl cc rate bill da dl dc pa pl pc] w fun e w' => e = .returned (.tuple #[.int .i64 (wrongI p), .int .i64 0]) ∧ Below w.heap.size w w' := by
  have HV := Lib.hid hv
  have HZ := Lib.hid hz
  have hzb : (wrongI p != 0) = true := by simp [hz]
  clear hz
  clear hv
  have HP := Lib.hid hP
  have EG := Lib.hid (enters_of Tryd.func66 (by kernel_rfl) rfl)
  have hmf : ∀ (fn : Fn) (first cap : Array Value) (w : World), (Instr.makeFunc fn first cap).run Tryd.prog w = .ok (.func fn first cap) w := fun _ _ _ _ => rfl
  clear hP
  unfold payV
  go_enter_defers Tryd.func28, Tryd.ntmps28
  go_wp2_with fail
  obtain ⟨W, hW⟩ : ∃ W, W = ((w.alloc (.cells (payCs people ra rl rc ca cl cc rate bill da dl dc pa pl pc) 27)).alloc (.cells #[.int .i64 0] 30)) := ⟨_, rfl⟩
  have b0 : Blk W (w.heap.size) 27 (payCs people ra rl rc ca cl cc rate bill da dl dc pa pl pc) := by rw [hW]; exact ((Blk.new_ (by simp) _ _).alloc _)
  have b1 : Blk W (w.heap.size + 1) 30 #[.int .i64 0] := by rw [hW]; exact Blk.new_ (by simp) _ _
  have HBW : Hid (Below w.heap.size w W) := by rw [hW]; exact (((Below.refl w.heap.size w).alloc (by simp <;> omega) _).alloc (by simp <;> omega) _)
  have c00 : W.cell? ⟨w.heap.size, 0, none⟩ = some (.int .i64 people) := b0.cell 0
  have c01 : W.cell? ⟨w.heap.size, 1, none⟩ = some (.slice ra rl rc) := b0.cell 1
  have c02 : W.cell? ⟨w.heap.size, 2, none⟩ = some (.slice ca cl cc) := b0.cell 2
  have c03 : W.cell? ⟨w.heap.size, 3, none⟩ = some (.int .i64 rate) := b0.cell 3
  have c04 : W.cell? ⟨w.heap.size, 4, none⟩ = some (.int .i64 bill) := b0.cell 4
  have c05 : W.cell? ⟨w.heap.size, 5, none⟩ = some (.slice da dl dc) := b0.cell 5
  have c06 : W.cell? ⟨w.heap.size, 6, none⟩ = some (.slice pa pl pc) := b0.cell 6
  have c10 : W.cell? ⟨w.heap.size + 1, 0, none⟩ = some (.int .i64 0) := b1.cell 0
  have hs0 : w.heap.size < W.heap.size := b0.lt
  have hs1 : w.heap.size + 1 < W.heap.size := b1.lt
  have fz1 : W.frozen? ⟨w.heap.size + 1, 0, none⟩ = false := b1.frozen 0
  have HBE := Lib.hid b1
  have hW' := hW.symm
  try unfold payCs at hW'
  rw [hW']
  clear hW hW' b0 b1
  have HE1 := HBE
  refine (open_fine (p := p) 66 #[] EG.out _ (by exact HP.out.grow HBW.out) HV.out (clos66 _)).mono ?_
  rintro e w1 ⟨rfl, hD, hb1⟩
  have HD := Lib.hid hD
  have HE2 : Hid (Blk w1 (w.heap.size + 1) 30 #[.int .i64 0]) := HBE.out.below hb1 hs1
  have HB1 : Hid (Below w.heap.size w w1) := HBW.out.trans (hb1.mono (by omega))
  clear hb1 hD
  go_wp2_with fail
  refine (dwrong_any (p := p) HV.out _ (by exact HD.out)).mono ?_
  rintro e w2 ⟨rfl, hb2⟩
  have HE3 : Hid (Blk w2 (w.heap.size + 1) 30 #[.int .i64 0]) := HE2.out.below hb2 HE2.out.lt
  have HB2 : Hid (Below w.heap.size w w2) := HB1.out.trans (hb2.mono (by have := HB1.out.size; omega))
  have q0 : w2.cell? ⟨w.heap.size + 1, 0, none⟩ = some (.int .i64 0) := HE3.out.cell 0
  have q1 : w2.frozen? ⟨w.heap.size + 1, 0, none⟩ = false := HE3.out.frozen 0
  clear hb2
  go_wp2_with fail
  refine (ask_any true 4 _).mono ?_
  rintro e w' ⟨h1, rfl⟩
  obtain rfl : e = .returned (.tuple #[]) := h1
  go_wp2
  have g0 := (HE3.out.set_ 0 (.int .i64 0)).cell 0
  exact api_returns (b := w.heap.size + 1) rfl (v := .tuple #[.int .i64 (wrongI p), .int .i64 0]) (by
    simp at g0
    simp [results, Tryd.results28, go_sem, g0]) ⟨rfl, setCell_below HB2.out (by omega) _⟩
end
end Go.Proofs.YtlcolpnniipgbaaDoor
