/- The walks of Stands and Sheep, where they answer. -/
import Derived.Test.YtlcolpnniipgbaaDoorApi1
namespace Go.Proofs.YtlcolpnniipgbaaDoor
open Go.RowKit Go.Hav
section
variable {people rate bill : Int} {ra ca da pa : Option Addr} {rl rc cl cc dl dc pl pc : Nat} {p : PayD}
set_option maxRecDepth 100000 in
set_option maxHeartbeats 6400000 in
theorem PStands_ok_none (who run : Int) (w : World) (hP : PayIn w w.heap.size people ra rl ca cl rate bill da dl pa pl p) (hv : payB p = true) (hval : (whoB p who && runB p run) = true) (hs : standsI p who run < 0) :
    Calls Tryd.prog 14 #[payV people ra rl rc ca cl cc rate bill da dl dc pa pl pc, .int .i64 who, .int .i64 run] w fun e w' => e = .returned (.tuple #[.int .i64 0, .int .i64 4]) ∧ Below w.heap.size w w' := by
  have HV := Lib.hid hv
  have HVAL := Lib.hid hval
  have HR1 := Lib.hid (payB_people hv)
  have HPE := Lib.hid hP.epeople
  have HRL := Lib.hid hP.erl
  have HWHO : Hid (0 ≤ who ∧ who ≤ 1000 ∧ who < people) := by have h1 := HR1.out; have h2 := HPE.out; have h3 : whoB p who = true := (by first | exact hval | exact (Bool.and_eq_true_iff.1 hval).1); have h4 := inB_iff.1 h3; show _ ∧ _ ∧ _; omega
  have HRUN : Hid (0 ≤ run ∧ run ≤ 1000 ∧ run < rl) := by have h1 := HR1.out; have h2 := HRL.out; have h3 : runB p run = true := (by first | exact hval | exact (Bool.and_eq_true_iff.1 hval).2); have h4 := inB_iff.1 h3; show _ ∧ _ ∧ _; omega
  have HLK : Hid (∀ (wv : World) (d : Nat), DeskM wv (d + 2) d (d - 1) people ra rl rc ca cl cc rate bill da dl dc pa pl pc p → (Instr.lookup 68 (.map (some (d - 1))) (.agg #[.int .i64 who, .int .i64 run]) true).run Tryd.prog wv = .ok (.tuple #[.int .i64 0, .bool false]) wv) := fun wv d hD => by
    have := hD.look who run HWHO.out.1 HWHO.out.2.1 HRUN.out.1 HRUN.out.2.1
    rwa [if_neg (by omega), show decide (0 ≤ standsI p who run) = false by simp; omega] at this
  clear hv hval hs
  have HP := Lib.hid hP
  have EG := Lib.hid (enters_of Tryd.func43 (by kernel_rfl) rfl)
  have hmf : ∀ (fn : Fn) (first cap : Array Value) (w : World), (Instr.makeFunc fn first cap).run Tryd.prog w = .ok (.func fn first cap) w := fun _ _ _ _ => rfl
  clear hP
  unfold payV
  go_enter_defers Tryd.func14, Tryd.ntmps14
  go_wp2_with fail
  obtain ⟨W, hW⟩ : ∃ W, W = ((((w.alloc (.cells (payCs people ra rl rc ca cl cc rate bill da dl dc pa pl pc) 27)).alloc (.cells #[.int .i64 who] 3)).alloc (.cells #[.int .i64 run] 3)).alloc (.cells #[.int .i64 0] 30)) := ⟨_, rfl⟩
  have b0 : Blk W (w.heap.size) 27 (payCs people ra rl rc ca cl cc rate bill da dl dc pa pl pc) := by rw [hW]; exact ((((Blk.new_ (by simp) _ _).alloc _).alloc _).alloc _)
  have b1 : Blk W (w.heap.size + 1) 3 #[.int .i64 who] := by rw [hW]; exact (((Blk.new_ (by simp) _ _).alloc _).alloc _)
  have b2 : Blk W (w.heap.size + 1 + 1) 3 #[.int .i64 run] := by rw [hW]; exact ((Blk.new_ (by simp) _ _).alloc _)
  have b3 : Blk W (w.heap.size + 1 + 1 + 1) 30 #[.int .i64 0] := by rw [hW]; exact Blk.new_ (by simp) _ _
  have HBW : Hid (Below w.heap.size w W) := by rw [hW]; exact (((((Below.refl w.heap.size w).alloc (by simp <;> omega) _).alloc (by simp <;> omega) _).alloc (by simp <;> omega) _).alloc (by simp <;> omega) _)
  have c00 : W.cell? ⟨w.heap.size, 0, none⟩ = some (.int .i64 people) := b0.cell 0
  have c01 : W.cell? ⟨w.heap.size, 1, none⟩ = some (.slice ra rl rc) := b0.cell 1
  have c02 : W.cell? ⟨w.heap.size, 2, none⟩ = some (.slice ca cl cc) := b0.cell 2
  have c03 : W.cell? ⟨w.heap.size, 3, none⟩ = some (.int .i64 rate) := b0.cell 3
  have c04 : W.cell? ⟨w.heap.size, 4, none⟩ = some (.int .i64 bill) := b0.cell 4
  have c05 : W.cell? ⟨w.heap.size, 5, none⟩ = some (.slice da dl dc) := b0.cell 5
  have c06 : W.cell? ⟨w.heap.size, 6, none⟩ = some (.slice pa pl pc) := b0.cell 6
  have c10 : W.cell? ⟨w.heap.size + 1, 0, none⟩ = some (.int .i64 who) := b1.cell 0
  have c20 : W.cell? ⟨w.heap.size + 1 + 1, 0, none⟩ = some (.int .i64 run) := b2.cell 0
  have c30 : W.cell? ⟨w.heap.size + 1 + 1 + 1, 0, none⟩ = some (.int .i64 0) := b3.cell 0
  have hs0 : w.heap.size < W.heap.size := b0.lt
  have hs1 : w.heap.size + 1 < W.heap.size := b1.lt
  have hs2 : w.heap.size + 1 + 1 < W.heap.size := b2.lt
  have hs3 : w.heap.size + 1 + 1 + 1 < W.heap.size := b3.lt
  have fz3 : W.frozen? ⟨w.heap.size + 1 + 1 + 1, 0, none⟩ = false := b3.frozen 0
  have HBE := Lib.hid b3
  have hW' := hW.symm
  try unfold payCs at hW'
  rw [hW']
  clear hW hW' b0 b1 b2 b3
  refine wp_region_havoc [(0,false), (1,false), (6,false), (7,false), (8,false), (2,true), (3,false), (4,false), (5,false), (9,false), (10,false), (11,false), (12,false), (13,false), (14,false)] [] (fun _ _ => False) (by kernel_rfl) (by kernel_rfl) (fun _ _ _ _ h => h.elim) ?_
  iterate 5 (apply hav_same (by simp only [List.getElem?_toArray, List.getElem?_cons_succ, List.getElem?_cons_zero]; rfl) (by kernel_rfl); (focus (intro wv hgv _; have hcv : ∀ b o, b < _ → wv.cell? ⟨b, o, none⟩ = _ := fun b o hb => Below.cell hgv (p := ⟨b, o, none⟩) hb; go_simp; try rfl; done)); simp only [Act.put, List.setIfInBounds_toArray, List.set_cons_succ, List.set_cons_zero])
  (apply hav_call_ghost (fun (v : Value) (wq : World) => ∃ d, v = .pointer (some ⟨d, 0, none⟩) ∧ DeskM wq (d + 2) d (d - 1) people ra rl rc ca cl cc rate bill da dl dc pa pl pc p) (by simp only [List.getElem?_toArray, List.getElem?_cons_succ, List.getElem?_cons_zero]; rfl) (by kernel_rfl); (focus (intro wv; go_simp; try exact ⟨rfl, rfl⟩; done)); (focus (rintro v w1 w2 ⟨d, rfl, h⟩ hg; exact ⟨d, rfl, h.grow hg⟩)); (focus (intro wv hgv _; have hcv : ∀ b o, b < _ → wv.cell? ⟨b, o, none⟩ = _ := fun b o hb => Below.cell hgv (p := ⟨b, o, none⟩) hb; exact (open_fine (p := p) 43 #[.pointer (some ⟨w.heap.size + 1, 0, none⟩), .pointer (some ⟨w.heap.size + 1 + 1, 0, none⟩)] EG.out wv (by exact HP.out.grow (HBW.out.trans (hgv.mono (by omega)))) HV.out (by rw [← HVAL.out]; exact (fun hv => clos43 who run _ _ wv (by have := (payB_parts (HP.out) hv).1; omega) (by have := (payB_parts (HP.out) hv).1; omega) (by rw [hcv _ _ hs1]; exact c10) (by rw [hcv _ _ hs2]; exact c20) (by have := hgv.size; omega) (by have := hgv.size; omega)) HV.out)).mono (fun e w' h => .inl ⟨_, h.1, h.2.2, _, rfl, h.2.1⟩); done)); intro v; simp only [Act.put, List.setIfInBounds_toArray, List.set_cons_succ, List.set_cons_zero])
  by_cases hd : ∃ d, v = .pointer (some ⟨d, 0, none⟩)
  case neg =>
    iterate 9 (refine hav_det (V := undef) (by simp only [List.getElem?_toArray, List.getElem?_cons_succ, List.getElem?_cons_zero]; rfl) (fun _ _ hF => (hd (hF.2.imp fun _ h => h.1)).elim) ?_; simp only [Act.put, List.setIfInBounds_toArray, List.set_cons_succ, List.set_cons_zero])
    exact hav_end (fun _ _ hF => (hd (hF.2.imp fun _ h => h.1)).elim)
  obtain ⟨d, rfl⟩ := hd
  iterate 2 (apply hav_same (by simp only [List.getElem?_toArray, List.getElem?_cons_succ, List.getElem?_cons_zero]; rfl) (by kernel_rfl); (focus (intro wv hgv _; have hcv : ∀ b o, b < _ → wv.cell? ⟨b, o, none⟩ = _ := fun b o hb => Below.cell hgv (p := ⟨b, o, none⟩) hb; go_simp; try rfl; done)); simp only [Act.put, List.setIfInBounds_toArray, List.set_cons_succ, List.set_cons_zero])
  (apply hav_same (by simp only [List.getElem?_toArray, List.getElem?_cons_succ, List.getElem?_cons_zero]; rfl) (by kernel_rfl); (focus (intro wv hgv hF; have hcv : ∀ b o, b < _ → wv.cell? ⟨b, o, none⟩ = _ := fun b o hb => Below.cell hgv (p := ⟨b, o, none⟩) hb; obtain ⟨d', he, hD⟩ := hF.2; obtain rfl : d = d' := (by simpa using he); have q7 := hD.desk.c7; go_simp; try rfl; done)); simp only [Act.put, List.setIfInBounds_toArray, List.set_cons_succ, List.set_cons_zero])
  (apply hav_same (by simp only [List.getElem?_toArray, List.getElem?_cons_succ, List.getElem?_cons_zero]; rfl) (by kernel_rfl); (focus (intro wv hgv hF; have hcv : ∀ b o, b < _ → wv.cell? ⟨b, o, none⟩ = _ := fun b o hb => Below.cell hgv (p := ⟨b, o, none⟩) hb; obtain ⟨d', he, hD⟩ := hF.2; obtain rfl : d = d' := (by simpa using he); have hlk := HLK.out wv d hD; go_simp; try rfl; done)); simp only [Act.put, List.setIfInBounds_toArray, List.set_cons_succ, List.set_cons_zero])
  iterate 5 (apply hav_same (by simp only [List.getElem?_toArray, List.getElem?_cons_succ, List.getElem?_cons_zero]; rfl) (by kernel_rfl); (focus (intro wv hgv _; have hcv : ∀ b o, b < _ → wv.cell? ⟨b, o, none⟩ = _ := fun b o hb => Below.cell hgv (p := ⟨b, o, none⟩) hb; go_simp; try rfl; done)); simp only [Act.put, List.setIfInBounds_toArray, List.set_cons_succ, List.set_cons_zero])
  refine hav_end (fun w1 hgw1 _ => ?_); simp only [List.filterMap]; have hcw1 : ∀ b o, b < _ → w1.cell? ⟨b, o, none⟩ = _ := fun b o hb => Below.cell hgw1 (p := ⟨b, o, none⟩) hb; have hfw1 : ∀ b o, b < _ → w1.frozen? ⟨b, o, none⟩ = _ := fun b o hb => Below.frozen hgw1 (p := ⟨b, o, none⟩) hb; have hzw1 := Below.size hgw1; (try simp at hzw1)
  have HE1 : Hid (Blk w1 (w.heap.size + 1 + 1 + 1) 30 #[.int .i64 0]) := HBE.out.below hgw1 hs3
  have q0 : w1.cell? ⟨w.heap.size + 1 + 1 + 1, 0, none⟩ = some (.int .i64 0) := HE1.out.cell 0
  have q1 : w1.frozen? ⟨w.heap.size + 1 + 1 + 1, 0, none⟩ = false := HE1.out.frozen 0
  have HB1 : Hid (Below w.heap.size w w1) := HBW.out.trans (hgw1.mono (by omega))
  clear hgw1 hcw1 hfw1
  go_wp2_with fail
  refine (ask_any false 4 _).mono ?_
  rintro e w' ⟨h1, rfl⟩
  obtain rfl : e = .panicked [refE 4] := h1
  go_wp2
  have g0 := (HE1.out.set_ 0 (.int .i64 4)).cell 0
  exact api_panics (b := w.heap.size + 1 + 1 + 1) rfl (HE1.out.cell 0) (HE1.out.frozen 0) (v := .tuple #[.int .i64 0, .int .i64 4]) (by
    simp at g0
    simp [results, Tryd.results14, go_sem, g0]) ⟨rfl, setCell_below HB1.out (by omega) _⟩
set_option maxRecDepth 100000 in
set_option maxHeartbeats 6400000 in
theorem PStands_ok (who run : Int) (w : World) (hP : PayIn w w.heap.size people ra rl ca cl rate bill da dl pa pl p) (hv : payB p = true) (hval : (whoB p who && runB p run) = true) (hs : 0 ≤ standsI p who run) :
    Calls Tryd.prog 14 #[payV people ra rl rc ca cl cc rate bill da dl dc pa pl pc, .int .i64 who, .int .i64 run] w fun e w' => e = .returned (.tuple #[.int .i64 (standsI p who run), .int .i64 0]) ∧ Below w.heap.size w w' := by
  have HV := Lib.hid hv
  have HVAL := Lib.hid hval
  have HR1 := Lib.hid (payB_people hv)
  have HPE := Lib.hid hP.epeople
  have HRL := Lib.hid hP.erl
  have HWHO : Hid (0 ≤ who ∧ who ≤ 1000 ∧ who < people) := by have h1 := HR1.out; have h2 := HPE.out; have h3 : whoB p who = true := (by first | exact hval | exact (Bool.and_eq_true_iff.1 hval).1); have h4 := inB_iff.1 h3; show _ ∧ _ ∧ _; omega
  have HRUN : Hid (0 ≤ run ∧ run ≤ 1000 ∧ run < rl) := by have h1 := HR1.out; have h2 := HRL.out; have h3 : runB p run = true := (by first | exact hval | exact (Bool.and_eq_true_iff.1 hval).2); have h4 := inB_iff.1 h3; show _ ∧ _ ∧ _; omega
  have HLK : Hid (∀ (wv : World) (d : Nat), DeskM wv (d + 2) d (d - 1) people ra rl rc ca cl cc rate bill da dl dc pa pl pc p → (Instr.lookup 68 (.map (some (d - 1))) (.agg #[.int .i64 who, .int .i64 run]) true).run Tryd.prog wv = .ok (.tuple #[.int .i64 (standsI p who run), .bool true]) wv) := fun wv d hD => by
    have := hD.look who run HWHO.out.1 HWHO.out.2.1 HRUN.out.1 HRUN.out.2.1
    rwa [if_pos hs, show decide (0 ≤ standsI p who run) = true by simp [hs]] at this
  clear hv hval hs
  have HP := Lib.hid hP
  have EG := Lib.hid (enters_of Tryd.func43 (by kernel_rfl) rfl)
  have hmf : ∀ (fn : Fn) (first cap : Array Value) (w : World), (Instr.makeFunc fn first cap).run Tryd.prog w = .ok (.func fn first cap) w := fun _ _ _ _ => rfl
  clear hP
  unfold payV
  go_enter_defers Tryd.func14, Tryd.ntmps14
  go_wp2_with fail
  obtain ⟨W, hW⟩ : ∃ W, W = ((((w.alloc (.cells (payCs people ra rl rc ca cl cc rate bill da dl dc pa pl pc) 27)).alloc (.cells #[.int .i64 who] 3)).alloc (.cells #[.int .i64 run] 3)).alloc (.cells #[.int .i64 0] 30)) := ⟨_, rfl⟩
  have b0 : Blk W (w.heap.size) 27 (payCs people ra rl rc ca cl cc rate bill da dl dc pa pl pc) := by rw [hW]; exact ((((Blk.new_ (by simp) _ _).alloc _).alloc _).alloc _)
  have b1 : Blk W (w.heap.size + 1) 3 #[.int .i64 who] := by rw [hW]; exact (((Blk.new_ (by simp) _ _).alloc _).alloc _)
  have b2 : Blk W (w.heap.size + 1 + 1) 3 #[.int .i64 run] := by rw [hW]; exact ((Blk.new_ (by simp) _ _).alloc _)
  have b3 : Blk W (w.heap.size + 1 + 1 + 1) 30 #[.int .i64 0] := by rw [hW]; exact Blk.new_ (by simp) _ _
  have HBW : Hid (Below w.heap.size w W) := by rw [hW]; exact (((((Below.refl w.heap.size w).alloc (by simp <;> omega) _).alloc (by simp <;> omega) _).alloc (by simp <;> omega) _).alloc (by simp <;> omega) _)
  have c00 : W.cell? ⟨w.heap.size, 0, none⟩ = some (.int .i64 people) := b0.cell 0
  have c01 : W.cell? ⟨w.heap.size, 1, none⟩ = some (.slice ra rl rc) := b0.cell 1
  have c02 : W.cell? ⟨w.heap.size, 2, none⟩ = some (.slice ca cl cc) := b0.cell 2
  have c03 : W.cell? ⟨w.heap.size, 3, none⟩ = some (.int .i64 rate) := b0.cell 3
  have c04 : W.cell? ⟨w.heap.size, 4, none⟩ = some (.int .i64 bill) := b0.cell 4
  have c05 : W.cell? ⟨w.heap.size, 5, none⟩ = some (.slice da dl dc) := b0.cell 5
  have c06 : W.cell? ⟨w.heap.size, 6, none⟩ = some (.slice pa pl pc) := b0.cell 6
  have c10 : W.cell? ⟨w.heap.size + 1, 0, none⟩ = some (.int .i64 who) := b1.cell 0
  have c20 : W.cell? ⟨w.heap.size + 1 + 1, 0, none⟩ = some (.int .i64 run) := b2.cell 0
  have c30 : W.cell? ⟨w.heap.size + 1 + 1 + 1, 0, none⟩ = some (.int .i64 0) := b3.cell 0
  have hs0 : w.heap.size < W.heap.size := b0.lt
  have hs1 : w.heap.size + 1 < W.heap.size := b1.lt
  have hs2 : w.heap.size + 1 + 1 < W.heap.size := b2.lt
  have hs3 : w.heap.size + 1 + 1 + 1 < W.heap.size := b3.lt
  have fz3 : W.frozen? ⟨w.heap.size + 1 + 1 + 1, 0, none⟩ = false := b3.frozen 0
  have HBE := Lib.hid b3
  have hW' := hW.symm
  try unfold payCs at hW'
  rw [hW']
  clear hW hW' b0 b1 b2 b3
  refine wp_region_havoc [(0,false), (1,false), (6,false), (7,false), (8,false), (2,true), (3,false), (4,false), (5,false), (9,false), (10,false), (11,false), (12,false), (13,false), (14,false)] [] (fun _ _ => False) (by kernel_rfl) (by kernel_rfl) (fun _ _ _ _ h => h.elim) ?_
  iterate 5 (apply hav_same (by simp only [List.getElem?_toArray, List.getElem?_cons_succ, List.getElem?_cons_zero]; rfl) (by kernel_rfl); (focus (intro wv hgv _; have hcv : ∀ b o, b < _ → wv.cell? ⟨b, o, none⟩ = _ := fun b o hb => Below.cell hgv (p := ⟨b, o, none⟩) hb; go_simp; try rfl; done)); simp only [Act.put, List.setIfInBounds_toArray, List.set_cons_succ, List.set_cons_zero])
  (apply hav_call_ghost (fun (v : Value) (wq : World) => ∃ d, v = .pointer (some ⟨d, 0, none⟩) ∧ DeskM wq (d + 2) d (d - 1) people ra rl rc ca cl cc rate bill da dl dc pa pl pc p) (by simp only [List.getElem?_toArray, List.getElem?_cons_succ, List.getElem?_cons_zero]; rfl) (by kernel_rfl); (focus (intro wv; go_simp; try exact ⟨rfl, rfl⟩; done)); (focus (rintro v w1 w2 ⟨d, rfl, h⟩ hg; exact ⟨d, rfl, h.grow hg⟩)); (focus (intro wv hgv _; have hcv : ∀ b o, b < _ → wv.cell? ⟨b, o, none⟩ = _ := fun b o hb => Below.cell hgv (p := ⟨b, o, none⟩) hb; exact (open_fine (p := p) 43 #[.pointer (some ⟨w.heap.size + 1, 0, none⟩), .pointer (some ⟨w.heap.size + 1 + 1, 0, none⟩)] EG.out wv (by exact HP.out.grow (HBW.out.trans (hgv.mono (by omega)))) HV.out (by rw [← HVAL.out]; exact (fun hv => clos43 who run _ _ wv (by have := (payB_parts (HP.out) hv).1; omega) (by have := (payB_parts (HP.out) hv).1; omega) (by rw [hcv _ _ hs1]; exact c10) (by rw [hcv _ _ hs2]; exact c20) (by have := hgv.size; omega) (by have := hgv.size; omega)) HV.out)).mono (fun e w' h => .inl ⟨_, h.1, h.2.2, _, rfl, h.2.1⟩); done)); intro v; simp only [Act.put, List.setIfInBounds_toArray, List.set_cons_succ, List.set_cons_zero])
  by_cases hd : ∃ d, v = .pointer (some ⟨d, 0, none⟩)
  case neg =>
    iterate 9 (refine hav_det (V := undef) (by simp only [List.getElem?_toArray, List.getElem?_cons_succ, List.getElem?_cons_zero]; rfl) (fun _ _ hF => (hd (hF.2.imp fun _ h => h.1)).elim) ?_; simp only [Act.put, List.setIfInBounds_toArray, List.set_cons_succ, List.set_cons_zero])
    exact hav_end (fun _ _ hF => (hd (hF.2.imp fun _ h => h.1)).elim)
  obtain ⟨d, rfl⟩ := hd
  iterate 2 (apply hav_same (by simp only [List.getElem?_toArray, List.getElem?_cons_succ, List.getElem?_cons_zero]; rfl) (by kernel_rfl); (focus (intro wv hgv _; have hcv : ∀ b o, b < _ → wv.cell? ⟨b, o, none⟩ = _ := fun b o hb => Below.cell hgv (p := ⟨b, o, none⟩) hb; go_simp; try rfl; done)); simp only [Act.put, List.setIfInBounds_toArray, List.set_cons_succ, List.set_cons_zero])
  (apply hav_same (by simp only [List.getElem?_toArray, List.getElem?_cons_succ, List.getElem?_cons_zero]; rfl) (by kernel_rfl); (focus (intro wv hgv hF; have hcv : ∀ b o, b < _ → wv.cell? ⟨b, o, none⟩ = _ := fun b o hb => Below.cell hgv (p := ⟨b, o, none⟩) hb; obtain ⟨d', he, hD⟩ := hF.2; obtain rfl : d = d' := (by simpa using he); have q7 := hD.desk.c7; go_simp; try rfl; done)); simp only [Act.put, List.setIfInBounds_toArray, List.set_cons_succ, List.set_cons_zero])
  (apply hav_same (by simp only [List.getElem?_toArray, List.getElem?_cons_succ, List.getElem?_cons_zero]; rfl) (by kernel_rfl); (focus (intro wv hgv hF; have hcv : ∀ b o, b < _ → wv.cell? ⟨b, o, none⟩ = _ := fun b o hb => Below.cell hgv (p := ⟨b, o, none⟩) hb; obtain ⟨d', he, hD⟩ := hF.2; obtain rfl : d = d' := (by simpa using he); have hlk := HLK.out wv d hD; go_simp; try rfl; done)); simp only [Act.put, List.setIfInBounds_toArray, List.set_cons_succ, List.set_cons_zero])
  iterate 5 (apply hav_same (by simp only [List.getElem?_toArray, List.getElem?_cons_succ, List.getElem?_cons_zero]; rfl) (by kernel_rfl); (focus (intro wv hgv _; have hcv : ∀ b o, b < _ → wv.cell? ⟨b, o, none⟩ = _ := fun b o hb => Below.cell hgv (p := ⟨b, o, none⟩) hb; go_simp; try rfl; done)); simp only [Act.put, List.setIfInBounds_toArray, List.set_cons_succ, List.set_cons_zero])
  refine hav_end (fun w1 hgw1 _ => ?_); simp only [List.filterMap]; have hcw1 : ∀ b o, b < _ → w1.cell? ⟨b, o, none⟩ = _ := fun b o hb => Below.cell hgw1 (p := ⟨b, o, none⟩) hb; have hfw1 : ∀ b o, b < _ → w1.frozen? ⟨b, o, none⟩ = _ := fun b o hb => Below.frozen hgw1 (p := ⟨b, o, none⟩) hb; have hzw1 := Below.size hgw1; (try simp at hzw1)
  have HE1 : Hid (Blk w1 (w.heap.size + 1 + 1 + 1) 30 #[.int .i64 0]) := HBE.out.below hgw1 hs3
  have q0 : w1.cell? ⟨w.heap.size + 1 + 1 + 1, 0, none⟩ = some (.int .i64 0) := HE1.out.cell 0
  have q1 : w1.frozen? ⟨w.heap.size + 1 + 1 + 1, 0, none⟩ = false := HE1.out.frozen 0
  have HB1 : Hid (Below w.heap.size w w1) := HBW.out.trans (hgw1.mono (by omega))
  clear hgw1 hcw1 hfw1
  go_wp2_with fail
  refine (ask_any true 4 _).mono ?_
  rintro e w' ⟨h1, rfl⟩
  obtain rfl : e = .returned (.tuple #[]) := h1
  go_wp2
  have g0 := (HE1.out.set_ 0 (.int .i64 0)).cell 0
  exact api_returns (b := w.heap.size + 1 + 1 + 1) rfl (v := .tuple #[.int .i64 (standsI p who run), .int .i64 0]) (by
    simp at g0
    simp [results, Tryd.results14, go_sem, g0]) ⟨rfl, setCell_below HB1.out (by omega) _⟩
set_option maxRecDepth 100000 in
set_option maxHeartbeats 6400000 in
theorem PSheep_ok (who run : Int) (w : World) (hP : PayIn w w.heap.size people ra rl ca cl rate bill da dl pa pl p) (hv : payB p = true) (hval : (whoB p who && runB p run) = true) (ht : wrongI p = 0) :
    Calls Tryd.prog 16 #[payV people ra rl rc ca cl cc rate bill da dl dc pa pl pc, .int .i64 who, .int .i64 run] w fun e w' => e = .returned (.tuple #[spV (sheepS p who run), .int .i64 0]) ∧ Below w.heap.size w w' := by
  have HV := Lib.hid hv
  have HVAL := Lib.hid hval
  have HR1 := Lib.hid (payB_people hv)
  have HPE := Lib.hid hP.epeople
  have HRL := Lib.hid hP.erl
  have HT := Lib.hid ht
  have HWHO : Hid (0 ≤ who ∧ who ≤ 1000 ∧ who < people) := by have h1 := HR1.out; have h2 := HPE.out; have h3 : whoB p who = true := (by first | exact hval | exact (Bool.and_eq_true_iff.1 hval).1); have h4 := inB_iff.1 h3; show _ ∧ _ ∧ _; omega
  have HRUN : Hid (0 ≤ run ∧ run ≤ 1000 ∧ run < rl) := by have h1 := HR1.out; have h2 := HRL.out; have h3 : runB p run = true := (by first | exact hval | exact (Bool.and_eq_true_iff.1 hval).2); have h4 := inB_iff.1 h3; show _ ∧ _ ∧ _; omega
  clear hv hval ht
  have HP := Lib.hid hP
  have EG := Lib.hid (enters_of Tryd.func51 (by kernel_rfl) rfl)
  have hmf : ∀ (fn : Fn) (first cap : Array Value) (w : World), (Instr.makeFunc fn first cap).run Tryd.prog w = .ok (.func fn first cap) w := fun _ _ _ _ => rfl
  clear hP
  unfold payV
  go_enter_defers Tryd.func16, Tryd.ntmps16
  go_wp2_with fail
  obtain ⟨W, hW⟩ : ∃ W, W = (((((w.alloc (.cells (payCs people ra rl rc ca cl cc rate bill da dl dc pa pl pc) 27)).alloc (.cells #[.int .i64 who] 3)).alloc (.cells #[.int .i64 run] 3)).alloc (.cells #[.int .i64 0, .int .i64 0] 34)).alloc (.cells #[.int .i64 0] 30)) := ⟨_, rfl⟩
  have b0 : Blk W (w.heap.size) 27 (payCs people ra rl rc ca cl cc rate bill da dl dc pa pl pc) := by rw [hW]; exact (((((Blk.new_ (by simp) _ _).alloc _).alloc _).alloc _).alloc _)
  have b1 : Blk W (w.heap.size + 1) 3 #[.int .i64 who] := by rw [hW]; exact ((((Blk.new_ (by simp) _ _).alloc _).alloc _).alloc _)
  have b2 : Blk W (w.heap.size + 1 + 1) 3 #[.int .i64 run] := by rw [hW]; exact (((Blk.new_ (by simp) _ _).alloc _).alloc _)
  have b3 : Blk W (w.heap.size + 1 + 1 + 1) 34 #[.int .i64 0, .int .i64 0] := by rw [hW]; exact ((Blk.new_ (by simp) _ _).alloc _)
  have b4 : Blk W (w.heap.size + 1 + 1 + 1 + 1) 30 #[.int .i64 0] := by rw [hW]; exact Blk.new_ (by simp) _ _
  have HBW : Hid (Below w.heap.size w W) := by rw [hW]; exact ((((((Below.refl w.heap.size w).alloc (by simp <;> omega) _).alloc (by simp <;> omega) _).alloc (by simp <;> omega) _).alloc (by simp <;> omega) _).alloc (by simp <;> omega) _)
  have c00 : W.cell? ⟨w.heap.size, 0, none⟩ = some (.int .i64 people) := b0.cell 0
  have c01 : W.cell? ⟨w.heap.size, 1, none⟩ = some (.slice ra rl rc) := b0.cell 1
  have c02 : W.cell? ⟨w.heap.size, 2, none⟩ = some (.slice ca cl cc) := b0.cell 2
  have c03 : W.cell? ⟨w.heap.size, 3, none⟩ = some (.int .i64 rate) := b0.cell 3
  have c04 : W.cell? ⟨w.heap.size, 4, none⟩ = some (.int .i64 bill) := b0.cell 4
  have c05 : W.cell? ⟨w.heap.size, 5, none⟩ = some (.slice da dl dc) := b0.cell 5
  have c06 : W.cell? ⟨w.heap.size, 6, none⟩ = some (.slice pa pl pc) := b0.cell 6
  have c10 : W.cell? ⟨w.heap.size + 1, 0, none⟩ = some (.int .i64 who) := b1.cell 0
  have c20 : W.cell? ⟨w.heap.size + 1 + 1, 0, none⟩ = some (.int .i64 run) := b2.cell 0
  have c30 : W.cell? ⟨w.heap.size + 1 + 1 + 1, 0, none⟩ = some (.int .i64 0) := b3.cell 0
  have c31 : W.cell? ⟨w.heap.size + 1 + 1 + 1, 1, none⟩ = some (.int .i64 0) := b3.cell 1
  have c40 : W.cell? ⟨w.heap.size + 1 + 1 + 1 + 1, 0, none⟩ = some (.int .i64 0) := b4.cell 0
  have hs0 : w.heap.size < W.heap.size := b0.lt
  have hs1 : w.heap.size + 1 < W.heap.size := b1.lt
  have hs2 : w.heap.size + 1 + 1 < W.heap.size := b2.lt
  have hs3 : w.heap.size + 1 + 1 + 1 < W.heap.size := b3.lt
  have hs4 : w.heap.size + 1 + 1 + 1 + 1 < W.heap.size := b4.lt
  have fz4 : W.frozen? ⟨w.heap.size + 1 + 1 + 1 + 1, 0, none⟩ = false := b4.frozen 0
  have fz3 : W.frozen? ⟨w.heap.size + 1 + 1 + 1, 0, none⟩ = false := b3.frozen 0
  have fy3 : W.frozen? ⟨w.heap.size + 1 + 1 + 1, 1, none⟩ = false := b3.frozen 1
  have HBE := Lib.hid b4
  have HBS := Lib.hid b3
  have hW' := hW.symm
  try unfold payCs at hW'
  rw [hW']
  clear hW hW' b0 b1 b2 b3 b4
  refine wp_region_havoc [(0,false), (1,false), (4,false), (5,false), (6,false), (2,true), (3,false), (7,false), (8,false)] [9, 10] (fun _ _ => False) (by kernel_rfl) (by kernel_rfl) (fun _ _ _ _ h => h.elim) ?_
  iterate 5 (apply hav_same (by simp only [List.getElem?_toArray, List.getElem?_cons_succ, List.getElem?_cons_zero]; rfl) (by kernel_rfl); (focus (intro wv hgv _; have hcv : ∀ b o, b < _ → wv.cell? ⟨b, o, none⟩ = _ := fun b o hb => Below.cell hgv (p := ⟨b, o, none⟩) hb; go_simp; try rfl; done)); simp only [Act.put, List.setIfInBounds_toArray, List.set_cons_succ, List.set_cons_zero])
  (apply hav_call_ghost (fun (v : Value) (wq : World) => ∃ d, v = .pointer (some ⟨d, 0, none⟩) ∧ DeskM wq (d + 2) d (d - 1) people ra rl rc ca cl cc rate bill da dl dc pa pl pc p) (by simp only [List.getElem?_toArray, List.getElem?_cons_succ, List.getElem?_cons_zero]; rfl) (by kernel_rfl); (focus (intro wv; go_simp; try exact ⟨rfl, rfl⟩; done)); (focus (rintro v w1 w2 ⟨d, rfl, h⟩ hg; exact ⟨d, rfl, h.grow hg⟩)); (focus (intro wv hgv _; have hcv : ∀ b o, b < _ → wv.cell? ⟨b, o, none⟩ = _ := fun b o hb => Below.cell hgv (p := ⟨b, o, none⟩) hb; exact (open_fine (p := p) 51 #[.pointer (some ⟨w.heap.size + 1, 0, none⟩), .pointer (some ⟨w.heap.size + 1 + 1, 0, none⟩)] EG.out wv (by exact HP.out.grow (HBW.out.trans (hgv.mono (by omega)))) HV.out (by rw [← HVAL.out]; exact (fun hv => clos51 who run _ _ wv (by have := (payB_parts (HP.out) hv).1; omega) (by have := (payB_parts (HP.out) hv).1; omega) (by rw [hcv _ _ hs1]; exact c10) (by rw [hcv _ _ hs2]; exact c20) (by have := hgv.size; omega) (by have := hgv.size; omega)) HV.out)).mono (fun e w' h => .inl ⟨_, h.1, h.2.2, _, rfl, h.2.1⟩); done)); intro v; simp only [Act.put, List.setIfInBounds_toArray, List.set_cons_succ, List.set_cons_zero])
  by_cases hd : ∃ d, v = .pointer (some ⟨d, 0, none⟩)
  case neg =>
    iterate 3 (refine hav_det (V := undef) (by simp only [List.getElem?_toArray, List.getElem?_cons_succ, List.getElem?_cons_zero]; rfl) (fun _ _ hF => (hd (hF.2.imp fun _ h => h.1)).elim) ?_; simp only [Act.put, List.setIfInBounds_toArray, List.set_cons_succ, List.set_cons_zero])
    exact hav_end (fun _ _ hF => (hd (hF.2.imp fun _ h => h.1)).elim)
  obtain ⟨d, rfl⟩ := hd
  (apply hav_call (by simp only [List.getElem?_toArray, List.getElem?_cons_succ, List.getElem?_cons_zero]; rfl) (by kernel_rfl); (focus (intro wv; go_simp; try exact ⟨rfl, rfl⟩; done)); (focus (intro wv hgv hF; obtain ⟨d', he, hD⟩ := hF.2; obtain rfl : d = d' := (by simpa using he); refine (told_any (p := p) HV.out _ hD).mono ?_; rintro e w' ⟨h1, h2⟩; rw [if_pos HT.out] at h1; exact ⟨h1, h2⟩; done)); simp only [Act.put, List.setIfInBounds_toArray, List.set_cons_succ, List.set_cons_zero])
  (apply hav_call (by simp only [List.getElem?_toArray, List.getElem?_cons_succ, List.getElem?_cons_zero]; rfl) (by kernel_rfl); (focus (intro wv; go_simp; try exact ⟨rfl, rfl⟩; done)); (focus (intro wv hgv hF; obtain ⟨d', he, hD⟩ := hF.2; obtain rfl : d = d' := (by simpa using he); exact sheep_any (p := p) HV.out who run HWHO.out.1 HWHO.out.2.1 HRUN.out.1 HRUN.out.2.2 _ hD; done)); simp only [Act.put, List.setIfInBounds_toArray, List.set_cons_succ, List.set_cons_zero])
  have hfd : ∀ (a b : Int) (w : World), (Instr.field 80 (.agg #[.int .i64 a, .int .i64 b]) 0).run Tryd.prog w = .ok (.agg #[.int .i64 a, .int .i64 b]) w := fun _ _ _ => by kernel_rfl
  obtain ⟨C, HC⟩ : ∃ C, Hid (sheepS p who run = C) := ⟨_, rfl⟩
  rw [HC.out]
  simp only [spV]
  (apply hav_same (by simp only [List.getElem?_toArray, List.getElem?_cons_succ, List.getElem?_cons_zero]; rfl) (by kernel_rfl); (focus (intro wv hgv _; have hcv : ∀ b o, b < _ → wv.cell? ⟨b, o, none⟩ = _ := fun b o hb => Below.cell hgv (p := ⟨b, o, none⟩) hb; go_simp; try rfl; done)); simp only [Act.put, List.setIfInBounds_toArray, List.set_cons_succ, List.set_cons_zero])
  refine hav_end (fun w1 hgw1 _ => ?_); simp only [List.filterMap]; have hcw1 : ∀ b o, b < _ → w1.cell? ⟨b, o, none⟩ = _ := fun b o hb => Below.cell hgw1 (p := ⟨b, o, none⟩) hb; have hfw1 : ∀ b o, b < _ → w1.frozen? ⟨b, o, none⟩ = _ := fun b o hb => Below.frozen hgw1 (p := ⟨b, o, none⟩) hb; have hzw1 := Below.size hgw1; (try simp at hzw1)
  have HE1 : Hid (Blk w1 (w.heap.size + 1 + 1 + 1 + 1) 30 #[.int .i64 0]) := HBE.out.below hgw1 hs4
  have HS1 : Hid (Blk w1 (w.heap.size + 1 + 1 + 1) 34 #[.int .i64 0, .int .i64 0]) := HBS.out.below hgw1 hs3
  have q0 : w1.cell? ⟨w.heap.size + 1 + 1 + 1 + 1, 0, none⟩ = some (.int .i64 0) := HE1.out.cell 0
  have q1 : w1.frozen? ⟨w.heap.size + 1 + 1 + 1 + 1, 0, none⟩ = false := HE1.out.frozen 0
  have q2 : w1.cell? ⟨w.heap.size + 1 + 1 + 1, 0, none⟩ = some (.int .i64 0) := HS1.out.cell 0
  have q3 : w1.frozen? ⟨w.heap.size + 1 + 1 + 1, 0, none⟩ = false := HS1.out.frozen 0
  have q4 : w1.cell? ⟨w.heap.size + 1 + 1 + 1, 1, none⟩ = some (.int .i64 0) := HS1.out.cell 1
  have q5 : w1.frozen? ⟨w.heap.size + 1 + 1 + 1, 1, none⟩ = false := HS1.out.frozen 1
  have HB1 : Hid (Below w.heap.size w w1) := HBW.out.trans (hgw1.mono (by omega))
  clear hgw1 hcw1 hfw1
  go_wp2
  have HS2 := ((HS1.out.set_ 0 (.int .i64 C.lo)).set_ 1 (.int .i64 C.hi)).far (p := ⟨w.heap.size + 1 + 1 + 1 + 1, 0, none⟩) (by show _ ≠ w.heap.size + 1 + 1 + 1 + 1; omega) (.int .i64 0)
  have HE2 := ((HE1.out.far (p := ⟨w.heap.size + 1 + 1 + 1, 0, none⟩) (by show _ ≠ w.heap.size + 1 + 1 + 1; omega) (.int .i64 C.lo)).far (p := ⟨w.heap.size + 1 + 1 + 1, 1, none⟩) (by show _ ≠ w.heap.size + 1 + 1 + 1; omega) (.int .i64 C.hi)).set_ 0 (.int .i64 0)
  have g0 := HE2.cell 0
  have g1 := HS2.cell 0
  have g2 := HS2.cell 1
  exact api_returns (b := w.heap.size + 1 + 1 + 1 + 1) rfl (v := .tuple #[.agg #[.int .i64 C.lo, .int .i64 C.hi], .int .i64 0]) (by
    simp at g0 g1 g2
    simp [results, Tryd.results16, go_sem, g0, g1, g2]) ⟨by rw [HC.out]; rfl, setCell_below (setCell_below2 (setCell_below HB1.out (by omega) _) (by omega) _) (by omega) _⟩
end
end Go.Proofs.YtlcolpnniipgbaaDoor
