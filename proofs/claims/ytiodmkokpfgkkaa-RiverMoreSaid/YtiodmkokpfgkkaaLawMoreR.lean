/- The law RiverMore: which span is less wide; it is stored. Conditions: what the frame holds. The law RiverMore: the three copies of the river. Conditions: what the frame holds. The law RiverMore, whole: for every river, look and three numbers it answers true. Conditions: the numbers are of 8 bits. -/
import Derived.Test.YtiodmkokpfgkkaaLawMoreQ
import Derived.Test.YtiodmkokpfgkkaaHavP
namespace Go.Proofs.Ytiodmkokpfgkkaa
open Go.RowKit Go.Hav Go.Shelf Go.Sq
attribute [local go_sem] Oper.semAt_some
theorem convM {a : Act} {o : Oper} {x : Operand} {n : Int} (ho : o.op = .convert 5 3 x) (hx : a.eval x = .int .u8 n) (h0 : 0 ≤ n) (h1 : n ≤ 255) (w : World) : (execOp a.eval o).run Try.prog w = .ok (.value (.int .i64 n)) w := by
 have hd' : Try.prog.underlying 3 = some (.int (Try.prog.intKind 3)) := by kernel_rfl
 have hk : Try.prog.intKind 3 = .i64 := by kernel_rfl
 have h := run_convert_int (P := Try.prog) w 5 3 .u8 n (by kernel_rfl) hd'
 rw [hk, show IntKind.i64.wrap n = n from IntWalk.i64_in _ (by omega)] at h
 unfold execOp
 rw [ho]
 simp only [hx]
 show Sem.run Try.prog (do pure (Next.value (← convert 5 3 (.int .u8 n)))) w = _
 simp [go_sem, h]
/-- What the storing of one span leans on. -/
structure M6 (w0 w : World) (b5 b13 b14 b15 gx gy fl fc ll lc cx cy : Nat) (fa la : Option Addr) (r : IRiv) (l : ILk) : Prop where
 hP : RvIn w0 w0.heap.size fa fl la ll r
 bw : Below w0.heap.size w0 w
 h5 : Blk w b5 27 (boxR r fa fl fc la ll lc)
 h13 : Blk w b13 27 (boxR (withR r l) fa fl fc (some ⟨gx, 0, none⟩) (ll + 1) cx)
 ox : w.ownsRow w0.heap.size 58 3 (.slice (some ⟨gx, 0, none⟩) (ll + 1) cx) (ll + 1) ((withR r l).lk.flatMap lkI)
 h14 : Blk w b14 27 (boxR r (some ⟨gy, 0, none⟩) fl cy la ll lc)
 oy : w.ownsRow w0.heap.size 55 4 (.slice (some ⟨gy, 0, none⟩) fl cy) fl (r.fr.flatMap frI)
 h15 : Blk w b15 27 (boxR r fa fl fc la ll lc)
 g14 : w0.heap.size ≤ b14
 g15 : w0.heap.size ≤ b15
 n5 : b5 ≠ b15
 n13 : b13 ≠ b15
 n14 : b14 ≠ b15
 m5 : b5 ≠ b14
 m13 : b13 ≠ b14
section
variable {w0 : World} {b5 b13 b14 b15 gx gy fl fc ll lc d n llx lcx cx cy fcx lly lcy : Nat} {fa la fx lx fy ly : Option Addr} {r x y : IRiv} {l : ILk}
theorem M6.below {w w' : World} (h : M6 w0 w b5 b13 b14 b15 gx gy fl fc ll lc cx cy fa la r l) (hb : Below w.heap.size w w') : M6 w0 w' b5 b13 b14 b15 gx gy fl fc ll lc cx cy fa la r l :=
 { h with bw := h.bw.trans (hb.mono h.bw.size), h5 := h.h5.below hb h.h5.lt, h13 := h.h13.below hb h.h13.lt, ox := own_below h.ox hb, h14 := h.h14.below hb h.h14.lt, oy := own_below h.oy hb, h15 := h.h15.below hb h.h15.lt }
theorem M6.to {w w' : World} (h : M6 w0 w b5 b13 b14 b15 gx gy fl fc ll lc cx cy fa la r l) (hll : ll ≤ 5) {bs : Nat} (t : Turn (fun x => x = bs) w w') (hbs : bs = b14 ∨ bs = gy) (hy : Blk w' b14 27 (boxR y (some ⟨gy, 0, none⟩) fl cy la ll lc)) (oy : w'.ownsRow w0.heap.size 55 4 (.slice (some ⟨gy, 0, none⟩) fl cy) fl (y.fr.flatMap frI)) (hfl : y.fr.length = fl) (hlk : y.lk = r.lk) :
  ML w0 w' b5 b13 b14 b15 fl fc ll lc (ll + 1) cx cy fc ll lc fa la fa (some ⟨gx, 0, none⟩) (some ⟨gy, 0, none⟩) la r (withR r l) y ∧ Blk w' b15 27 (boxR r fa fl fc la ll lc) := by
 obtain ⟨cox, kx, hgx, -⟩ := own_blk h.ox
 obtain ⟨coy, ky, hgy, -⟩ := own_blk h.oy
 have hge : w0.heap.size ≤ bs := hbs.elim (fun e => by rw [e]; exact h.g14) (fun e => by rw [e]; exact hgy)
 have hb : Below w0.heap.size w0 w' := h.bw.trans (t.below h.bw.size (fun b e => by have e' : b = bs := e; omega))
 have P' : RvIn w' w'.heap.size fa fl la ll r := h.hP.grow hb
 have no : ∀ {g : Nat} {cs : Array Value}, Blk w g 27 cs → g ≠ b14 → g ≠ bs := fun hg hn => hbs.elim (fun e => by rw [e]; exact hn) (fun e => by rw [e]; exact blk_ne hg ky (by decide))
 have nx : gx ≠ bs := hbs.elim (fun e => by rw [e]; exact blk_ne kx h.h14 (by decide)) (fun e => by rw [e]; exact blk_ne kx ky (by decide))
 have far : ∀ {α : Type} {f : α → List Value} {sz : Nat} {A : Option Addr} {L : List α}, RdG f sz w0 w0.heap.size A L → L ≠ [] → Away A b15 := fun hr hne b off e => by
  obtain ⟨x0, hx0⟩ : ∃ x0, x0 ∈ _ := List.exists_mem_of_ne_nil _ hne
  obtain ⟨i, hi⟩ := List.getElem?_of_mem hx0
  obtain ⟨b', off', e', hlt, -⟩ := hr i x0 hi
  rw [e] at e'
  cases e'
  have := h.g15
  omega
 have hlen : y.fr.length = fl := hfl
 refine ⟨⟨hb, ⟨h.h5.turn t (no h.h5 h.m5), P'⟩, ⟨h.h13.turn t (no h.h13 h.m13), rv_with P' (own_turn h.ox t (fun g hg e => by cases hg; exact nx e)) (by omega)⟩, ⟨hy, ⟨hfl, by rw [hlk]; exact P'.ell, ?_, by rw [hlk]; exact P'.hlk, P'.mfl, P'.mll⟩⟩, h.g15, h.n5, h.n13, h.n14, far h.hP.hfr, far h.hP.hlk, far h.hP.hfr, fun _ b off e => by cases e; exact blk_ne kx h.h15 (by decide), fun _ b off e => by cases e; exact blk_ne ky h.h15 (by decide), by rw [hlk]; exact far h.hP.hlk⟩, h.h15.turn t (no h.h15 (Ne.symm h.n14))⟩
 rw [← hlen] at oy
 obtain ⟨A, cq, he, hrd, -⟩ := own_rd frI_len (by decide) oy
 injection he with e1 e2 e3
 rw [e1]
 exact hrd
set_option maxRecDepth 100000 in
set_option maxHeartbeats 6400000 in
theorem more8 {K : World} (hok : okR r = true) (hC : ML w0 K b5 b13 b14 b15 fl fc ll lc llx lcx cy fcx lly lcy fa la fx lx fy ly r x y) (hz : Blk K b15 27 (boxR r fa fl fc la ll lc)) (hd : d ≤ r.nat.days) (hn : n ≤ 200) (sx : okR x = true → SubT x.nat r.nat) (sy : okR y = true → SubT y.nat r.nat) :
  WM3 8 w0 (.pointer (some ⟨b5, 0, none⟩)) (.int .i64 d) (.int .i64 n) (.pointer (some ⟨b13, 0, none⟩)) (.pointer (some ⟨b14, 0, none⟩)) (.pointer (some ⟨b15, 0, none⟩)) K := by
 unfold WM3
 intros
 have H : Hid (∀ w', Turn (fun b => b = b15) K w' → Blk w' b15 27 #[.int .i64 r.depth.lo, .int .i64 r.depth.hi, .int .i64 r.fall.lo, .int .i64 r.fall.hi, .int .i64 r.days, .slice none 0 0, .slice none 0 0] → WM3 9 w0 (.pointer (some ⟨b5, 0, none⟩)) (.int .i64 d) (.int .i64 n) (.pointer (some ⟨b13, 0, none⟩)) (.pointer (some ⟨b14, 0, none⟩)) (.pointer (some ⟨b15, 0, none⟩)) w') := fun w' t hb => more9 hok (hC.turned (t.mono (fun b e => .inl e))) hb hd hn sx sy
 have HZ := Lib.hid hz
 have z5 := hz.frozen 5
 have z6 := hz.frozen 6
 have y5 := hz.cell 5
 have y6 := hz.cell 6
 simp [boxR] at y5 y6
 have zl := hz.lt
 clear hok hC hz hd hn sx sy
 conv => arg 2; whnf
 conv => arg 2; arg 2; change moreK 9
 go_wp2
 refine H.out _ ((Turn.set (S := fun b => b = b15) ⟨b15, 5, none⟩ _ (fun _ => rfl)).trans (Turn.set (S := fun b => b = b15) ⟨b15, 6, none⟩ _ (fun _ => rfl))) ?_ _ _ _ _ _ _ _ _ _ _ _ _ _ _ _ _ _ _ _ _ _ _ _ _ _ _ _ _ _ _ _ _ _ _ _ _ _ _ _ _ _ _ _ _ _ _ _ _ _ _ _ _ _ _ _ _ _ _ _ _ _ _ _ _ _ _ _ _ _ _ _ _ _ _ _ _ _ _ _ _ _ _ _ _ _ _ _ _ _ _ _ _ _ _ _ _ _ _ _ _ _ _ _ _ _ _ _ _ _ _ _ _ _ _ _ _ _ _ _ _ _ _ _ _ _ _ _ _ _ _ _ _ _ _ _ _ _ _ _ _ _ _ _ _ _ _ _ _ _ _ _ _ _ _ _ _ _ _ _ _ _ _ _ _ _ _ _ _ _ _ _ _ _ _ _ _ _ _ _ _ _ _ _ _ _ _ _ _ _ _ _ _ _ _ _ _ _ _ _ _ _ _ _ _ _ _ _ _ _ _ _ _ _ _ _ _ _ _ _ _ _ _ _ _ _ _ _ _ _ _ _ _ _ _ _ _ _ _ _ _ _ _ _ _ _ _ _ _ _ _ _ _ _ _ _ _ _ _ _ _ _ _ _ _ _ _ _ _ _ _ _ _ _ _ _ _ _ _ _ _ _ _ _ _ _ _ _ _ _ _ _ _ _ _ _ _ _ _ _ _ _ _ _ _ _ _ _ _ _ _ _ _ _ _ _ _ _ _ _ _ _ _ _ _ _ _ _ _ _ _ _ _ _ _ _ _ _ _ _ _ _ _ _ _ _ _ _ _ _ _ _ _ _ _ _ _ _ _ _ _ _ _ _ _ _ _ _ _ _ _ _ _ _ _ _ _ _ _ _ _ _ _ _ _ _ _ _ _ _ _ _ _ _ _ _ _ _ _ _ _ _ _ _ _ _ _ _ _ _
 have h := (HZ.out.set_ 5 (.slice none 0 0)).set_ 6 (.slice none 0 0)
 simpa [boxR] using h
set_option maxRecDepth 100000 in
set_option maxHeartbeats 6400000 in
theorem more7 {K : World} {bs so : Nat} {lo hi m : Int} (h0 : K.cell? ⟨bs, so, none⟩ = some (.int .i64 lo)) (h1 : K.cell? ⟨bs, so + 1, none⟩ = some (.int .i64 hi)) (hf : K.frozen? ⟨bs, so, none⟩ = false) (hl : bs < K.heap.size) (b0 : 0 ≤ lo) (b1 : lo ≤ 100) (hm : min hi (lo + 1) = m)
  (H : ∀ wd, Below K.heap.size K wd → WM3 8 w0 (.pointer (some ⟨b5, 0, none⟩)) (.int .i64 d) (.int .i64 n) (.pointer (some ⟨b13, 0, none⟩)) (.pointer (some ⟨b14, 0, none⟩)) (.pointer (some ⟨b15, 0, none⟩)) (wd.setCell ⟨bs, so, none⟩ (.int .i64 m))) :
  WM4 7 w0 (.pointer (some ⟨b5, 0, none⟩)) (.int .i64 d) (.int .i64 n) (.pointer (some ⟨b13, 0, none⟩)) (.pointer (some ⟨b14, 0, none⟩)) (.pointer (some ⟨b15, 0, none⟩)) (.pointer (some ⟨bs, so, none⟩)) K := by
 unfold WM4
 intros
 have HH := Lib.hid H
 have hm1 : ∀ w, (Builtin.min_ #[3, 3] 3 #[.int .i64 hi, .int .i64 (lo + 1)]).run Try.prog w = .ok (.int .i64 m) w := fun w => by rw [min_run, hm]
 have hw : IntKind.i64.wrap (lo + 1) = lo + 1 := IntWalk.i64_in _ (by omega)
 clear H hm
 conv => arg 2; whnf
 conv => arg 2; arg 2; change moreK 8
 go_upto_region 14 with (fail)
 refine wp_region_havoc [(0,false),(1,false),(2,false),(3,false),(4,false),(5,false),(6,false),(7,false),(8,false),(9,false),(10,false),(11,false),(12,false)] [13] (fun _ _ => False) (by kernel_rfl) (by kernel_rfl) (fun _ _ _ _ h => h.elim) ?_
 (apply hav_same (by simp only [List.getElem?_toArray, List.getElem?_cons_zero]; rfl) (by kernel_rfl); (focus (intro wv hgv _; have hcv : ∀ b o, b < _ → wv.cell? ⟨b, o, none⟩ = _ := fun b o hb => Below.cell hgv (p := ⟨b, o, none⟩) hb; (try go_simp); try rfl; done)); simp only [Act.put, List.setIfInBounds_toArray, List.set_cons_succ, List.set_cons_zero])
 iterate 12 (apply hav_same (by simp only [List.getElem?_toArray, List.getElem?_cons_succ, List.getElem?_cons_zero]; rfl) (by kernel_rfl); (focus (intro wv hgv _; have hcv : ∀ b o, b < _ → wv.cell? ⟨b, o, none⟩ = _ := fun b o hb => Below.cell hgv (p := ⟨b, o, none⟩) hb; (try go_simp); try rfl; done)); simp only [Act.put, List.setIfInBounds_toArray, List.set_cons_succ, List.set_cons_zero])
 refine hav_end (fun w5 hgw5 hF => ?_); simp only [List.filterMap]; have hcw5 : ∀ b o, b < _ → w5.cell? ⟨b, o, none⟩ = _ := fun b o hb => Below.cell hgw5 (p := ⟨b, o, none⟩) hb; have hfw5 : ∀ b o, b < _ → w5.frozen? ⟨b, o, none⟩ = _ := fun b o hb => Below.frozen hgw5 (p := ⟨b, o, none⟩) hb; have hzw5 := Below.size hgw5; (try simp at hzw5)
 clear h1 b0 b1 hm1 hw
 go_wp2
 exact HH.out w5 hgw5 _ _ _ _ _ _ _ _ _ _ _ _ _ _ _ _ _ _ _ _ _ _ _ _ _ _ _ _ _ _ _ _ _ _ _ _ _ _ _ _ _ _ _ _ _ _ _ _ _ _ _ _ _ _ _ _ _ _ _ _ _ _ _ _ _ _ _ _ _ _ _ _ _ _ _ _ _ _ _ _ _ _ _ _ _ _ _ _ _ _ _ _ _ _ _ _ _ _ _ _ _ _ _ _ _ _ _ _ _ _ _ _ _ _ _ _ _ _ _ _ _ _ _ _ _ _ _ _ _ _ _ _ _ _ _ _ _ _ _ _ _ _ _ _ _ _ _ _ _ _ _ _ _ _ _ _ _ _ _ _ _ _ _ _ _ _ _ _ _ _ _ _ _ _ _ _ _ _ _ _ _ _ _ _ _ _ _ _ _ _ _ _ _ _ _ _ _ _ _ _ _ _ _ _ _ _ _ _ _ _ _ _ _ _ _ _ _ _ _ _ _ _ _ _ _ _ _ _ _ _ _ _ _ _ _ _ _ _ _ _ _ _ _ _ _ _ _ _ _ _ _ _ _ _ _ _ _ _ _ _ _ _ _ _ _ _ _ _ _ _ _ _ _ _ _ _ _ _ _ _ _ _ _ _ _ _ _ _ _ _ _ _ _ _ _ _ _ _ _ _ _ _ _ _ _ _ _ _ _ _ _ _ _ _ _ _ _ _ _ _ _ _ _ _ _ _ _ _ _ _ _ _ _ _ _ _ _ _ _ _ _ _ _ _ _ _ _ _ _ _ _ _ _ _ _ _ _ _ _ _ _ _ _ _ _ _ _ _ _ _ _ _ _ _ _ _ _ _ _ _ _ _ _ _ _ _ _ _ _ _ _ _ _ _ _ _ _ _ _ _ _ _ _ _ _ _ _ _ _
set_option maxRecDepth 100000 in
theorem more78 {K : World} (hok : okR r = true) (hM : M6 w0 K b5 b13 b14 b15 gx gy fl fc ll lc cx cy fa la r l) (hd : d ≤ r.nat.days) (hn : n ≤ 200) {bs so : Nat} {lo hi m : Int} (hbs : bs = b14 ∨ bs = gy) (h0 : K.cell? ⟨bs, so, none⟩ = some (.int .i64 lo)) (h1 : K.cell? ⟨bs, so + 1, none⟩ = some (.int .i64 hi)) (hf : K.frozen? ⟨bs, so, none⟩ = false) (hl : bs < K.heap.size) (b0 : 0 ≤ lo) (b1 : lo ≤ 100) (hm : min hi (lo + 1) = m)
  (hy : ∀ w, Blk w b14 27 (boxR r (some ⟨gy, 0, none⟩) fl cy la ll lc) → b14 ≠ gy → w.ownsRow w0.heap.size 55 4 (.slice (some ⟨gy, 0, none⟩) fl cy) fl (r.fr.flatMap frI) → Blk (w.setCell ⟨bs, so, none⟩ (.int .i64 m)) b14 27 (boxR y (some ⟨gy, 0, none⟩) fl cy la ll lc) ∧ (w.setCell ⟨bs, so, none⟩ (.int .i64 m)).ownsRow w0.heap.size 55 4 (.slice (some ⟨gy, 0, none⟩) fl cy) fl (y.fr.flatMap frI))
  (hfl : y.fr.length = fl) (hlk : y.lk = r.lk) (sy : okR y = true → SubT y.nat r.nat) :
  WM4 7 w0 (.pointer (some ⟨b5, 0, none⟩)) (.int .i64 d) (.int .i64 n) (.pointer (some ⟨b13, 0, none⟩)) (.pointer (some ⟨b14, 0, none⟩)) (.pointer (some ⟨b15, 0, none⟩)) (.pointer (some ⟨bs, so, none⟩)) K := by
 unfold WM4
 intros
 refine more7 h0 h1 hf hl b0 b1 hm (fun wd hwd => ?_) _ _ _ _ _ _ _ _ _ _ _ _ _ _ _ _ _ _ _ _ _ _ _ _ _ _ _ _ _ _ _ _ _ _ _ _ _ _ _ _ _ _ _ _ _ _ _ _ _ _ _ _ _ _ _ _ _ _ _ _ _ _ _ _ _ _ _ _ _ _ _ _ _ _ _ _ _ _ _ _ _ _ _ _ _ _ _ _ _ _ _ _ _ _ _ _ _ _ _ _ _ _ _ _ _ _ _ _ _ _ _ _ _ _ _ _ _ _ _ _ _ _ _ _ _ _ _ _ _ _ _ _ _ _ _ _ _ _ _ _ _ _ _ _ _ _ _ _ _ _ _ _ _ _ _ _ _ _ _ _ _ _ _ _ _ _ _ _ _ _ _ _ _ _ _ _ _ _ _ _ _ _ _ _ _ _ _ _ _ _ _ _ _ _ _ _ _ _ _ _ _ _ _ _ _ _ _ _ _ _ _ _ _ _ _ _ _ _ _ _ _ _ _ _ _ _ _ _ _ _ _ _ _ _ _ _ _ _ _ _ _ _ _ _ _ _ _ _ _ _ _ _ _ _ _ _ _ _ _ _ _ _ _ _ _ _ _ _ _ _ _ _ _ _ _ _ _ _ _ _ _ _ _ _ _ _ _ _ _ _ _ _ _ _ _ _ _ _ _ _ _ _ _ _ _ _ _ _ _ _ _ _ _ _ _ _ _ _ _ _ _ _ _ _ _ _ _ _ _ _ _ _ _ _ _ _ _ _ _ _ _ _ _ _ _ _ _ _ _ _ _ _ _ _ _ _ _ _ _ _ _ _ _ _ _ _ _ _ _ _ _ _ _ _ _ _ _ _ _ _ _ _ _ _ _ _ _ _ _ _ _ _ _ _ _ _ _ _ _ _ _ _ _ _ _ _ _ _
 have hll : ll ≤ 5 := by rw [← hM.hP.ell]; exact (okR_pts hok).1.2.2.2.2
 obtain ⟨coy, ky, -⟩ := own_blk hM.oy
 obtain ⟨e1, e2⟩ := hy wd (hM.h14.below hwd hM.h14.lt) (blk_ne hM.h14 ky (by decide)) (own_below hM.oy hwd)
 have t : Turn (fun x => x = bs) K (wd.setCell ⟨bs, so, none⟩ (.int .i64 m)) := (Turn.of_below hwd).trans (Turn.set (S := fun x => x = bs) ⟨bs, so, none⟩ _ (fun _ => rfl))
 obtain ⟨m1, m2⟩ := hM.to hll t hbs e1 e2 hfl hlk
 exact more8 hok m1 m2 hd hn (with_sub hok) sy
set_option maxRecDepth 100000 in
theorem more7d {K : World} (hok : okR r = true) (hM : M6 w0 K b5 b13 b14 b15 gx gy fl fc ll lc cx cy fa la r l) (hd : d ≤ r.nat.days) (hn : n ≤ 200) :
  WM4 7 w0 (.pointer (some ⟨b5, 0, none⟩)) (.int .i64 d) (.int .i64 n) (.pointer (some ⟨b13, 0, none⟩)) (.pointer (some ⟨b14, 0, none⟩)) (.pointer (some ⟨b15, 0, none⟩)) (.pointer (some ⟨b14, 0, none⟩)) K := by
 unfold WM4
 intros
 obtain ⟨a1, a2, a3, a4, a5, a6, -⟩ := okR_sp hok
 refine more78 (y := { r with depth := ⟨min r.depth.hi (r.depth.lo + 1), r.depth.hi⟩ }) hok hM hd hn (.inl rfl) (lo := r.depth.lo) (hi := r.depth.hi) (hM.h14.cell 0) (hM.h14.cell 1) (hM.h14.frozen 0) hM.h14.lt a1 (by omega) rfl (fun w hb hne ho => ⟨hb.set_ 0 (.int .i64 (min r.depth.hi (r.depth.lo + 1))), own_turn ho (Turn.set (S := fun x => x = b14) ⟨b14, 0, none⟩ _ (fun _ => rfl)) (fun g hg e => by cases hg; exact hne (Eq.symm e))⟩) hM.hP.efl rfl (fun hq => sub_of hok hq (by show _ ≤ min r.depth.hi (r.depth.lo + 1); omega) rfl (Int.le_refl _) rfl rfl rfl rfl (fun i f hf => ⟨f, hf, Int.le_refl _, rfl, Int.le_refl _, rfl⟩)) _ _ _ _ _ _ _ _ _ _ _ _ _ _ _ _ _ _ _ _ _ _ _ _ _ _ _ _ _ _ _ _ _ _ _ _ _ _ _ _ _ _ _ _ _ _ _ _ _ _ _ _ _ _ _ _ _ _ _ _ _ _ _ _ _ _ _ _ _ _ _ _ _ _ _ _ _ _ _ _ _ _ _ _ _ _ _ _ _ _ _ _ _ _ _ _ _ _ _ _ _ _ _ _ _ _ _ _ _ _ _ _ _ _ _ _ _ _ _ _ _ _ _ _ _ _ _ _ _ _ _ _ _ _ _ _ _ _ _ _ _ _ _ _ _ _ _ _ _ _ _ _ _ _ _ _ _ _ _ _ _ _ _ _ _ _ _ _ _ _ _ _ _ _ _ _ _ _ _ _ _ _ _ _ _ _ _ _ _ _ _ _ _ _ _ _ _ _ _ _ _ _ _ _ _ _ _ _ _ _ _ _ _ _ _ _ _ _ _ _ _ _ _ _ _ _ _ _ _ _ _ _ _ _ _ _ _ _ _ _ _ _ _ _ _ _ _ _ _ _ _ _ _ _ _ _ _ _ _ _ _ _ _ _ _ _ _ _ _ _ _ _ _ _ _ _ _ _ _ _ _ _ _ _ _ _ _ _ _ _ _ _ _ _ _ _ _ _ _ _ _ _ _ _ _ _ _ _ _ _ _ _ _ _ _ _ _ _ _ _ _ _ _ _ _ _ _ _ _ _ _ _ _ _ _ _ _ _ _ _ _ _ _ _ _ _ _ _ _ _ _ _ _ _ _ _ _ _ _ _ _ _ _ _ _ _ _ _ _ _ _ _ _ _ _ _ _ _ _ _ _ _ _ _ _ _ _ _ _ _ _ _ _ _ _ _ _ _ _ _ _ _ _ _ _ _ _ _
set_option maxRecDepth 100000 in
theorem more7f {K : World} (hok : okR r = true) (hM : M6 w0 K b5 b13 b14 b15 gx gy fl fc ll lc cx cy fa la r l) (hd : d ≤ r.nat.days) (hn : n ≤ 200) :
  WM4 7 w0 (.pointer (some ⟨b5, 0, none⟩)) (.int .i64 d) (.int .i64 n) (.pointer (some ⟨b13, 0, none⟩)) (.pointer (some ⟨b14, 0, none⟩)) (.pointer (some ⟨b15, 0, none⟩)) (.pointer (some ⟨b14, 2, none⟩)) K := by
 unfold WM4
 intros
 obtain ⟨a1, a2, a3, a4, a5, a6, -⟩ := okR_sp hok
 refine more78 (y := { r with fall := ⟨min r.fall.hi (r.fall.lo + 1), r.fall.hi⟩ }) hok hM hd hn (.inl rfl) (lo := r.fall.lo) (hi := r.fall.hi) (hM.h14.cell 2) (hM.h14.cell 3) (hM.h14.frozen 2) hM.h14.lt a4 (by omega) rfl (fun w hb hne ho => ⟨hb.set_ 2 (.int .i64 (min r.fall.hi (r.fall.lo + 1))), own_turn ho (Turn.set (S := fun x => x = b14) ⟨b14, 2, none⟩ _ (fun _ => rfl)) (fun g hg e => by cases hg; exact hne (Eq.symm e))⟩) hM.hP.efl rfl (fun hq => sub_of hok hq (Int.le_refl _) rfl (by show _ ≤ min r.fall.hi (r.fall.lo + 1); omega) rfl rfl rfl rfl (fun i f hf => ⟨f, hf, Int.le_refl _, rfl, Int.le_refl _, rfl⟩)) _ _ _ _ _ _ _ _ _ _ _ _ _ _ _ _ _ _ _ _ _ _ _ _ _ _ _ _ _ _ _ _ _ _ _ _ _ _ _ _ _ _ _ _ _ _ _ _ _ _ _ _ _ _ _ _ _ _ _ _ _ _ _ _ _ _ _ _ _ _ _ _ _ _ _ _ _ _ _ _ _ _ _ _ _ _ _ _ _ _ _ _ _ _ _ _ _ _ _ _ _ _ _ _ _ _ _ _ _ _ _ _ _ _ _ _ _ _ _ _ _ _ _ _ _ _ _ _ _ _ _ _ _ _ _ _ _ _ _ _ _ _ _ _ _ _ _ _ _ _ _ _ _ _ _ _ _ _ _ _ _ _ _ _ _ _ _ _ _ _ _ _ _ _ _ _ _ _ _ _ _ _ _ _ _ _ _ _ _ _ _ _ _ _ _ _ _ _ _ _ _ _ _ _ _ _ _ _ _ _ _ _ _ _ _ _ _ _ _ _ _ _ _ _ _ _ _ _ _ _ _ _ _ _ _ _ _ _ _ _ _ _ _ _ _ _ _ _ _ _ _ _ _ _ _ _ _ _ _ _ _ _ _ _ _ _ _ _ _ _ _ _ _ _ _ _ _ _ _ _ _ _ _ _ _ _ _ _ _ _ _ _ _ _ _ _ _ _ _ _ _ _ _ _ _ _ _ _ _ _ _ _ _ _ _ _ _ _ _ _ _ _ _ _ _ _ _ _ _ _ _ _ _ _ _ _ _ _ _ _ _ _ _ _ _ _ _ _ _ _ _ _ _ _ _ _ _ _ _ _ _ _ _ _ _ _ _ _ _ _ _ _ _ _ _ _ _ _ _ _ _ _ _ _ _ _ _ _ _ _ _ _ _ _ _ _ _ _ _ _ _ _ _ _ _ _ _ _
/-- One fresh is known better. -/
theorem set_sub {k : Nat} {f0 f1 : IFr} (hok : okR r = true) (hf : r.fr[k]? = some f0) (h : f0.days.lo ≤ f1.days.lo ∧ f1.days.hi = f0.days.hi ∧ f0.rise.lo ≤ f1.rise.lo ∧ f1.rise.hi = f0.rise.hi) (hq : okR { r with fr := r.fr.set k f1 } = true) : SubT (IRiv.nat { r with fr := r.fr.set k f1 }) r.nat :=
 sub_of hok hq (Int.le_refl _) rfl (Int.le_refl _) rfl rfl rfl (by simp) (fun i f hi => by
  have hk : k < r.fr.length := (List.getElem?_eq_some_iff.1 hf).1
  by_cases e : k = i
  ·subst e
   rw [hf] at hi
   injection hi with hi
   subst hi
   exact ⟨f1, by show (r.fr.set k f1)[k]? = _; rw [List.getElem?_set_self hk], h⟩
  ·exact ⟨f, by show (r.fr.set k f1)[i]? = _; rw [List.getElem?_set_ne e]; exact hi, Int.le_refl _, rfl, Int.le_refl _, rfl⟩)
set_option maxRecDepth 100000 in
theorem more7y {K : World} (hok : okR r = true) (hM : M6 w0 K b5 b13 b14 b15 gx gy fl fc ll lc cx cy fa la r l) (hd : d ≤ r.nat.days) (hn : n ≤ 200) {k : Nat} {f0 : IFr} (hf : r.fr[k]? = some f0) :
  WM4 7 w0 (.pointer (some ⟨b5, 0, none⟩)) (.int .i64 d) (.int .i64 n) (.pointer (some ⟨b13, 0, none⟩)) (.pointer (some ⟨b14, 0, none⟩)) (.pointer (some ⟨b15, 0, none⟩)) (.pointer (some ⟨gy, k * 4, none⟩)) K := by
 unfold WM4
 intros
 have hk : k < r.fr.length := (List.getElem?_eq_some_iff.1 hf).1
 obtain ⟨-, u1, u2, u3, u4, u5⟩ := up_ok hok hf (m := 0) (by omega)
 obtain ⟨⟨-, -, hdy, -, -⟩, h6, -⟩ := okR_pts hok
 have hfr := List.all_eq_true.1 h6 f0 (List.mem_of_getElem? hf)
 unfold frB at hfr
 rw [Bool.and_eq_true] at hfr
 have hdh := (spB_iff.1 hfr.1).2.2.1
 have hdy2 := inB_iff.1 hdy
 obtain ⟨cur, hcur, -⟩ := own_blk hM.oy
 refine more78 (y := { r with fr := r.fr.set k ⟨⟨min f0.days.hi (f0.days.lo + 1), f0.days.hi⟩, f0.rise⟩ }) (so := k * 4 + 0) hok hM hd hn (.inr rfl) (lo := f0.days.lo) (hi := f0.days.hi) (own_at hM.oy (k * 4 + 0) _ (by rw [flat_get frI 4 frI_len _ _ _ (by omega), hf]; rfl)) (own_at hM.oy (k * 4 + 0 + 1) _ (by rw [Nat.add_assoc, flat_get frI 4 frI_len _ _ _ (by omega), hf]; rfl)) (hcur.frozen _) hcur.lt (by omega) (by omega) rfl (fun w hb hne ho => ⟨hb.turn (Turn.set (S := fun x => x = gy) ⟨gy, k * 4 + 0, none⟩ _ (fun _ => rfl)) hne, ?_⟩) (by show (r.fr.set k _).length = fl; rw [List.length_set]; exact hM.hP.efl) rfl (set_sub hok hf ⟨by show _ ≤ min f0.days.hi (f0.days.lo + 1); omega, rfl, by show _ ≤ f0.rise.lo; omega, rfl⟩) _ _ _ _ _ _ _ _ _ _ _ _ _ _ _ _ _ _ _ _ _ _ _ _ _ _ _ _ _ _ _ _ _ _ _ _ _ _ _ _ _ _ _ _ _ _ _ _ _ _ _ _ _ _ _ _ _ _ _ _ _ _ _ _ _ _ _ _ _ _ _ _ _ _ _ _ _ _ _ _ _ _ _ _ _ _ _ _ _ _ _ _ _ _ _ _ _ _ _ _ _ _ _ _ _ _ _ _ _ _ _ _ _ _ _ _ _ _ _ _ _ _ _ _ _ _ _ _ _ _ _ _ _ _ _ _ _ _ _ _ _ _ _ _ _ _ _ _ _ _ _ _ _ _ _ _ _ _ _ _ _ _ _ _ _ _ _ _ _ _ _ _ _ _ _ _ _ _ _ _ _ _ _ _ _ _ _ _ _ _ _ _ _ _ _ _ _ _ _ _ _ _ _ _ _ _ _ _ _ _ _ _ _ _ _ _ _ _ _ _ _ _ _ _ _ _ _ _ _ _ _ _ _ _ _ _ _ _ _ _ _ _ _ _ _ _ _ _ _ _ _ _ _ _ _ _ _ _ _ _ _ _ _ _ _ _ _ _ _ _ _ _ _ _ _ _ _ _ _ _ _ _ _ _ _ _ _ _ _ _ _ _ _ _ _ _ _ _ _ _ _ _ _ _ _ _ _ _ _ _ _ _ _ _ _ _ _ _ _ _ _ _ _ _ _ _ _ _ _ _ _ _ _ _ _ _ _ _ _ _ _ _ _ _ _ _ _ _ _ _ _ _ _ _ _ _ _ _ _ _ _ _ _ _ _ _ _ _ _ _ _ _ _ _ _ _ _ _ _ _ _ _ _ _ _ _ _ _ _ _ _ _ _ _ _ _ _ _ _ _ _ _ _ _ _ _ _ _
 have h := own_set ho (k * 4 + 0) (.int .i64 (min f0.days.hi (f0.days.lo + 1)))
 rw [flat_set frI_len (i := 0) (x := f0) (x' := ⟨⟨min f0.days.hi (f0.days.lo + 1), f0.days.hi⟩, f0.rise⟩) (by omega) hf rfl] at h
 exact h
set_option maxRecDepth 100000 in
theorem more7r {K : World} (hok : okR r = true) (hM : M6 w0 K b5 b13 b14 b15 gx gy fl fc ll lc cx cy fa la r l) (hd : d ≤ r.nat.days) (hn : n ≤ 200) {k : Nat} {f0 : IFr} (hf : r.fr[k]? = some f0) :
  WM4 7 w0 (.pointer (some ⟨b5, 0, none⟩)) (.int .i64 d) (.int .i64 n) (.pointer (some ⟨b13, 0, none⟩)) (.pointer (some ⟨b14, 0, none⟩)) (.pointer (some ⟨b15, 0, none⟩)) (.pointer (some ⟨gy, k * 4 + 2, none⟩)) K := by
 unfold WM4
 intros
 have hk : k < r.fr.length := (List.getElem?_eq_some_iff.1 hf).1
 obtain ⟨-, u1, u2, u3, u4, u5⟩ := up_ok hok hf (m := 0) (by omega)
 obtain ⟨⟨-, -, hdy, -, -⟩, h6, -⟩ := okR_pts hok
 have hfr := List.all_eq_true.1 h6 f0 (List.mem_of_getElem? hf)
 unfold frB at hfr
 rw [Bool.and_eq_true] at hfr
 have hdh := (spB_iff.1 hfr.1).2.2.1
 have hdy2 := inB_iff.1 hdy
 obtain ⟨cur, hcur, -⟩ := own_blk hM.oy
 refine more78 (y := { r with fr := r.fr.set k ⟨f0.days, ⟨min f0.rise.hi (f0.rise.lo + 1), f0.rise.hi⟩⟩ }) (so := k * 4 + 2) hok hM hd hn (.inr rfl) (lo := f0.rise.lo) (hi := f0.rise.hi) (own_at hM.oy (k * 4 + 2) _ (by rw [flat_get frI 4 frI_len _ _ _ (by omega), hf]; rfl)) (own_at hM.oy (k * 4 + 2 + 1) _ (by rw [Nat.add_assoc, flat_get frI 4 frI_len _ _ _ (by omega), hf]; rfl)) (hcur.frozen _) hcur.lt (by omega) (by omega) rfl (fun w hb hne ho => ⟨hb.turn (Turn.set (S := fun x => x = gy) ⟨gy, k * 4 + 2, none⟩ _ (fun _ => rfl)) hne, ?_⟩) (by show (r.fr.set k _).length = fl; rw [List.length_set]; exact hM.hP.efl) rfl (set_sub hok hf ⟨by show _ ≤ f0.days.lo; omega, rfl, by show _ ≤ min f0.rise.hi (f0.rise.lo + 1); omega, rfl⟩) _ _ _ _ _ _ _ _ _ _ _ _ _ _ _ _ _ _ _ _ _ _ _ _ _ _ _ _ _ _ _ _ _ _ _ _ _ _ _ _ _ _ _ _ _ _ _ _ _ _ _ _ _ _ _ _ _ _ _ _ _ _ _ _ _ _ _ _ _ _ _ _ _ _ _ _ _ _ _ _ _ _ _ _ _ _ _ _ _ _ _ _ _ _ _ _ _ _ _ _ _ _ _ _ _ _ _ _ _ _ _ _ _ _ _ _ _ _ _ _ _ _ _ _ _ _ _ _ _ _ _ _ _ _ _ _ _ _ _ _ _ _ _ _ _ _ _ _ _ _ _ _ _ _ _ _ _ _ _ _ _ _ _ _ _ _ _ _ _ _ _ _ _ _ _ _ _ _ _ _ _ _ _ _ _ _ _ _ _ _ _ _ _ _ _ _ _ _ _ _ _ _ _ _ _ _ _ _ _ _ _ _ _ _ _ _ _ _ _ _ _ _ _ _ _ _ _ _ _ _ _ _ _ _ _ _ _ _ _ _ _ _ _ _ _ _ _ _ _ _ _ _ _ _ _ _ _ _ _ _ _ _ _ _ _ _ _ _ _ _ _ _ _ _ _ _ _ _ _ _ _ _ _ _ _ _ _ _ _ _ _ _ _ _ _ _ _ _ _ _ _ _ _ _ _ _ _ _ _ _ _ _ _ _ _ _ _ _ _ _ _ _ _ _ _ _ _ _ _ _ _ _ _ _ _ _ _ _ _ _ _ _ _ _ _ _ _ _ _ _ _ _ _ _ _ _ _ _ _ _ _ _ _ _ _ _ _ _ _ _ _ _ _ _ _ _ _ _ _ _ _ _ _ _ _ _ _ _ _ _ _ _ _ _ _ _ _ _ _ _ _ _ _ _ _ _ _ _
 have h := own_set ho (k * 4 + 2) (.int .i64 (min f0.rise.hi (f0.rise.lo + 1)))
 rw [flat_set frI_len (i := 2) (x := f0) (x' := ⟨f0.days, ⟨min f0.rise.hi (f0.rise.lo + 1), f0.rise.hi⟩⟩) (by omega) hf rfl] at h
 exact h
set_option maxRecDepth 100000 in
set_option maxHeartbeats 6400000 in
theorem more6 {K : World} (hok : okR r = true) (hM : M6 w0 K b5 b13 b14 b15 gx gy fl fc ll lc cx cy fa la r l) (hd : d ≤ r.nat.days) (hn : n ≤ 200) {which : Nat} (hwh : which ≤ 255) :
  WM5 6 w0 (.int .u8 which) (.pointer (some ⟨b5, 0, none⟩)) (.int .i64 d) (.int .i64 n) (.pointer (some ⟨b13, 0, none⟩)) (.pointer (some ⟨b14, 0, none⟩)) (.pointer (some ⟨b15, 0, none⟩)) (.pointer (some ⟨b14, 0, none⟩)) K := by
 unfold WM5
 intros
 have x5 := hM.h5.cell 5
 have xl := hM.h5.lt
 simp [boxR] at x5
 conv => arg 2; whnf
 conv => arg 2; arg 2; change moreK 7
 obtain ⟨wm, hwm⟩ : ∃ wm, wm = which % 4 := ⟨_, rfl⟩
 have tm : (which : Int).tmod 4 = (wm : Int) := by rw [Int.tmod_eq_emod_of_nonneg (by omega), hwm]; exact (Int.natCast_emod _ _).symm
 have hw4 : wm < 4 := by omega
 clear hwm
 match wm, hw4 with
 | 0, _ =>
  have H0 : Hid (WM4 7 w0 (.pointer (some ⟨b5, 0, none⟩)) (.int .i64 d) (.int .i64 n) (.pointer (some ⟨b13, 0, none⟩)) (.pointer (some ⟨b14, 0, none⟩)) (.pointer (some ⟨b15, 0, none⟩)) (.pointer (some ⟨b14, 0, none⟩)) K) := more7d hok hM hd hn
  clear hok hM hd hn
  go_wp2
  exact H0.out _ _ _ _ _ _ _ _ _ _ _ _ _ _ _ _ _ _ _ _ _ _ _ _ _ _ _ _ _ _ _ _ _ _ _ _ _ _ _ _ _ _ _ _ _ _ _ _ _ _ _ _ _ _ _ _ _ _ _ _ _ _ _ _ _ _ _ _ _ _ _ _ _ _ _ _ _ _ _ _ _ _ _ _ _ _ _ _ _ _ _ _ _ _ _ _ _ _ _ _ _ _ _ _ _ _ _ _ _ _ _ _ _ _ _ _ _ _ _ _ _ _ _ _ _ _ _ _ _ _ _ _ _ _ _ _ _ _ _ _ _ _ _ _ _ _ _ _ _ _ _ _ _ _ _ _ _ _ _ _ _ _ _ _ _ _ _ _ _ _ _ _ _ _ _ _ _ _ _ _ _ _ _ _ _ _ _ _ _ _ _ _ _ _ _ _ _ _ _ _ _ _ _ _ _ _ _ _ _ _ _ _ _ _ _ _ _ _ _ _ _ _ _ _ _ _ _ _ _ _ _ _ _ _ _ _ _ _ _ _ _ _ _ _ _ _ _ _ _ _ _ _ _ _ _ _ _ _ _ _ _ _ _ _ _ _ _ _ _ _ _ _ _ _ _ _ _ _ _ _ _ _ _ _ _ _ _ _ _ _ _ _ _ _ _ _ _ _ _ _ _ _ _ _ _ _ _ _ _ _ _ _ _ _ _ _ _ _ _ _ _ _ _ _ _ _ _ _ _ _ _ _ _ _ _ _ _ _ _ _ _ _ _ _ _ _ _ _ _ _ _ _ _ _ _ _ _ _ _ _ _ _ _ _ _ _ _ _ _ _ _ _ _ _ _ _ _ _ _ _ _ _ _ _ _ _ _ _ _ _ _ _ _ _ _ _ _ _ _ _ _ _ _ _ _ _ _ _
 | 1, _ =>
  have H0 : Hid (WM4 7 w0 (.pointer (some ⟨b5, 0, none⟩)) (.int .i64 d) (.int .i64 n) (.pointer (some ⟨b13, 0, none⟩)) (.pointer (some ⟨b14, 0, none⟩)) (.pointer (some ⟨b15, 0, none⟩)) (.pointer (some ⟨b14, 2, none⟩)) K) := more7f hok hM hd hn
  clear hok hM hd hn
  go_wp2
  exact H0.out _ _ _ _ _ _ _ _ _ _ _ _ _ _ _ _ _ _ _ _ _ _ _ _ _ _ _ _ _ _ _ _ _ _ _ _ _ _ _ _ _ _ _ _ _ _ _ _ _ _ _ _ _ _ _ _ _ _ _ _ _ _ _ _ _ _ _ _ _ _ _ _ _ _ _ _ _ _ _ _ _ _ _ _ _ _ _ _ _ _ _ _ _ _ _ _ _ _ _ _ _ _ _ _ _ _ _ _ _ _ _ _ _ _ _ _ _ _ _ _ _ _ _ _ _ _ _ _ _ _ _ _ _ _ _ _ _ _ _ _ _ _ _ _ _ _ _ _ _ _ _ _ _ _ _ _ _ _ _ _ _ _ _ _ _ _ _ _ _ _ _ _ _ _ _ _ _ _ _ _ _ _ _ _ _ _ _ _ _ _ _ _ _ _ _ _ _ _ _ _ _ _ _ _ _ _ _ _ _ _ _ _ _ _ _ _ _ _ _ _ _ _ _ _ _ _ _ _ _ _ _ _ _ _ _ _ _ _ _ _ _ _ _ _ _ _ _ _ _ _ _ _ _ _ _ _ _ _ _ _ _ _ _ _ _ _ _ _ _ _ _ _ _ _ _ _ _ _ _ _ _ _ _ _ _ _ _ _ _ _ _ _ _ _ _ _ _ _ _ _ _ _ _ _ _ _ _ _ _ _ _ _ _ _ _ _ _ _ _ _ _ _ _ _ _ _ _ _ _ _ _ _ _ _ _ _ _ _ _ _ _ _ _ _ _ _ _ _ _ _ _ _ _ _ _ _ _ _ _ _ _ _ _ _ _ _ _ _ _ _ _ _ _ _ _ _ _ _ _ _ _ _ _ _ _ _ _ _ _ _ _ _ _ _ _ _ _ _ _ _ _ _ _ _ _ _ _ _
 | 2, _ =>
  by_cases h0 : 0 < fl
  ·obtain ⟨kk, hke⟩ : ∃ kk, kk = which % fl := ⟨_, rfl⟩
   have hkl : kk < fl := by rw [hke]; exact Nat.mod_lt _ h0
   obtain ⟨f0, hf0⟩ : ∃ f, r.fr[kk]? = some f := ⟨r.fr[kk]'(by rw [hM.hP.efl]; exact hkl), by simp⟩
   have HG : Hid (∀ w5, Below K.heap.size K w5 → WM4 7 w0 (.pointer (some ⟨b5, 0, none⟩)) (.int .i64 d) (.int .i64 n) (.pointer (some ⟨b13, 0, none⟩)) (.pointer (some ⟨b14, 0, none⟩)) (.pointer (some ⟨b15, 0, none⟩)) (.pointer (some ⟨gy, kk * 4, none⟩)) w5) := fun w5 hb => more7y hok (hM.below hb) hd hn hf0
   have y5 := hM.h14.cell 5
   have yl := hM.h14.lt
   simp [boxR] at y5
   have tk : (which : Int).tmod (fl : Int) = (kk : Int) := by rw [Int.tmod_eq_emod_of_nonneg (by omega), hke]; exact (Int.natCast_emod _ _).symm
   have hfi : (0 : Int) < (fl : Int) := by omega
   have hf1 : ((fl : Int) == 0) = false := by simp; omega
   have hf2 : ¬ fl = 0 := by omega
   have hf3 : ¬ (fl : Int) = 0 := by omega
   have k0 : (0 : Int) ≤ (which : Int) := by omega
   have k1 : (which : Int) ≤ 255 := by omega
   have hkli : (kk : Int) < (fl : Int) := by omega
   have hm2 := hM.hP.mfl
   clear hok hM hd hn hke hf0 h0
   go_upto_region 11 with (fail)
   refine wp_region_havoc [(0,false),(1,false),(2,false),(3,false),(4,false),(5,false),(6,false),(7,false),(8,false)] [] (fun _ _ => False) (by kernel_rfl) (by kernel_rfl) (fun _ _ _ _ h => h.elim) ?_
   (apply hav_same (by simp only [List.getElem?_toArray, List.getElem?_cons_zero]; rfl) (by kernel_rfl); (focus (intro wv hgv _; have hcv : ∀ b o, b < _ → wv.cell? ⟨b, o, none⟩ = _ := fun b o hb => Below.cell hgv (p := ⟨b, o, none⟩) hb; (try go_simp); try rfl; done)); simp only [Act.put, List.setIfInBounds_toArray, List.set_cons_succ, List.set_cons_zero])
   iterate 2 (apply hav_same (by simp only [List.getElem?_toArray, List.getElem?_cons_succ, List.getElem?_cons_zero]; rfl) (by kernel_rfl); (focus (intro wv hgv _; have hcv : ∀ b o, b < _ → wv.cell? ⟨b, o, none⟩ = _ := fun b o hb => Below.cell hgv (p := ⟨b, o, none⟩) hb; (try go_simp); try rfl; done)); simp only [Act.put, List.setIfInBounds_toArray, List.set_cons_succ, List.set_cons_zero])
   (apply hav_same (by simp only [List.getElem?_toArray, List.getElem?_cons_succ, List.getElem?_cons_zero]; rfl) (by kernel_rfl); (focus (intro wv hgv _; exact convM rfl rfl k0 k1 _)); simp only [Act.put, List.setIfInBounds_toArray, List.set_cons_succ, List.set_cons_zero])
   iterate 5 (apply hav_same (by simp only [List.getElem?_toArray, List.getElem?_cons_succ, List.getElem?_cons_zero]; rfl) (by kernel_rfl); (focus (intro wv hgv _; have hcv : ∀ b o, b < _ → wv.cell? ⟨b, o, none⟩ = _ := fun b o hb => Below.cell hgv (p := ⟨b, o, none⟩) hb; (try go_simp); try rfl; done)); simp only [Act.put, List.setIfInBounds_toArray, List.set_cons_succ, List.set_cons_zero])
   refine hav_end (fun w5 hgw5 hF => ?_); simp only [List.filterMap]; have hcw5 : ∀ b o, b < _ → w5.cell? ⟨b, o, none⟩ = _ := fun b o hb => Below.cell hgw5 (p := ⟨b, o, none⟩) hb; have hfw5 : ∀ b o, b < _ → w5.frozen? ⟨b, o, none⟩ = _ := fun b o hb => Below.frozen hgw5 (p := ⟨b, o, none⟩) hb; have hzw5 := Below.size hgw5; (try simp at hzw5)
   clear hcw5 hfw5 hzw5 hF
   have HWD := Lib.hid hgw5
   clear hgw5
   go_wp2
   exact HG.out w5 HWD.out _ _ _ _ _ _ _ _ _ _ _ _ _ _ _ _ _ _ _ _ _ _ _ _ _ _ _ _ _ _ _ _ _ _ _ _ _ _ _ _ _ _ _ _ _ _ _ _ _ _ _ _ _ _ _ _ _ _ _ _ _ _ _ _ _ _ _ _ _ _ _ _ _ _ _ _ _ _ _ _ _ _ _ _ _ _ _ _ _ _ _ _ _ _ _ _ _ _ _ _ _ _ _ _ _ _ _ _ _ _ _ _ _ _ _ _ _ _ _ _ _ _ _ _ _ _ _ _ _ _ _ _ _ _ _ _ _ _ _ _ _ _ _ _ _ _ _ _ _ _ _ _ _ _ _ _ _ _ _ _ _ _ _ _ _ _ _ _ _ _ _ _ _ _ _ _ _ _ _ _ _ _ _ _ _ _ _ _ _ _ _ _ _ _ _ _ _ _ _ _ _ _ _ _ _ _ _ _ _ _ _ _ _ _ _ _ _ _ _ _ _ _ _ _ _ _ _ _ _ _ _ _ _ _ _ _ _ _ _ _ _ _ _ _ _ _ _ _ _ _ _ _ _ _ _ _ _ _ _ _ _ _ _ _ _ _ _ _ _ _ _ _ _ _ _ _ _ _ _ _ _ _ _ _ _ _ _ _ _ _ _ _ _ _ _ _ _ _ _ _ _ _ _ _ _ _ _ _ _ _ _ _ _ _ _ _ _ _ _ _ _ _ _ _ _ _ _ _ _ _ _ _ _ _ _ _ _ _ _ _ _ _ _ _ _ _ _ _ _ _ _ _ _ _ _ _ _ _ _ _ _ _ _ _ _ _ _ _ _ _ _ _ _ _ _ _ _ _ _ _ _ _ _ _ _ _ _ _ _ _ _ _ _ _ _ _ _ _ _ _ _ _ _ _ _ _ _ _
  ·have H0 : Hid (WM4 7 w0 (.pointer (some ⟨b5, 0, none⟩)) (.int .i64 d) (.int .i64 n) (.pointer (some ⟨b13, 0, none⟩)) (.pointer (some ⟨b14, 0, none⟩)) (.pointer (some ⟨b15, 0, none⟩)) (.pointer (some ⟨b14, 0, none⟩)) K) := more7d hok hM hd hn
   have hfi : ¬ (0 : Int) < (fl : Int) := by omega
   clear hok hM hd hn h0
   go_wp2
   exact H0.out _ _ _ _ _ _ _ _ _ _ _ _ _ _ _ _ _ _ _ _ _ _ _ _ _ _ _ _ _ _ _ _ _ _ _ _ _ _ _ _ _ _ _ _ _ _ _ _ _ _ _ _ _ _ _ _ _ _ _ _ _ _ _ _ _ _ _ _ _ _ _ _ _ _ _ _ _ _ _ _ _ _ _ _ _ _ _ _ _ _ _ _ _ _ _ _ _ _ _ _ _ _ _ _ _ _ _ _ _ _ _ _ _ _ _ _ _ _ _ _ _ _ _ _ _ _ _ _ _ _ _ _ _ _ _ _ _ _ _ _ _ _ _ _ _ _ _ _ _ _ _ _ _ _ _ _ _ _ _ _ _ _ _ _ _ _ _ _ _ _ _ _ _ _ _ _ _ _ _ _ _ _ _ _ _ _ _ _ _ _ _ _ _ _ _ _ _ _ _ _ _ _ _ _ _ _ _ _ _ _ _ _ _ _ _ _ _ _ _ _ _ _ _ _ _ _ _ _ _ _ _ _ _ _ _ _ _ _ _ _ _ _ _ _ _ _ _ _ _ _ _ _ _ _ _ _ _ _ _ _ _ _ _ _ _ _ _ _ _ _ _ _ _ _ _ _ _ _ _ _ _ _ _ _ _ _ _ _ _ _ _ _ _ _ _ _ _ _ _ _ _ _ _ _ _ _ _ _ _ _ _ _ _ _ _ _ _ _ _ _ _ _ _ _ _ _ _ _ _ _ _ _ _ _ _ _ _ _ _ _ _ _ _ _ _ _ _ _ _ _ _ _ _ _ _ _ _ _ _ _ _ _ _ _ _ _ _ _ _ _ _ _ _ _ _ _ _ _ _ _ _ _ _ _ _ _ _ _ _ _ _ _ _ _ _ _ _ _ _ _ _ _ _ _ _ _ _ _
 | 3, _ =>
  by_cases h0 : 0 < fl
  ·obtain ⟨kk, hke⟩ : ∃ kk, kk = which % fl := ⟨_, rfl⟩
   have hkl : kk < fl := by rw [hke]; exact Nat.mod_lt _ h0
   obtain ⟨f0, hf0⟩ : ∃ f, r.fr[kk]? = some f := ⟨r.fr[kk]'(by rw [hM.hP.efl]; exact hkl), by simp⟩
   have HG : Hid (∀ w5, Below K.heap.size K w5 → WM4 7 w0 (.pointer (some ⟨b5, 0, none⟩)) (.int .i64 d) (.int .i64 n) (.pointer (some ⟨b13, 0, none⟩)) (.pointer (some ⟨b14, 0, none⟩)) (.pointer (some ⟨b15, 0, none⟩)) (.pointer (some ⟨gy, kk * 4 + 2, none⟩)) w5) := fun w5 hb => more7r hok (hM.below hb) hd hn hf0
   have y5 := hM.h14.cell 5
   have yl := hM.h14.lt
   simp [boxR] at y5
   have tk : (which : Int).tmod (fl : Int) = (kk : Int) := by rw [Int.tmod_eq_emod_of_nonneg (by omega), hke]; exact (Int.natCast_emod _ _).symm
   have hfi : (0 : Int) < (fl : Int) := by omega
   have hf1 : ((fl : Int) == 0) = false := by simp; omega
   have hf2 : ¬ fl = 0 := by omega
   have hf3 : ¬ (fl : Int) = 0 := by omega
   have k0 : (0 : Int) ≤ (which : Int) := by omega
   have k1 : (which : Int) ≤ 255 := by omega
   have hkli : (kk : Int) < (fl : Int) := by omega
   have hm2 := hM.hP.mfl
   clear hok hM hd hn hke hf0 h0
   go_upto_region 13 with (fail)
   refine wp_region_havoc [(0,false),(1,false),(2,false),(3,false),(4,false),(5,false),(6,false),(7,false),(8,false)] [] (fun _ _ => False) (by kernel_rfl) (by kernel_rfl) (fun _ _ _ _ h => h.elim) ?_
   (apply hav_same (by simp only [List.getElem?_toArray, List.getElem?_cons_zero]; rfl) (by kernel_rfl); (focus (intro wv hgv _; have hcv : ∀ b o, b < _ → wv.cell? ⟨b, o, none⟩ = _ := fun b o hb => Below.cell hgv (p := ⟨b, o, none⟩) hb; (try go_simp); try rfl; done)); simp only [Act.put, List.setIfInBounds_toArray, List.set_cons_succ, List.set_cons_zero])
   iterate 2 (apply hav_same (by simp only [List.getElem?_toArray, List.getElem?_cons_succ, List.getElem?_cons_zero]; rfl) (by kernel_rfl); (focus (intro wv hgv _; have hcv : ∀ b o, b < _ → wv.cell? ⟨b, o, none⟩ = _ := fun b o hb => Below.cell hgv (p := ⟨b, o, none⟩) hb; (try go_simp); try rfl; done)); simp only [Act.put, List.setIfInBounds_toArray, List.set_cons_succ, List.set_cons_zero])
   (apply hav_same (by simp only [List.getElem?_toArray, List.getElem?_cons_succ, List.getElem?_cons_zero]; rfl) (by kernel_rfl); (focus (intro wv hgv _; exact convM rfl rfl k0 k1 _)); simp only [Act.put, List.setIfInBounds_toArray, List.set_cons_succ, List.set_cons_zero])
   iterate 5 (apply hav_same (by simp only [List.getElem?_toArray, List.getElem?_cons_succ, List.getElem?_cons_zero]; rfl) (by kernel_rfl); (focus (intro wv hgv _; have hcv : ∀ b o, b < _ → wv.cell? ⟨b, o, none⟩ = _ := fun b o hb => Below.cell hgv (p := ⟨b, o, none⟩) hb; (try go_simp); try rfl; done)); simp only [Act.put, List.setIfInBounds_toArray, List.set_cons_succ, List.set_cons_zero])
   refine hav_end (fun w5 hgw5 hF => ?_); simp only [List.filterMap]; have hcw5 : ∀ b o, b < _ → w5.cell? ⟨b, o, none⟩ = _ := fun b o hb => Below.cell hgw5 (p := ⟨b, o, none⟩) hb; have hfw5 : ∀ b o, b < _ → w5.frozen? ⟨b, o, none⟩ = _ := fun b o hb => Below.frozen hgw5 (p := ⟨b, o, none⟩) hb; have hzw5 := Below.size hgw5; (try simp at hzw5)
   clear hcw5 hfw5 hzw5 hF
   have HWD := Lib.hid hgw5
   clear hgw5
   go_wp2
   exact HG.out w5 HWD.out _ _ _ _ _ _ _ _ _ _ _ _ _ _ _ _ _ _ _ _ _ _ _ _ _ _ _ _ _ _ _ _ _ _ _ _ _ _ _ _ _ _ _ _ _ _ _ _ _ _ _ _ _ _ _ _ _ _ _ _ _ _ _ _ _ _ _ _ _ _ _ _ _ _ _ _ _ _ _ _ _ _ _ _ _ _ _ _ _ _ _ _ _ _ _ _ _ _ _ _ _ _ _ _ _ _ _ _ _ _ _ _ _ _ _ _ _ _ _ _ _ _ _ _ _ _ _ _ _ _ _ _ _ _ _ _ _ _ _ _ _ _ _ _ _ _ _ _ _ _ _ _ _ _ _ _ _ _ _ _ _ _ _ _ _ _ _ _ _ _ _ _ _ _ _ _ _ _ _ _ _ _ _ _ _ _ _ _ _ _ _ _ _ _ _ _ _ _ _ _ _ _ _ _ _ _ _ _ _ _ _ _ _ _ _ _ _ _ _ _ _ _ _ _ _ _ _ _ _ _ _ _ _ _ _ _ _ _ _ _ _ _ _ _ _ _ _ _ _ _ _ _ _ _ _ _ _ _ _ _ _ _ _ _ _ _ _ _ _ _ _ _ _ _ _ _ _ _ _ _ _ _ _ _ _ _ _ _ _ _ _ _ _ _ _ _ _ _ _ _ _ _ _ _ _ _ _ _ _ _ _ _ _ _ _ _ _ _ _ _ _ _ _ _ _ _ _ _ _ _ _ _ _ _ _ _ _ _ _ _ _ _ _ _ _ _ _ _ _ _ _ _ _ _ _ _ _ _ _ _ _ _ _ _ _ _ _ _ _ _ _ _ _ _ _ _ _ _ _ _ _ _ _ _ _ _ _ _ _ _ _ _ _ _ _ _ _ _ _ _ _ _ _ _ _ _ _ _
  ·have H0 : Hid (WM4 7 w0 (.pointer (some ⟨b5, 0, none⟩)) (.int .i64 d) (.int .i64 n) (.pointer (some ⟨b13, 0, none⟩)) (.pointer (some ⟨b14, 0, none⟩)) (.pointer (some ⟨b15, 0, none⟩)) (.pointer (some ⟨b14, 0, none⟩)) K) := more7d hok hM hd hn
   have hfi : ¬ (0 : Int) < (fl : Int) := by omega
   clear hok hM hd hn h0
   go_wp2
   exact H0.out _ _ _ _ _ _ _ _ _ _ _ _ _ _ _ _ _ _ _ _ _ _ _ _ _ _ _ _ _ _ _ _ _ _ _ _ _ _ _ _ _ _ _ _ _ _ _ _ _ _ _ _ _ _ _ _ _ _ _ _ _ _ _ _ _ _ _ _ _ _ _ _ _ _ _ _ _ _ _ _ _ _ _ _ _ _ _ _ _ _ _ _ _ _ _ _ _ _ _ _ _ _ _ _ _ _ _ _ _ _ _ _ _ _ _ _ _ _ _ _ _ _ _ _ _ _ _ _ _ _ _ _ _ _ _ _ _ _ _ _ _ _ _ _ _ _ _ _ _ _ _ _ _ _ _ _ _ _ _ _ _ _ _ _ _ _ _ _ _ _ _ _ _ _ _ _ _ _ _ _ _ _ _ _ _ _ _ _ _ _ _ _ _ _ _ _ _ _ _ _ _ _ _ _ _ _ _ _ _ _ _ _ _ _ _ _ _ _ _ _ _ _ _ _ _ _ _ _ _ _ _ _ _ _ _ _ _ _ _ _ _ _ _ _ _ _ _ _ _ _ _ _ _ _ _ _ _ _ _ _ _ _ _ _ _ _ _ _ _ _ _ _ _ _ _ _ _ _ _ _ _ _ _ _ _ _ _ _ _ _ _ _ _ _ _ _ _ _ _ _ _ _ _ _ _ _ _ _ _ _ _ _ _ _ _ _ _ _ _ _ _ _ _ _ _ _ _ _ _ _ _ _ _ _ _ _ _ _ _ _ _ _ _ _ _ _ _ _ _ _ _ _ _ _ _ _ _ _ _ _ _ _ _ _ _ _ _ _ _ _ _ _ _ _ _ _ _ _ _ _ _ _ _ _ _ _ _ _ _ _ _ _ _ _ _ _ _ _ _ _ _ _ _ _ _ _ _ _
end
end Go.Proofs.Ytiodmkokpfgkkaa
namespace Go.Proofs.Ytiodmkokpfgkkaa
open Go.RowKit Go.Hav Go.Shelf Go.Sq
attribute [local go_sem] Oper.semAt_some
theorem wpList_append_runM {P : Program} {ops : Array Oper} {rest : List Oper} {o : Oper} {a : Act} {Q : Exit → Act → World → Prop} {w w' : World} {v u v' : Value} (hgd : o.guard = none) (s x : Operand) (t : TypeId)
  (ho : o.op = .call { callee := .builtin .append, args := #[s, x], argTypes := #[t, t] }) (hs : a.eval s = v) (hx : a.eval x = u) (hr : (Builtin.append_ #[t, t] o.type #[v, u]).run P w = .ok v' w')
  (h : wpList P ops Q rest (a.put o.dst v') w') : wpList P ops Q (o :: rest) a w :=
 wpList_plain hgd fun _ hK => by
  unfold Oper.wp
  rw [append_oper ho hs hx hr]
  exact hK _ _ h
section
variable {w0 : World} {b5 b6 b13 b14 b15 gx fl fc ll lc d n cx : Nat} {fa la : Option Addr} {r : IRiv} {l : ILk}
set_option maxRecDepth 100000 in
set_option maxHeartbeats 6400000 in
theorem more4 {K : World} (hok : okR r = true) (hP : RvIn w0 w0.heap.size fa fl la ll r) (hB : Below w0.heap.size w0 K) (h5 : Blk K b5 27 (boxR r fa fl fc la ll lc)) (h13 : Blk K b13 27 (boxR (withR r l) fa fl fc (some ⟨gx, 0, none⟩) (ll + 1) cx)) (ox : K.ownsRow w0.heap.size 58 3 (.slice (some ⟨gx, 0, none⟩) (ll + 1) cx) (ll + 1) ((withR r l).lk.flatMap lkI))
  (h14 : Blk K b14 27 (boxR r fa fl fc la ll lc)) (h15 : Blk K b15 27 (boxR r fa fl fc la ll lc)) (g14 : w0.heap.size ≤ b14) (g15 : w0.heap.size ≤ b15) (hne : b5 ≠ b15 ∧ b13 ≠ b15 ∧ b14 ≠ b15 ∧ b5 ≠ b14 ∧ b13 ≠ b14) (hd : d ≤ r.nat.days) (hn : n ≤ 200) {which : Nat} (hwh : which ≤ 255) :
  WM6 4 w0 (.int .u8 which) (.pointer (some ⟨b5, 0, none⟩)) (.int .i64 d) (.int .i64 n) (.pointer (some ⟨b13, 0, none⟩)) (.pointer (some ⟨b14, 0, none⟩)) (.pointer (some ⟨b15, 0, none⟩)) K := by
 unfold WM6
 intros
 have hfl : fl ≤ 3 := by rw [← hP.efl]; exact (okR_pts hok).1.2.2.2.1
 obtain ⟨I, hi, hz0, hz1, hz2⟩ := info_parts infoM55
 have hbk : Below K.heap.size K (K.alloc (.cells #[] 55)) := (Below.refl _ _).alloc (Nat.le_refl _) _
 obtain ⟨v', w2, hrun, ⟨gy, cy, rfl, -⟩, oy, hb⟩ := append_copy (P := Try.prog) (f := frI) (n := fl) (c := fc) (A := fa) (l := r.fr) 24 24 55 I _ 4 32 Try.underlying24 hi hz0 hz1 hz2 rfl (by decide) frI_len hP.efl (w := K.alloc (.cells #[] 55)) (B := w0.heap.size) (g := K.heap.size) ((hP.grow hB).grow hbk).hfr (by omega) (by omega) (Nat.le_trans hB.size hbk.size) (own_base (ownsRow_empty rfl 55 4) hB.size)
 have hb2 : Below K.heap.size K w2 := hbk.trans (hb.mono hbk.size)
 have H : Hid (WM5 6 w0 (.int .u8 which) (.pointer (some ⟨b5, 0, none⟩)) (.int .i64 d) (.int .i64 n) (.pointer (some ⟨b13, 0, none⟩)) (.pointer (some ⟨b14, 0, none⟩)) (.pointer (some ⟨b15, 0, none⟩)) (.pointer (some ⟨b14, 0, none⟩)) (w2.setCell ⟨b14, 5, none⟩ (.slice (some ⟨gy, 0, none⟩) fl cy))) := by
  have t : Turn (fun x => x = b14) K (w2.setCell ⟨b14, 5, none⟩ (.slice (some ⟨gy, 0, none⟩) fl cy)) := (Turn.of_below hb2).trans (Turn.set (S := fun x => x = b14) ⟨b14, 5, none⟩ _ (fun _ => rfl))
  obtain ⟨cox, kx, -⟩ := own_blk ox
  obtain ⟨coy, ky, -⟩ := own_blk oy
  have k14 := h14.below hb2 h14.lt
  exact more6 (l := l) (gx := gx) (gy := gy) (cx := cx) (cy := cy) hok ⟨hP, hB.trans (t.below hB.size (fun b e => by have e' : b = b14 := e; omega)), h5.turn t hne.2.2.2.1, h13.turn t hne.2.2.2.2, own_turn ox t (fun g hg e => by cases hg; exact blk_ne kx h14 (by decide) e), k14.set_ 5 (.slice (some ⟨gy, 0, none⟩) fl cy), own_turn oy (Turn.set (S := fun x => x = b14) ⟨b14, 5, none⟩ _ (fun _ => rfl)) (fun g hg e => by cases hg; exact blk_ne ky k14 (by decide) e), h15.turn t (Ne.symm hne.2.2.1), g14, g15, hne.1, hne.2.1, hne.2.2.1, hne.2.2.2.1, hne.2.2.2.2⟩ hd hn hwh
 have x5 := h5.cell 5
 have xl := h5.lt
 have k14 := h14.below hb2 h14.lt
 have y5 := k14.cell 5
 have y6 := k14.frozen 5
 have yl := k14.lt
 simp [boxR] at x5 y5
 have HRUN := Lib.hid hrun
 clear hrun hok hP hB h5 h13 ox h14 h15 g14 g15 hne hd hn hi hz0 hz1 hz2 hbk oy hb hb2 k14
 conv => arg 2; whnf
 conv => arg 2; arg 2; arg 2; change moreK 6
 go_wp2_with (at_builtin; refine wpList_append_runM rfl _ _ 24 rfl rfl rfl HRUN.out ?_)
 clear HRUN
 go_wp2
 exact H.out _ _ _ _ _ _ _ _ _ _ _ _ _ _ _ _ _ _ _ _ _ _ _ _ _ _ _ _ _ _ _ _ _ _ _ _ _ _ _ _ _ _ _ _ _ _ _ _ _ _ _ _ _ _ _ _ _ _ _ _ _ _ _ _ _ _ _ _ _ _ _ _ _ _ _ _ _ _ _ _ _ _ _ _ _ _ _ _ _ _ _ _ _ _ _ _ _ _ _ _ _ _ _ _ _ _ _ _ _ _ _ _ _ _ _ _ _ _ _ _ _ _ _ _ _ _ _ _ _ _ _ _ _ _ _ _ _ _ _ _ _ _ _ _ _ _ _ _ _ _ _ _ _ _ _ _ _ _ _ _ _ _ _ _ _ _ _ _ _ _ _ _ _ _ _ _ _ _ _ _ _ _ _ _ _ _ _ _ _ _ _ _ _ _ _ _ _ _ _ _ _ _ _ _ _ _ _ _ _ _ _ _ _ _ _ _ _ _ _ _ _ _ _ _ _ _ _ _ _ _ _ _ _ _ _ _ _ _ _ _ _ _ _ _ _ _ _ _ _ _ _ _ _ _ _ _ _ _ _ _ _ _ _ _ _ _ _ _ _ _ _ _ _ _ _ _ _ _ _ _ _ _ _ _ _ _ _ _ _ _ _ _ _ _ _ _ _ _ _ _ _ _ _ _ _ _ _ _ _ _ _ _ _ _ _ _ _ _ _ _ _ _ _ _ _ _ _ _ _ _ _ _ _ _ _ _ _ _ _ _ _ _ _ _ _ _ _ _ _ _ _ _ _ _ _ _ _ _ _ _ _ _ _ _ _ _ _ _ _ _ _ _ _ _ _ _ _ _ _ _ _ _ _ _ _ _ _ _ _ _ _ _ _ _ _ _ _ _ _ _ _ _ _ _ _ _ _
end
def m3T (BW : Nat) (w0 : World) (fa : Option Addr) (fl fc : Nat) (la : Option Addr) (ll lc : Nat) (r : IRiv) (l : ILk) (i : Nat) (V : Nat → Value) (w : World) : Prop :=
 match i with
 | 0 => V 0 = .agg #[.int .i64 r.depth.lo, .int .i64 r.depth.hi, .int .i64 r.fall.lo, .int .i64 r.fall.hi, .int .i64 r.days, .slice fa fl fc, .slice la ll lc]
 | 1 => V 1 = .agg #[Value.int .i64 l.day, Value.int .i64 l.dep.lo, Value.int .i64 l.dep.hi]
 | 2 => ∃ g cp, V 2 = .agg #[.int .i64 r.depth.lo, .int .i64 r.depth.hi, .int .i64 r.fall.lo, .int .i64 r.fall.hi, .int .i64 r.days, .slice fa fl fc, .slice (some ⟨g, 0, none⟩) (ll + 1) cp] ∧ w.ownsRow w0.heap.size 58 3 (.slice (some ⟨g, 0, none⟩) (ll + 1) cp) (ll + 1) ((withR r l).lk.flatMap lkI)
 | 3 => V 3 = .agg #[.int .i64 r.depth.lo, .int .i64 r.depth.hi, .int .i64 r.fall.lo, .int .i64 r.fall.hi, .int .i64 r.days, .slice fa fl fc, .slice la ll lc]
 | 4 => V 4 = .agg #[.int .i64 r.depth.lo, .int .i64 r.depth.hi, .int .i64 r.fall.lo, .int .i64 r.fall.hi, .int .i64 r.days, .slice fa fl fc, .slice la ll lc]
 | 5 => ∃ g, V 5 = .pointer (some ⟨g, 0, none⟩) ∧ BW ≤ g ∧ ∃ u0 u1 u2 u3 u4 u5 u6, Blk w g 27 #[u0, u1, u2, u3, u4, u5, u6]
 | 6 => ∃ g, V 6 = .pointer (some ⟨g, 0, none⟩) ∧ BW ≤ g ∧ ∃ u0 u1 u2 u3 u4 u5 u6, Blk w g 27 #[u0, u1, u2, u3, u4, u5, u6]
 | 7 => ∃ g, V 7 = .pointer (some ⟨g, 0, none⟩) ∧ BW ≤ g ∧ ∃ u0 u1 u2 u3 u4 u5 u6, Blk w g 27 #[u0, u1, u2, u3, u4, u5, u6]
 | 8 => ∃ g cp h, V 2 = .agg #[.int .i64 r.depth.lo, .int .i64 r.depth.hi, .int .i64 r.fall.lo, .int .i64 r.fall.hi, .int .i64 r.days, .slice fa fl fc, .slice (some ⟨g, 0, none⟩) (ll + 1) cp] ∧ V 5 = .pointer (some ⟨h, 0, none⟩) ∧ Blk w h 27 #[.int .i64 r.depth.lo, .int .i64 r.depth.hi, .int .i64 r.fall.lo, .int .i64 r.fall.hi, .int .i64 r.days, .slice fa fl fc, .slice (some ⟨g, 0, none⟩) (ll + 1) cp]
 | 9 => ∃ h, V 6 = .pointer (some ⟨h, 0, none⟩) ∧ Blk w h 27 #[.int .i64 r.depth.lo, .int .i64 r.depth.hi, .int .i64 r.fall.lo, .int .i64 r.fall.hi, .int .i64 r.days, .slice fa fl fc, .slice la ll lc]
 | 10 => ∃ h, V 7 = .pointer (some ⟨h, 0, none⟩) ∧ Blk w h 27 #[.int .i64 r.depth.lo, .int .i64 r.depth.hi, .int .i64 r.fall.lo, .int .i64 r.fall.hi, .int .i64 r.days, .slice fa fl fc, .slice la ll lc]
 | _ => True
section
variable {w0 w w' : World} {BW b5 b6 fl fc ll lc d n i : Nat} {fa la : Option Addr} {r : IRiv} {l : ILk} {V : Nat → Value}
theorem m3_grow (h : m3T BW w0 fa fl fc la ll lc r l i V w) (hb : Below w.heap.size w w') : m3T BW w0 fa fl fc la ll lc r l i V w' := by
 unfold m3T at h ⊢
 split at h
 case h_3 => obtain ⟨g, c, e, h⟩ := h; exact ⟨g, c, e, own_below h hb⟩
 case h_6 => obtain ⟨g, e, e2, u0, u1, u2, u3, u4, u5, u6, h⟩ := h; exact ⟨g, e, e2, _, _, _, _, _, _, _, h.below hb h.lt⟩
 case h_7 => obtain ⟨g, e, e2, u0, u1, u2, u3, u4, u5, u6, h⟩ := h; exact ⟨g, e, e2, _, _, _, _, _, _, _, h.below hb h.lt⟩
 case h_8 => obtain ⟨g, e, e2, u0, u1, u2, u3, u4, u5, u6, h⟩ := h; exact ⟨g, e, e2, _, _, _, _, _, _, _, h.below hb h.lt⟩
 case h_9 => obtain ⟨g, c, k, e, e2, h⟩ := h; exact ⟨g, c, k, e, e2, h.below hb h.lt⟩
 case h_10 => obtain ⟨k, e, h⟩ := h; exact ⟨k, e, h.below hb h.lt⟩
 case h_11 => obtain ⟨k, e, h⟩ := h; exact ⟨k, e, h.below hb h.lt⟩
 all_goals exact h
theorem m3_store {g : Nat} {x0 x1 x2 x3 x4 x5 x6 : Value} (h : m3T BW w0 fa fl fc la ll lc r l i V w) (ts : Turn (fun b => b = g) w w') (hC : Blk w' g 27 #[x0, x1, x2, x3, x4, x5, x6]) (far : ∀ g' t cs, Blk w g' t cs → t ≠ 27 → g' ≠ g)
  (h8 : i = 8 → ∀ g', V 5 = .pointer (some ⟨g', 0, none⟩) → g' ≠ g) (h9 : i = 9 → ∀ g', V 6 = .pointer (some ⟨g', 0, none⟩) → g' ≠ g) (h10 : i = 10 → False) : m3T BW w0 fa fl fc la ll lc r l i V w' := by
 have any : ∀ {q : Nat}, (∃ u0 u1 u2 u3 u4 u5 u6, Blk w q 27 #[u0, u1, u2, u3, u4, u5, u6]) → ∃ u0 u1 u2 u3 u4 u5 u6, Blk w' q 27 #[u0, u1, u2, u3, u4, u5, u6] := fun {q} hq => by
  by_cases e : q = g
  ·subst e; exact ⟨_, _, _, _, _, _, _, hC⟩
  ·obtain ⟨u0, u1, u2, u3, u4, u5, u6, hq⟩ := hq
   exact ⟨_, _, _, _, _, _, _, hq.turn ts e⟩
 unfold m3T at h ⊢
 split at h
 case h_3 =>
  obtain ⟨q, c, e, h⟩ := h
  obtain ⟨cur, hk, -⟩ := own_blk h
  exact ⟨q, c, e, own_turn h ts (fun g' hg' e' => by cases hg'; exact far _ _ _ hk (by decide) e')⟩
 case h_6 => obtain ⟨q, e, e2, h⟩ := h; exact ⟨q, e, e2, any h⟩
 case h_7 => obtain ⟨q, e, e2, h⟩ := h; exact ⟨q, e, e2, any h⟩
 case h_8 => obtain ⟨q, e, e2, h⟩ := h; exact ⟨q, e, e2, any h⟩
 case h_9 => obtain ⟨q, c, k, e, e2, h⟩ := h; exact ⟨q, c, k, e, e2, h.turn ts (h8 rfl k e2)⟩
 case h_10 => obtain ⟨k, e, h⟩ := h; exact ⟨k, e, h.turn ts (h9 rfl k e)⟩
 case h_11 => exact (h10 rfl).elim
 all_goals exact h
/-- A river, stored in a box. -/
theorem storeM {a : Act} {o : Oper} {d e g : Nat} {u0 u1 u2 u3 u4 u5 u6 : Value} {i0 i1 i2 i3 i4 : Int} {A A' : Option Addr} {n c n' c' : Nat} (ho : o.op = .store 27 (.tmp d) (.tmp e)) (h1 : a.tmps[d]?.getD undef = .pointer (some ⟨g, 0, none⟩)) (h2 : a.tmps[e]?.getD undef = .agg #[.int .i64 i0, .int .i64 i1, .int .i64 i2, .int .i64 i3, .int .i64 i4, .slice A n c, .slice A' n' c']) (hb : Blk w g 27 #[u0, u1, u2, u3, u4, u5, u6]) :
  (execOp a.eval o).run Try.prog w = .ok .skip (set7 w g (.int .i64 i0) (.int .i64 i1) (.int .i64 i2) (.int .i64 i3) (.int .i64 i4) (.slice A n c) (.slice A' n' c')) := by
 have c0 := hb.cell 0
 have c1 := hb.cell 1
 have c2 := hb.cell 2
 have c3 := hb.cell 3
 have c4 := hb.cell 4
 have c5 := hb.cell 5
 have c6 := hb.cell 6
 have f0 := hb.frozen 0
 have f1 := hb.frozen 1
 have f2 := hb.frozen 2
 have f3 := hb.frozen 3
 have f4 := hb.frozen 4
 have f5 := hb.frozen 5
 have f6 := hb.frozen 6
 have hl := hb.lt
 simp at c0 c1 c2 c3 c4 c5 c6
 unfold execOp set7
 rw [ho]
 go_simp
set_option maxRecDepth 100000 in
set_option maxHeartbeats 6400000 in
theorem more3 {K : World} (hok : okR r = true) (hP : RvIn w0 w0.heap.size fa fl la ll r) (hB : Below w0.heap.size w0 K) (h5 : Blk K b5 27 (boxR r fa fl fc la ll lc)) (h6 : Blk K b6 58 #[Value.int .i64 l.day, Value.int .i64 l.dep.lo, Value.int .i64 l.dep.hi]) (hd : d ≤ r.nat.days) (hn : n ≤ 200) {which : Nat} (hwh : which ≤ 255) :
  WM7 3 w0 (.int .u8 which) (.pointer (some ⟨b5, 0, none⟩)) (.pointer (some ⟨b6, 0, none⟩)) (.int .i64 d) (.int .i64 n) K := by
 unfold WM7
 intros
 have HF : Hid (∀ (wz : World) (b13 b14 b15 gx cx : Nat), Below K.heap.size K wz → K.heap.size ≤ b13 → K.heap.size ≤ b14 → K.heap.size ≤ b15 → b13 ≠ b14 → b13 ≠ b15 → b14 ≠ b15 → Blk wz b13 27 #[.int .i64 r.depth.lo, .int .i64 r.depth.hi, .int .i64 r.fall.lo, .int .i64 r.fall.hi, .int .i64 r.days, .slice fa fl fc, .slice (some ⟨gx, 0, none⟩) (ll + 1) cx] → Blk wz b14 27 #[.int .i64 r.depth.lo, .int .i64 r.depth.hi, .int .i64 r.fall.lo, .int .i64 r.fall.hi, .int .i64 r.days, .slice fa fl fc, .slice la ll lc] → Blk wz b15 27 #[.int .i64 r.depth.lo, .int .i64 r.depth.hi, .int .i64 r.fall.lo, .int .i64 r.fall.hi, .int .i64 r.days, .slice fa fl fc, .slice la ll lc] → wz.ownsRow w0.heap.size 58 3 (.slice (some ⟨gx, 0, none⟩) (ll + 1) cx) (ll + 1) ((withR r l).lk.flatMap lkI) → WM6 4 w0 (.int .u8 which) (.pointer (some ⟨b5, 0, none⟩)) (.int .i64 d) (.int .i64 n) (.pointer (some ⟨b13, 0, none⟩)) (.pointer (some ⟨b14, 0, none⟩)) (.pointer (some ⟨b15, 0, none⟩)) wz) := fun wz b13 b14 b15 gx cx hb q13 q14 q15 n1 n2 n3 h13 h14 h15 ho => by
  have := h5.lt
  have := hB.size
  exact more4 hok hP (hB.trans (hb.mono hB.size)) (h5.below hb h5.lt) h13 ho h14 h15 (by omega) (by omega) ⟨by omega, n2, n3, by omega, n1⟩ hd hn hwh
 have HOK := Lib.hid hok
 have HP := Lib.hid hP
 have HBW := Lib.hid hB
 have HR := Lib.hid h5
 have HL := Lib.hid h6
 have HRS : Hid (¬ K.heap.size ≤ b5) := by have := h5.lt; show ¬ _; omega
 have HLS : Hid (¬ K.heap.size ≤ b6) := by have := h6.lt; show ¬ _; omega
 clear hok hP hB h5 h6 hd hn
 conv => arg 2; whnf
 conv => arg 2; arg 2; change moreK 4
 go_upto_region 4 with (fail)
 rename ∀ a w, Code.wp Try.prog (moreK 4) _ a w → _ => hKU
 have HKU := Lib.hid hKU
 clear hKU
 refine HavG.wp_region_tabZ (R := (TP (ι := Empty) (fun b => K.heap.size ≤ b) (fun i _ => i.elim) (fun i => i.elim))) (fun i V wx => m3T K.heap.size w0 fa fl fc la ll lc r l i V wx) (fun i wx => True) (fun _ _ _ => True) (fun _ _ => False) [5, 6, 7] [some 70, some 71, some 72, some 73, some 74, some 13, some 14, some 15, none, none, none] (by kernel_rfl) (by kernel_rfl) (by rfl) (fun _ _ => trivial) trivial (fun _ _ h => h.elim) (fun _ _ _ _ h => h.elim) (fun h => h.1.size) ?_ (fun i hi V w h => by simp only [List.mem_cons, List.not_mem_nil, or_false] at hi; rcases hi with rfl | rfl | rfl <;> (obtain ⟨g, e, -, u0, u1, u2, u3, u4, u5, u6, h⟩ := h; rw [e]; exact h.lt)) ?_ ?_
 ·intro i hi V V' w h hV
  match i, hi, h, hV with
  | 0, _, h, hV => exact (hV _ (.inl rfl)).symm.trans h
  | 1, _, h, hV => exact (hV _ (.inl rfl)).symm.trans h
  | 2, _, h, hV => (obtain ⟨g, c, e, h⟩ := h; exact ⟨g, c, (hV 2 (.inl rfl)).symm.trans e, h⟩)
  | 3, _, h, hV => exact (hV _ (.inl rfl)).symm.trans h
  | 4, _, h, hV => exact (hV _ (.inl rfl)).symm.trans h
  | 5, _, h, hV => (obtain ⟨g, e, h⟩ := h; exact ⟨g, (hV 5 (.inl rfl)).symm.trans e, h⟩)
  | 6, _, h, hV => (obtain ⟨g, e, h⟩ := h; exact ⟨g, (hV 6 (.inl rfl)).symm.trans e, h⟩)
  | 7, _, h, hV => (obtain ⟨g, e, h⟩ := h; exact ⟨g, (hV 7 (.inl rfl)).symm.trans e, h⟩)
  | 8, _, h, hV => (obtain ⟨g, c, g3, e, e2, h⟩ := h; exact ⟨g, c, g3, (hV 2 (.inr (by kernel_rfl))).symm.trans e, (hV 5 (.inr (by kernel_rfl))).symm.trans e2, h⟩)
  | 9, _, h, hV => (obtain ⟨g, e, h⟩ := h; exact ⟨g, (hV 6 (.inr (by kernel_rfl))).symm.trans e, h⟩)
  | 10, _, h, hV => (obtain ⟨g, e, h⟩ := h; exact ⟨g, (hV 7 (.inr (by kernel_rfl))).symm.trans e, h⟩)
  | j + 11, hj, _, _ => exact absurd hj (by simp)
 ·intro i hi oo a' w' ho hag hg hd hap hps hsl rem him hnd hj
  match i, hi, ho, hd, hap, hps, hsl, him with
  | 0, _, ho, hd, hap, hps, hsl, him =>
   (simp only [List.getElem?_toArray, List.getElem?_cons_zero, Option.some.injEq] at ho; subst ho)
   have s5 : a'.tmps[5]?.getD undef = (.pointer (some ⟨b5, 0, none⟩)) := by rw [← Array.getD_eq_getD_getElem?]; exact hag.slot 5 (by kernel_rfl)
   have r5 : a'.tmps.getD 5 undef = (.pointer (some ⟨b5, 0, none⟩)) := hag.slot 5 (by kernel_rfl)
   have hx := HR.out.turn hg.1 HRS.out
   have z0 := hx.cell 0
   have z1 := hx.cell 1
   have z2 := hx.cell 2
   have z3 := hx.cell 3
   have z4 := hx.cell 4
   have z5 := hx.cell 5
   have z6 := hx.cell 6
   have zl := hx.lt
   simp [boxR] at z0 z1 z2 z3 z4 z5 z6
   clear hx
   refine HavG.tabY_val rfl (by simp) ⟨.agg #[.int .i64 r.depth.lo, .int .i64 r.depth.hi, .int .i64 r.fall.lo, .int .i64 r.fall.hi, .int .i64 r.days, .slice fa fl fc, .slice la ll lc], w', ?_, ⟨HavG.Rel.refl _ _, trivial⟩, fun _ _ _ _ _ _ h => h, fun _ _ _ _ h => h, fun V _ hv => hv, fun h => by simp at h⟩
   go_simp
   try rfl
  | 1, _, ho, hd, hap, hps, hsl, him =>
   (simp only [List.getElem?_toArray, List.getElem?_cons_succ, List.getElem?_cons_zero, Option.some.injEq] at ho; subst ho)
   have s6 : a'.tmps[6]?.getD undef = (.pointer (some ⟨b6, 0, none⟩)) := by rw [← Array.getD_eq_getD_getElem?]; exact hag.slot 6 (by kernel_rfl)
   have r6 : a'.tmps.getD 6 undef = (.pointer (some ⟨b6, 0, none⟩)) := hag.slot 6 (by kernel_rfl)
   have hx := HL.out.turn hg.1 HLS.out
   have z0 := hx.cell 0
   have z1 := hx.cell 1
   have z2 := hx.cell 2
   have zl := hx.lt
   simp at z0 z1 z2
   clear hx
   refine HavG.tabY_val rfl (by simp) ⟨.agg #[Value.int .i64 l.day, Value.int .i64 l.dep.lo, Value.int .i64 l.dep.hi], w', ?_, ⟨HavG.Rel.refl _ _, trivial⟩, fun _ _ _ _ _ _ h => h, fun _ _ _ _ h => h, fun V _ hv => hv, fun h => by simp at h⟩
   go_simp
   try rfl
  | 2, _, ho, hd, hap, hps, hsl, him =>
   (simp only [List.getElem?_toArray, List.getElem?_cons_succ, List.getElem?_cons_zero, Option.some.injEq] at ho; subst ho)
   have d70 : a'.tmps.getD 70 undef = .agg #[.int .i64 r.depth.lo, .int .i64 r.depth.hi, .int .i64 r.fall.lo, .int .i64 r.fall.hi, .int .i64 r.days, .slice fa fl fc, .slice la ll lc] := hd 0 (by kernel_rfl) (by decide)
   have c70 : a'.tmps[70]?.getD undef = .agg #[.int .i64 r.depth.lo, .int .i64 r.depth.hi, .int .i64 r.fall.lo, .int .i64 r.fall.hi, .int .i64 r.days, .slice fa fl fc, .slice la ll lc] := by rw [← Array.getD_eq_getD_getElem?]; exact d70
   have d71 : a'.tmps.getD 71 undef = .agg #[Value.int .i64 l.day, Value.int .i64 l.dep.lo, Value.int .i64 l.dep.hi] := hd 1 (by kernel_rfl) (by decide)
   have c71 : a'.tmps[71]?.getD undef = .agg #[Value.int .i64 l.day, Value.int .i64 l.dep.lo, Value.int .i64 l.dep.hi] := by rw [← Array.getD_eq_getD_getElem?]; exact d71
   refine HavG.tabY_call rfl (by simp) (f := 39) (args := #[.agg #[.int .i64 r.depth.lo, .int .i64 r.depth.hi, .int .i64 r.fall.lo, .int .i64 r.fall.hi, .int .i64 r.days, .slice fa fl fc, .slice la ll lc], .agg #[Value.int .i64 l.day, Value.int .i64 l.dep.lo, Value.int .i64 l.dep.hi]]) (by go_simp; try rfl) ((with_any HOK.out w' (HP.out.grow (HBW.out.trans (hg.1.below HBW.out.size (fun b e => Nat.le_trans HBW.out.size e))))).mono ?_)
   rintro e w2 ⟨⟨g, cp, rfl, ho⟩, HB⟩
   exact ⟨_, rfl, ⟨⟨Turn.of_below HB, fun i => i.elim⟩, trivial⟩, fun j V _ _ _ _ h => m3_grow h HB, fun _ _ _ _ h => h, fun V _ hv => ⟨g, cp, hv, own_base ho (Nat.le_trans HBW.out.size hg.1.size)⟩, fun h => by simp at h⟩
  | 3, _, ho, hd, hap, hps, hsl, him =>
   (simp only [List.getElem?_toArray, List.getElem?_cons_succ, List.getElem?_cons_zero, Option.some.injEq] at ho; subst ho)
   have s5 : a'.tmps[5]?.getD undef = (.pointer (some ⟨b5, 0, none⟩)) := by rw [← Array.getD_eq_getD_getElem?]; exact hag.slot 5 (by kernel_rfl)
   have r5 : a'.tmps.getD 5 undef = (.pointer (some ⟨b5, 0, none⟩)) := hag.slot 5 (by kernel_rfl)
   have hx := HR.out.turn hg.1 HRS.out
   have z0 := hx.cell 0
   have z1 := hx.cell 1
   have z2 := hx.cell 2
   have z3 := hx.cell 3
   have z4 := hx.cell 4
   have z5 := hx.cell 5
   have z6 := hx.cell 6
   have zl := hx.lt
   simp [boxR] at z0 z1 z2 z3 z4 z5 z6
   clear hx
   refine HavG.tabY_val rfl (by simp) ⟨.agg #[.int .i64 r.depth.lo, .int .i64 r.depth.hi, .int .i64 r.fall.lo, .int .i64 r.fall.hi, .int .i64 r.days, .slice fa fl fc, .slice la ll lc], w', ?_, ⟨HavG.Rel.refl _ _, trivial⟩, fun _ _ _ _ _ _ h => h, fun _ _ _ _ h => h, fun V _ hv => hv, fun h => by simp at h⟩
   go_simp
   try rfl
  | 4, _, ho, hd, hap, hps, hsl, him =>
   (simp only [List.getElem?_toArray, List.getElem?_cons_succ, List.getElem?_cons_zero, Option.some.injEq] at ho; subst ho)
   have s5 : a'.tmps[5]?.getD undef = (.pointer (some ⟨b5, 0, none⟩)) := by rw [← Array.getD_eq_getD_getElem?]; exact hag.slot 5 (by kernel_rfl)
   have r5 : a'.tmps.getD 5 undef = (.pointer (some ⟨b5, 0, none⟩)) := hag.slot 5 (by kernel_rfl)
   have hx := HR.out.turn hg.1 HRS.out
   have z0 := hx.cell 0
   have z1 := hx.cell 1
   have z2 := hx.cell 2
   have z3 := hx.cell 3
   have z4 := hx.cell 4
   have z5 := hx.cell 5
   have z6 := hx.cell 6
   have zl := hx.lt
   simp [boxR] at z0 z1 z2 z3 z4 z5 z6
   clear hx
   refine HavG.tabY_val rfl (by simp) ⟨.agg #[.int .i64 r.depth.lo, .int .i64 r.depth.hi, .int .i64 r.fall.lo, .int .i64 r.fall.hi, .int .i64 r.days, .slice fa fl fc, .slice la ll lc], w', ?_, ⟨HavG.Rel.refl _ _, trivial⟩, fun _ _ _ _ _ _ h => h, fun _ _ _ _ h => h, fun V _ hv => hv, fun h => by simp at h⟩
   go_simp
   try rfl
  | 5, _, ho, hd, hap, hps, hsl, him =>
   (simp only [List.getElem?_toArray, List.getElem?_cons_succ, List.getElem?_cons_zero, Option.some.injEq] at ho; subst ho)
   have HB : Below w'.heap.size w' (w'.alloc (.cells #[.int .i64 0, .int .i64 0, .int .i64 0, .int .i64 0, .int .i64 0, .slice none 0 0, .slice none 0 0] 27)) := (Below.refl _ _).alloc (Nat.le_refl _) _
   refine HavG.tabY_val rfl (by simp) ⟨.pointer (some ⟨w'.heap.size, 0, none⟩), w'.alloc (.cells #[.int .i64 0, .int .i64 0, .int .i64 0, .int .i64 0, .int .i64 0, .slice none 0 0, .slice none 0 0] 27), ?_, ⟨⟨Turn.of_below HB, fun i => i.elim⟩, trivial⟩, fun j V _ _ _ _ h => m3_grow h HB, fun _ _ _ _ h => h, fun V _ hv => ⟨w'.heap.size, hv, hg.1.size, _, _, _, _, _, _, _, Blk.new w' 27 _⟩, fun _ => .inl (Nat.le_refl _)⟩
   go_simp
   try rfl
  | 6, _, ho, hd, hap, hps, hsl, him =>
   (simp only [List.getElem?_toArray, List.getElem?_cons_succ, List.getElem?_cons_zero, Option.some.injEq] at ho; subst ho)
   have HB : Below w'.heap.size w' (w'.alloc (.cells #[.int .i64 0, .int .i64 0, .int .i64 0, .int .i64 0, .int .i64 0, .slice none 0 0, .slice none 0 0] 27)) := (Below.refl _ _).alloc (Nat.le_refl _) _
   refine HavG.tabY_val rfl (by simp) ⟨.pointer (some ⟨w'.heap.size, 0, none⟩), w'.alloc (.cells #[.int .i64 0, .int .i64 0, .int .i64 0, .int .i64 0, .int .i64 0, .slice none 0 0, .slice none 0 0] 27), ?_, ⟨⟨Turn.of_below HB, fun i => i.elim⟩, trivial⟩, fun j V _ _ _ _ h => m3_grow h HB, fun _ _ _ _ h => h, fun V _ hv => ⟨w'.heap.size, hv, hg.1.size, _, _, _, _, _, _, _, Blk.new w' 27 _⟩, fun _ => .inl (Nat.le_refl _)⟩
   go_simp
   try rfl
  | 7, _, ho, hd, hap, hps, hsl, him =>
   (simp only [List.getElem?_toArray, List.getElem?_cons_succ, List.getElem?_cons_zero, Option.some.injEq] at ho; subst ho)
   have HB : Below w'.heap.size w' (w'.alloc (.cells #[.int .i64 0, .int .i64 0, .int .i64 0, .int .i64 0, .int .i64 0, .slice none 0 0, .slice none 0 0] 27)) := (Below.refl _ _).alloc (Nat.le_refl _) _
   refine HavG.tabY_val rfl (by simp) ⟨.pointer (some ⟨w'.heap.size, 0, none⟩), w'.alloc (.cells #[.int .i64 0, .int .i64 0, .int .i64 0, .int .i64 0, .int .i64 0, .slice none 0 0, .slice none 0 0] 27), ?_, ⟨⟨Turn.of_below HB, fun i => i.elim⟩, trivial⟩, fun j V _ _ _ _ h => m3_grow h HB, fun _ _ _ _ h => h, fun V _ hv => ⟨w'.heap.size, hv, hg.1.size, _, _, _, _, _, _, _, Blk.new w' 27 _⟩, fun _ => .inl (Nat.le_refl _)⟩
   go_simp
   try rfl
  | 8, _, ho, hd, hap, hps, hsl, him =>
   (simp only [List.getElem?_toArray, List.getElem?_cons_succ, List.getElem?_cons_zero, Option.some.injEq] at ho; subst ho)
   obtain ⟨g2, cp, e5, ho⟩ : ∃ g cp, HavG.slot a' 72 = .agg #[.int .i64 r.depth.lo, .int .i64 r.depth.hi, .int .i64 r.fall.lo, .int .i64 r.fall.hi, .int .i64 r.days, .slice fa fl fc, .slice (some ⟨g, 0, none⟩) (ll + 1) cp] ∧ w'.ownsRow w0.heap.size 58 3 (.slice (some ⟨g, 0, none⟩) (ll + 1) cp) (ll + 1) ((withR r l).lk.flatMap lkI) := hd 2 (by kernel_rfl) (by decide)
   have d2 : a'.tmps[72]?.getD undef = .agg #[.int .i64 r.depth.lo, .int .i64 r.depth.hi, .int .i64 r.fall.lo, .int .i64 r.fall.hi, .int .i64 r.days, .slice fa fl fc, .slice (some ⟨g2, 0, none⟩) (ll + 1) cp] := by rw [← Array.getD_eq_getD_getElem?]; exact e5
   obtain ⟨g, e9, hgB, u0, u1, u2, u3, u4, u5, u6, hk7⟩ : ∃ g, HavG.slot a' 13 = .pointer (some ⟨g, 0, none⟩) ∧ K.heap.size ≤ g ∧ ∃ u0 u1 u2 u3 u4 u5 u6, Blk w' g 27 #[u0, u1, u2, u3, u4, u5, u6] := hd 5 (by kernel_rfl) (by decide)
   have d1 : a'.tmps[13]?.getD undef = .pointer (some ⟨g, 0, none⟩) := by rw [← Array.getD_eq_getD_getElem?]; exact e9
   have ts := set7_turn w' g (.int .i64 r.depth.lo) (.int .i64 r.depth.hi) (.int .i64 r.fall.lo) (.int .i64 r.fall.hi) (.int .i64 r.days) (.slice fa fl fc) (.slice (some ⟨g2, 0, none⟩) (ll + 1) cp)
   have hC : Blk (set7 w' g (.int .i64 r.depth.lo) (.int .i64 r.depth.hi) (.int .i64 r.fall.lo) (.int .i64 r.fall.hi) (.int .i64 r.days) (.slice fa fl fc) (.slice (some ⟨g2, 0, none⟩) (ll + 1) cp)) g 27 #[.int .i64 r.depth.lo, .int .i64 r.depth.hi, .int .i64 r.fall.lo, .int .i64 r.fall.hi, .int .i64 r.days, .slice fa fl fc, .slice (some ⟨g2, 0, none⟩) (ll + 1) cp] := set7_blk hk7
   refine HavG.tabY_store rfl rfl (by decide) ⟨_, storeM rfl d1 d2 hk7, ⟨⟨ts.mono (fun b e => by rw [e]; exact hgB), fun i => i.elim⟩, trivial⟩, fun j V hV _ hji hbf h => (by subst hV; exact m3_store h ts hC (fun g' t cs h hn => blk_ne h hk7 hn) (fun e => absurd e hji) (fun e => absurd e (fun e => by subst e; exact Bool.false_ne_true (hbf.symm.trans (by kernel_rfl)))) (fun e => absurd e (fun e => by subst e; exact Bool.false_ne_true (hbf.symm.trans (by kernel_rfl))))), fun _ _ _ _ h => h, fun V hV => ⟨g2, cp, g, (hV 2 (by decide)).trans e5, (hV 5 (by decide)).trans e9, hC⟩⟩
  | 9, _, ho, hd, hap, hps, hsl, him =>
   (simp only [List.getElem?_toArray, List.getElem?_cons_succ, List.getElem?_cons_zero, Option.some.injEq] at ho; subst ho)
   have e5 : HavG.slot a' 73 = .agg #[.int .i64 r.depth.lo, .int .i64 r.depth.hi, .int .i64 r.fall.lo, .int .i64 r.fall.hi, .int .i64 r.days, .slice fa fl fc, .slice la ll lc] := hd 3 (by kernel_rfl) (by decide)
   have d2 : a'.tmps[73]?.getD undef = .agg #[.int .i64 r.depth.lo, .int .i64 r.depth.hi, .int .i64 r.fall.lo, .int .i64 r.fall.hi, .int .i64 r.days, .slice fa fl fc, .slice la ll lc] := by rw [← Array.getD_eq_getD_getElem?]; exact e5
   obtain ⟨g, e9, hgB, u0, u1, u2, u3, u4, u5, u6, hk7⟩ : ∃ g, HavG.slot a' 14 = .pointer (some ⟨g, 0, none⟩) ∧ K.heap.size ≤ g ∧ ∃ u0 u1 u2 u3 u4 u5 u6, Blk w' g 27 #[u0, u1, u2, u3, u4, u5, u6] := hd 6 (by kernel_rfl) (by decide)
   have d1 : a'.tmps[14]?.getD undef = .pointer (some ⟨g, 0, none⟩) := by rw [← Array.getD_eq_getD_getElem?]; exact e9
   have ts := set7_turn w' g (.int .i64 r.depth.lo) (.int .i64 r.depth.hi) (.int .i64 r.fall.lo) (.int .i64 r.fall.hi) (.int .i64 r.days) (.slice fa fl fc) (.slice la ll lc)
   have hC : Blk (set7 w' g (.int .i64 r.depth.lo) (.int .i64 r.depth.hi) (.int .i64 r.fall.lo) (.int .i64 r.fall.hi) (.int .i64 r.days) (.slice fa fl fc) (.slice la ll lc)) g 27 #[.int .i64 r.depth.lo, .int .i64 r.depth.hi, .int .i64 r.fall.lo, .int .i64 r.fall.hi, .int .i64 r.days, .slice fa fl fc, .slice la ll lc] := set7_blk hk7
   have n8 := hap 5 6 (by decide) (by decide) (by decide) (by decide) (by decide) (by kernel_rfl) (by kernel_rfl)
   have hn8 : ∀ g', HavG.slot a' 13 = .pointer (some ⟨g', 0, none⟩) → g' ≠ g := fun g' e' => by have h' : HavG.bkV (HavG.slot a' 13) ≠ HavG.bkV (HavG.slot a' 14) := n8; rw [e', e9] at h'; exact h'
   refine HavG.tabY_store rfl rfl (by decide) ⟨_, storeM rfl d1 d2 hk7, ⟨⟨ts.mono (fun b e => by rw [e]; exact hgB), fun i => i.elim⟩, trivial⟩, fun j V hV _ hji hbf h => (by subst hV; exact m3_store h ts hC (fun g' t cs h hn => blk_ne h hk7 hn) (fun _ g' e' => hn8 g' e') (fun e => absurd e hji) (fun e => absurd e (fun e => by subst e; exact Bool.false_ne_true (hbf.symm.trans (by kernel_rfl))))), fun _ _ _ _ h => h, fun V hV => ⟨g, (hV 6 (by decide)).trans e9, hC⟩⟩
  | 10, _, ho, hd, hap, hps, hsl, him =>
   (simp only [List.getElem?_toArray, List.getElem?_cons_succ, List.getElem?_cons_zero, Option.some.injEq] at ho; subst ho)
   have e5 : HavG.slot a' 74 = .agg #[.int .i64 r.depth.lo, .int .i64 r.depth.hi, .int .i64 r.fall.lo, .int .i64 r.fall.hi, .int .i64 r.days, .slice fa fl fc, .slice la ll lc] := hd 4 (by kernel_rfl) (by decide)
   have d2 : a'.tmps[74]?.getD undef = .agg #[.int .i64 r.depth.lo, .int .i64 r.depth.hi, .int .i64 r.fall.lo, .int .i64 r.fall.hi, .int .i64 r.days, .slice fa fl fc, .slice la ll lc] := by rw [← Array.getD_eq_getD_getElem?]; exact e5
   obtain ⟨g, e9, hgB, u0, u1, u2, u3, u4, u5, u6, hk7⟩ : ∃ g, HavG.slot a' 15 = .pointer (some ⟨g, 0, none⟩) ∧ K.heap.size ≤ g ∧ ∃ u0 u1 u2 u3 u4 u5 u6, Blk w' g 27 #[u0, u1, u2, u3, u4, u5, u6] := hd 7 (by kernel_rfl) (by decide)
   have d1 : a'.tmps[15]?.getD undef = .pointer (some ⟨g, 0, none⟩) := by rw [← Array.getD_eq_getD_getElem?]; exact e9
   have ts := set7_turn w' g (.int .i64 r.depth.lo) (.int .i64 r.depth.hi) (.int .i64 r.fall.lo) (.int .i64 r.fall.hi) (.int .i64 r.days) (.slice fa fl fc) (.slice la ll lc)
   have hC : Blk (set7 w' g (.int .i64 r.depth.lo) (.int .i64 r.depth.hi) (.int .i64 r.fall.lo) (.int .i64 r.fall.hi) (.int .i64 r.days) (.slice fa fl fc) (.slice la ll lc)) g 27 #[.int .i64 r.depth.lo, .int .i64 r.depth.hi, .int .i64 r.fall.lo, .int .i64 r.fall.hi, .int .i64 r.days, .slice fa fl fc, .slice la ll lc] := set7_blk hk7
   have n8 := hap 5 7 (by decide) (by decide) (by decide) (by decide) (by decide) (by kernel_rfl) (by kernel_rfl)
   have hn8 : ∀ g', HavG.slot a' 13 = .pointer (some ⟨g', 0, none⟩) → g' ≠ g := fun g' e' => by have h' : HavG.bkV (HavG.slot a' 13) ≠ HavG.bkV (HavG.slot a' 15) := n8; rw [e', e9] at h'; exact h'
   have n9 := hap 6 7 (by decide) (by decide) (by decide) (by decide) (by decide) (by kernel_rfl) (by kernel_rfl)
   have hn9 : ∀ g', HavG.slot a' 14 = .pointer (some ⟨g', 0, none⟩) → g' ≠ g := fun g' e' => by have h' : HavG.bkV (HavG.slot a' 14) ≠ HavG.bkV (HavG.slot a' 15) := n9; rw [e', e9] at h'; exact h'
   refine HavG.tabY_store rfl rfl (by decide) ⟨_, storeM rfl d1 d2 hk7, ⟨⟨ts.mono (fun b e => by rw [e]; exact hgB), fun i => i.elim⟩, trivial⟩, fun j V hV _ hji hbf h => (by subst hV; exact m3_store h ts hC (fun g' t cs h hn => blk_ne h hk7 hn) (fun _ g' e' => hn8 g' e') (fun _ g' e' => hn9 g' e') (fun e => absurd e hji)), fun _ _ _ _ h => h, fun V hV => ⟨g, (hV 7 (by decide)).trans e9, hC⟩⟩
  | j + 11, hj, _, _, _, _, _, _ => exact absurd hj (by simp)
 intro f w2 hg hjj hf hap
 have q0 : f 70 = _ := hf 0 (by decide)
 have q1 : f 71 = _ := hf 1 (by decide)
 obtain ⟨gx, cx, q2, ho⟩ : ∃ g cp, f 72 = .agg #[.int .i64 r.depth.lo, .int .i64 r.depth.hi, .int .i64 r.fall.lo, .int .i64 r.fall.hi, .int .i64 r.days, .slice fa fl fc, .slice (some ⟨g, 0, none⟩) (ll + 1) cp] ∧ w2.ownsRow w0.heap.size 58 3 (.slice (some ⟨g, 0, none⟩) (ll + 1) cp) (ll + 1) ((withR r l).lk.flatMap lkI) := hf 2 (by decide)
 have q3 : f 73 = _ := hf 3 (by decide)
 have q4 : f 74 = _ := hf 4 (by decide)
 obtain ⟨b13, q5, k13, -⟩ : ∃ g, f 13 = .pointer (some ⟨g, 0, none⟩) ∧ K.heap.size ≤ g ∧ _ := hf 5 (by decide)
 obtain ⟨b14, q6, k14, -⟩ : ∃ g, f 14 = .pointer (some ⟨g, 0, none⟩) ∧ K.heap.size ≤ g ∧ _ := hf 6 (by decide)
 obtain ⟨b15, q7, k15, -⟩ : ∃ g, f 15 = .pointer (some ⟨g, 0, none⟩) ∧ K.heap.size ≤ g ∧ _ := hf 7 (by decide)
 obtain ⟨g8, c8, h8, e8, e81, hx⟩ : ∃ g cp h, f 72 = .agg #[.int .i64 r.depth.lo, .int .i64 r.depth.hi, .int .i64 r.fall.lo, .int .i64 r.fall.hi, .int .i64 r.days, .slice fa fl fc, .slice (some ⟨g, 0, none⟩) (ll + 1) cp] ∧ f 13 = .pointer (some ⟨h, 0, none⟩) ∧ Blk w2 h 27 #[.int .i64 r.depth.lo, .int .i64 r.depth.hi, .int .i64 r.fall.lo, .int .i64 r.fall.hi, .int .i64 r.days, .slice fa fl fc, .slice (some ⟨g, 0, none⟩) (ll + 1) cp] := hf 8 (by decide)
 obtain ⟨h9, e9, hy⟩ : ∃ h, f 14 = .pointer (some ⟨h, 0, none⟩) ∧ Blk w2 h 27 #[.int .i64 r.depth.lo, .int .i64 r.depth.hi, .int .i64 r.fall.lo, .int .i64 r.fall.hi, .int .i64 r.days, .slice fa fl fc, .slice la ll lc] := hf 9 (by decide)
 obtain ⟨h10, e10, hz⟩ : ∃ h, f 15 = .pointer (some ⟨h, 0, none⟩) ∧ Blk w2 h 27 #[.int .i64 r.depth.lo, .int .i64 r.depth.hi, .int .i64 r.fall.lo, .int .i64 r.fall.hi, .int .i64 r.days, .slice fa fl fc, .slice la ll lc] := hf 10 (by decide)
 rw [q5] at e81
 cases e81
 rw [q6] at e9
 cases e9
 rw [q7] at e10
 cases e10
 obtain ⟨rfl, rfl⟩ : gx = g8 ∧ cx = c8 := by rw [q2] at e8; cases e8; exact ⟨rfl, rfl⟩
 have n1 : b13 ≠ b14 := by
  have h : HavG.bkV (f 13) ≠ HavG.bkV (f 14) := hap 5 6 (by decide) (by decide) (by decide) (by decide) (by decide)
  rw [q5, q6] at h
  exact h
 have n2 : b13 ≠ b15 := by
  have h : HavG.bkV (f 13) ≠ HavG.bkV (f 15) := hap 5 7 (by decide) (by decide) (by decide) (by decide) (by decide)
  rw [q5, q7] at h
  exact h
 have n3 : b14 ≠ b15 := by
  have h : HavG.bkV (f 14) ≠ HavG.bkV (f 15) := hap 6 7 (by decide) (by decide) (by decide) (by decide) (by decide)
  rw [q6, q7] at h
  exact h
 have HFIN := Lib.hid (HF.out w2 b13 b14 b15 gx cx (hg.1.below (Nat.le_refl _) (fun b e => e)) k13 k14 k15 n1 n2 n3 hx hy hz ho)
 simp only [List.filterMap, HavG.puts, List.foldl_cons, List.foldl_nil, Act.put, List.setIfInBounds_toArray, List.set_cons_succ, List.set_cons_zero]
 rw [q0, q1, q2, q3, q4, q5, q6, q7]
 clear hf hap hjj hg q0 q1 q2 q3 q4 q5 q6 q7 e8 hx hy hz ho n1 n2 n3 k13 k14 k15
 go_wp2
 exact HKU.out _ _ (HFIN.out _ _ _ _ _ _ _ _ _ _ _ _ _ _ _ _ _ _ _ _ _ _ _ _ _ _ _ _ _ _ _ _ _ _ _ _ _ _ _ _ _ _ _ _ _ _ _ _ _ _ _ _ _ _ _ _ _ _ _ _ _ _ _ _ _ _ _ _ _ _ _ _ _ _ _ _ _ _ _ _ _ _ _ _ _ _ _ _ _ _ _ _ _ _ _ _ _ _ _ _ _ _ _ _ _ _ _ _ _ _ _ _ _ _ _ _ _ _ _ _ _ _ _ _ _ _ _ _ _ _ _ _ _ _ _ _ _ _ _ _ _ _ _ _ _ _ _ _ _ _ _ _ _ _ _ _ _ _ _ _ _ _ _ _ _ _ _ _ _ _ _ _ _ _ _ _ _ _ _ _ _ _ _ _ _ _ _ _ _ _ _ _ _ _ _ _ _ _ _ _ _ _ _ _ _ _ _ _ _ _ _ _ _ _ _ _ _ _ _ _ _ _ _ _ _ _ _ _ _ _ _ _ _ _ _ _ _ _ _ _ _ _ _ _ _ _ _ _ _ _ _ _ _ _ _ _ _ _ _ _ _ _ _ _ _ _ _ _ _ _ _ _ _ _ _ _ _ _ _ _ _ _ _ _ _ _ _ _ _ _ _ _ _ _ _ _ _ _ _ _ _ _ _ _ _ _ _ _ _ _ _ _ _ _ _ _ _ _ _ _ _ _ _ _ _ _ _ _ _ _ _ _ _ _ _ _ _ _ _ _ _ _ _ _ _ _ _ _ _ _ _ _ _ _ _ _ _ _ _ _ _ _ _ _ _ _ _ _ _ _ _ _ _ _ _ _ _ _ _ _ _ _ _ _ _ _ _ _ _ _ _ _ _ _ _ _ _ _ _ _ _ _ _ _ _ _ _ _)
end
end Go.Proofs.Ytiodmkokpfgkkaa
namespace Go.Proofs.Ytiodmkokpfgkkaa
open Go.RowKit Go.Hav Go.Shelf Go.Sq
attribute [local go_sem] Oper.semAt_some
section
variable {fa la : Option Addr} {fl fc ll lc : Nat} {r : IRiv}
set_option maxRecDepth 100000 in
set_option maxHeartbeats 6400000 in
theorem lawMore_any (l : ILk) (which : Nat) (hwh : which ≤ 255) (at_ : Nat) (hat : at_ ≤ 255) (boat : Nat) (hbo : boat ≤ 255) (w : World) (hP : RvIn w w.heap.size fa fl la ll r) :
  Calls Try.prog 11 #[(.agg #[.int .i64 r.depth.lo, .int .i64 r.depth.hi, .int .i64 r.fall.lo, .int .i64 r.fall.hi, .int .i64 r.days, .slice fa fl fc, .slice la ll lc]), .agg #[.int .i64 l.day, .int .i64 l.dep.lo, .int .i64 l.dep.hi], .int .u8 which, .int .u8 at_, .int .u8 boat] w (LawTrueM w) := by
 have HP0 := Lib.hid hP
 have m1 := hP.mfl
 have m2 := hP.mll
 obtain ⟨W, hW⟩ : ∃ W, W = (w.alloc (.cells #[.int .i64 r.depth.lo, .int .i64 r.depth.hi, .int .i64 r.fall.lo, .int .i64 r.fall.hi, .int .i64 r.days, .slice fa fl fc, .slice la ll lc] 27)).alloc (.cells #[.int .i64 l.day, .int .i64 l.dep.lo, .int .i64 l.dep.hi] 58) := ⟨_, rfl⟩
 obtain ⟨b5, hb5⟩ : ∃ b5, b5 = w.heap.size := ⟨_, rfl⟩
 obtain ⟨b6, hb6⟩ : ∃ b6, b6 = w.heap.size + 1 := ⟨_, rfl⟩
 have HX0 : Hid (Blk W b5 27 #[.int .i64 r.depth.lo, .int .i64 r.depth.hi, .int .i64 r.fall.lo, .int .i64 r.fall.hi, .int .i64 r.days, .slice fa fl fc, .slice la ll lc]) := by rw [hW, hb5]; exact (Blk.new w 27 _).alloc _
 have HL0 : Hid (Blk W b6 58 #[.int .i64 l.day, .int .i64 l.dep.lo, .int .i64 l.dep.hi]) := by rw [hW, hb6]; exact Blk.new_ (by simp) 58 _
 have HB0 : Hid (Below w.heap.size w W) := by rw [hW]; exact ((Below.refl _ _).alloc (Nat.le_refl _) _).alloc (by simp) _
 clear hP
 go_enter Try.func11, Try.ntmps11
 conv => arg 2; whnf
 conv => arg 2; arg 2; arg 2; change moreK 2
 go_upto_region 1 with (fail)
 rw [← hb6, ← hb5, ← hW]
 clear hW hb5 hb6
 have HX := HX0
 have x0 := HX.out.cell 0
 have x1 := HX.out.cell 1
 have x2 := HX.out.cell 2
 have x3 := HX.out.cell 3
 have x4 := HX.out.cell 4
 have x5 := HX.out.cell 5
 have x6 := HX.out.cell 6
 have xl := HX.out.lt
 simp at x0 x1 x2 x3 x4 x5 x6
 go_wp2_with fail
 refine (long_any (fa := fa) (fl := fl) (fc := fc) (la := la) (ll := ll) (lc := lc) (r := r) W m1 m2).mono ?_
 rintro e w1 ⟨⟨b, rfl, -⟩, hb⟩
 have HB1 : Hid (Below w.heap.size w w1) := HB0.out.trans (hb.mono HB0.out.size)
 have HX2 : Hid (Blk w1 b5 27 #[.int .i64 r.depth.lo, .int .i64 r.depth.hi, .int .i64 r.fall.lo, .int .i64 r.fall.hi, .int .i64 r.days, .slice fa fl fc, .slice la ll lc]) := HX0.out.below hb HX0.out.lt
 have HL2 := Lib.hid (HL0.out.below hb HL0.out.lt)
 clear hb x0 x1 x2 x3 x4 x5 x6 xl HX HX0 HL0 HB0
 cases b
 case true =>
  go_wp2_with fail
  refine (alive_any _).mono ?_
  rintro e wz ⟨rfl, hbz⟩
  have HBz : Hid (Below w.heap.size w wz) := HB1.out.trans (hbz.mono HB1.out.size)
  clear hbz
  go_wp2
  go_ret
  exact ⟨rfl, HBz.out⟩
 have HX := HX2
 have x0 := HX.out.cell 0
 have x1 := HX.out.cell 1
 have x2 := HX.out.cell 2
 have x3 := HX.out.cell 3
 have x4 := HX.out.cell 4
 have x5 := HX.out.cell 5
 have x6 := HX.out.cell 6
 have xl := HX.out.lt
 simp at x0 x1 x2 x3 x4 x5 x6
 go_wp2_with fail
 refine (rriver_any (fa := fa) (fl := fl) (fc := fc) (la := la) (ll := ll) (lc := lc) (r := r) w1 (by exact HP0.out.grow HB1.out)).mono ?_
 cases hv : okR r
 case false =>
  clear hv
  rintro e w2 ⟨rfl, hb⟩
  have HB2 : Hid (Below w.heap.size w w2) := HB1.out.trans (hb.mono HB1.out.size)
  clear hb x0 x1 x2 x3 x4 x5 x6 xl HX HX2
  go_wp2_with fail
  refine (alive_any _).mono ?_
  rintro e wz ⟨rfl, hbz⟩
  have HBz : Hid (Below w.heap.size w wz) := HB2.out.trans (hbz.mono HB2.out.size)
  clear hbz
  go_wp2
  go_ret
  exact ⟨rfl, HBz.out⟩
 rintro e w2 ⟨rfl, hb⟩
 have HB2 : Hid (Below w.heap.size w w2) := HB1.out.trans (hb.mono HB1.out.size)
 have HX3 : Hid (Blk w2 b5 27 #[.int .i64 r.depth.lo, .int .i64 r.depth.hi, .int .i64 r.fall.lo, .int .i64 r.fall.hi, .int .i64 r.days, .slice fa fl fc, .slice la ll lc]) := HX2.out.below hb HX2.out.lt
 have HL3 := Lib.hid (HL2.out.below hb HL2.out.lt)
 obtain ⟨hdy, hdy1, hdy2⟩ := days_nat hv
 obtain ⟨d, hde⟩ : ∃ d, d = at_ % (r.nat.days + 1) := ⟨_, rfl⟩
 have hd : d ≤ r.nat.days := by have := Nat.mod_lt at_ (show 0 < r.nat.days + 1 by omega); omega
 have tm : (at_ : Int).tmod (r.days + 1) = (d : Int) := by
  have e : ((r.nat.days + 1 : Nat) : Int) = (r.nat.days : Int) + 1 := by omega
  rw [hde, hdy, Int.tmod_eq_emod_of_nonneg (by omega), ← e]
  exact (Int.natCast_emod _ _).symm
 obtain ⟨n, hne⟩ : ∃ n, n = boat % 60 := ⟨_, rfl⟩
 have hn : n ≤ 200 := by omega
 have tn : (boat : Int).tmod 60 = (n : Int) := by rw [Int.tmod_eq_emod_of_nonneg (by omega), hne]; exact (Int.natCast_emod _ _).symm
 have hnz : ((r.days + 1 : Int) == 0) = false := beq_eq_false_iff_ne.2 (by omega)
 have hr1 : 1 ≤ r.days := by omega
 have hr2 : r.days ≤ 10 := by omega
 have HF : Hid (WM7 3 w (.int .u8 which) (.pointer (some ⟨b5, 0, none⟩)) (.pointer (some ⟨b6, 0, none⟩)) (.int .i64 d) (.int .i64 n) w2) := more3 (la := la) (lc := lc) hv HP0.out HB2.out HX3.out HL3.out hd hn hwh
 clear hb hv hdy hdy1 hdy2 hde hd hne hn x0 x1 x2 x3 x4 x5 x6 xl HX HX2
 have x4 := HX3.out.cell 4
 have xl := HX3.out.lt
 simp at x4
 go_wp2_with fail
 conv => arg 2; whnf
 conv => arg 2; arg 2; change moreK 3
 go_wp2
 exact HF.out _ _ _ _ _ _ _ _ _ _ _ _ _ _ _ _ _ _ _ _ _ _ _ _ _ _ _ _ _ _ _ _ _ _ _ _ _ _ _ _ _ _ _ _ _ _ _ _ _ _ _ _ _ _ _ _ _ _ _ _ _ _ _ _ _ _ _ _ _ _ _ _ _ _ _ _ _ _ _ _ _ _ _ _ _ _ _ _ _ _ _ _ _ _ _ _ _ _ _ _ _ _ _ _ _ _ _ _ _ _ _ _ _ _ _ _ _ _ _ _ _ _ _ _ _ _ _ _ _ _ _ _ _ _ _ _ _ _ _ _ _ _ _ _ _ _ _ _ _ _ _ _ _ _ _ _ _ _ _ _ _ _ _ _ _ _ _ _ _ _ _ _ _ _ _ _ _ _ _ _ _ _ _ _ _ _ _ _ _ _ _ _ _ _ _ _ _ _ _ _ _ _ _ _ _ _ _ _ _ _ _ _ _ _ _ _ _ _ _ _ _ _ _ _ _ _ _ _ _ _ _ _ _ _ _ _ _ _ _ _ _ _ _ _ _ _ _ _ _ _ _ _ _ _ _ _ _ _ _ _ _ _ _ _ _ _ _ _ _ _ _ _ _ _ _ _ _ _ _ _ _ _ _ _ _ _ _ _ _ _ _ _ _ _ _ _ _ _ _ _ _ _ _ _ _ _ _ _ _ _ _ _ _ _ _ _ _ _ _ _ _ _ _ _ _ _ _ _ _ _ _ _ _ _ _ _ _ _ _ _ _ _ _ _ _ _ _ _ _ _ _ _ _ _ _ _ _ _ _ _ _ _ _ _ _ _ _ _ _ _ _ _ _ _ _ _ _ _ _ _ _ _ _ _ _ _ _ _ _ _ _ _ _ _ _ _ _ _ _ _ _ _ _ _ _ _ _ _ _ _
end
end Go.Proofs.Ytiodmkokpfgkkaa
