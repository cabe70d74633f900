/- The walk of ready: all sets that always fit are found; conditions: the press is valid, the shed is as open left it. -/
import Derived.Test.YtbfjebglaimcmaaIter
import Derived.Test.YtbfjebglaimcmaaApi3
namespace Go.HavG
open Go.RowKit
section
variable {R : Rel} {P : Program} {ops : Array Oper}
theorem hav_val_ghost {Qp : List PanicEntry → World → Prop} {w0 : World} {Cont : Act → (World → Prop) → Prop} {i : Nat} {rest : List (Nat × Bool)} {a : Act} {F : World → Prop} {o : Oper} (Φ : Value → World → Prop) (ho : ops[i]? = some o)
    (hw : Region.wanted o (yielded ops a.tmps) = true) (hst : ∀ v w w', Φ v w → R.G w w' → Φ v w')
    (h1 : ∀ w, R.G w0 w → F w → ∃ v w', (execOp a.eval o).run P w = .ok (.value v) w' ∧ R.G w w' ∧ Φ v w')
    (h2 : ∀ v, wpHav R P ops Qp w0 Cont rest (a.put o.dst v) (fun w => F w ∧ Φ v w)) : wpHav R P ops Qp w0 Cont ((i, true) :: rest) a F :=
  hav_ghost Φ ho hst (fun w hg hF K hK => by
    unfold stepOf Oper.wp
    obtain ⟨v, w', hr, hgg, hp⟩ := h1 w hg hF
    rw [if_pos hw, hr]
    exact hK v w' hgg hp) h2
end
end Go.HavG
namespace Go
open Go.RowKit
/-- A range over a function whose loop variables lie in slots: G tells the slots in a round. -/
theorem wpIn_rangeFunc_slots {F : Fence} {n : Nat} {P : Program} {α : Type} {g : Operand} {ps : Array Tmp} {assign body : Code} {Q : Exit → Act → World → Prop} {a : Act} {w : World}
    (hro : F.round = none) (h1 : 1 ≤ n) {gf : Nat} {lb : Array Value} (hg : a.eval g = .func (.func gf) #[] lb) (hFg : F.fn gf) (eg : ∀ args w, (callFunc gf args).run P w = .ok (.enter gf args) w)
    {encs : α → Array Value} {S Sp : List α → Prop} {N : Nat} {w0 : World} (hseq : SeqStopsK F (n - 1) P gf lb encs (fun _ _ => True) S Sp N w0)
    (hb0 : Below w0.heap.size w0 w) (hps : ∀ x, (encs x).size = ps.size)
    (I : List α → World → Prop) (Ix : Code → List α → World → Prop) (hI : OwnFrom w.heap.size I) (hIx : ∀ c, OwnFrom w.heap.size (Ix c)) (h0 : I [] w) (G : α → Array Value → Array Value)
    (hassign : ∀ (l : Nat) (x : α) (W : World) (K : Act → World → Prop), K { tmps := G x a.tmps, defers := [] } W →
      assign.wpIn (F.inRound l) (n - 1 - 1) P (Exit.then K (fun _ _ _ => False)) { tmps := (ps.zip (encs x)).foldl (fun t (p, v) => t.setIfInBounds p v) a.tmps, defers := [] } W)
    (hbody : ∀ (l : Nat) (pre : List α) (x : α) (W : World), I pre W → pre.length < N → body.wpIn (F.inRound l) (n - 1 - 1) P (ownPostG w.heap.size (fun _ _ => True) I Ix (pre ++ [x]) W) { tmps := G x a.tmps, defers := [] } W)
    (hdone : ∀ (D : Nat) (xs : List α) (W : World), w.heap.size ≤ D → S xs → I xs W → W.heap[D]? = some (.deferred (some [])) → Q .normal { a with defers := { target := .collected D, args := #[] } :: a.defers } W)
    (hstop : ∀ (D : Nat) (c : Code) (pre : List α) (W : World), w.heap.size ≤ D → Sp pre → Ix c pre W → W.heap[D]? = some (.deferred (some [])) → c.wpIn F n P Q { a with defers := { target := .collected D, args := #[] } :: a.defers } W) :
    (Code.rangeFunc g ps assign body).wpIn F n P Q a w :=
  wpIn_rangeFunc_ownG_of_H hro h1 hg hFg eg hseq (fun _ _ => trivial) (fun _ _ _ _ _ _ _ _ => trivial) hb0 hps I Ix hI hIx h0 (fun x => { tmps := G x a.tmps, defers := [] }) hassign hbody hdone hstop (fun _ => trivial)
end Go
namespace Go.Proofs.Ytbfjebglaimcmaa
open Go.RowKit Go.Hav Go.Shelf
attribute [local go_sem] Oper.semAt_some
theorem append_oper {P : Program} {o : Oper} {a : Act} {s x : Operand} {t : TypeId} {v u v' : Value} {w w' : World} (ho : o.op = .call { callee := .builtin .append, args := #[s, x], argTypes := #[t, t] }) (hs : a.eval s = v) (hx : a.eval x = u)
    (hr : (Builtin.append_ #[t, t] o.type #[v, u]).run P w = .ok v' w') : (execOp a.eval o).run P w = .ok (.value v') w' := by
  unfold execOp
  simp only [ho, resolve, invoke, builtin, Sem.run_bind, Sem.run_pure, Result.andThen_ok, List.map_toArray, List.map_cons, List.map_nil, hs, hx, hr]
theorem OnF.mono {B B' r l : Nat} {a b : World} (h : OnF B r l a b) (hB : B' ≤ B) : OnF B' r l a b := { h with block := fun k h1 h2 h3 => h.block k (by omega) h2 h3 }
theorem own_base {w : World} {B B' e size n : Nat} {v : Value} {xs : List Value} (h : w.ownsRow B e size v n xs) (hB : B' ≤ B) : w.ownsRow B' e size v n xs := by
  refine ⟨h.1, ?_⟩
  rcases h.2 with h0 | ⟨g, cap, cur, rfl, hg, rest⟩
  · exact .inl h0
  · exact .inr ⟨g, cap, cur, rfl, Nat.le_trans hB hg, rest⟩
theorem own_cells {w : World} {B e size n : Nat} {v : Value} {xs : List Value} (h : w.ownsRow B e size v n xs) {g : Nat} (hg : v.ownBlock = some g) : ∃ o, w.heap[g]? = some o ∧ o.isCells = true := by
  rcases h.2 with ⟨rfl, _⟩ | ⟨g', cap, cur, rfl, _, hh, _⟩
  · cases hg
  · cases hg
    exact ⟨_, hh, rfl⟩
theorem keepsFrom_below {B : Nat} {X Y : World} (h : Below X.heap.size X Y) : KeepsFrom B X Y := ⟨h.size, fun i _ _ hi _ => (h.block i (Array.getElem?_eq_some_iff.1 hi).1).trans hi⟩
theorem keepsFrom_own {w w' : World} {B B' e size n : Nat} {v : Value} {xs : List Value} (h : w.ownsRow B e size v n xs) (hg : w.grownBy w' v.ownBlock) : KeepsFrom B' w w' := ⟨hg.size, fun k o _ hk ho => (hg.block k (Array.getElem?_eq_some_iff.1 hk).1 (fun e => by
  obtain ⟨o', h1, h2⟩ := own_cells h e.symm
  rw [hk] at h1
  cases h1
  rw [ho] at h2
  cases h2)).trans hk⟩
theorem keepsFrom_set {w : World} {B d o : Nat} (h : d < B) (u : Value) : KeepsFrom B w (w.setCell ⟨d, o, none⟩ u) := ⟨by simp [World.setCell], fun k o _ hk _ => (Below.heap_setCell w ⟨d, _, none⟩ _ k (by show k ≠ d; omega)).trans hk⟩
theorem unF_flat (l : List Nat) : (l.flatMap unF).length = l.length := by rw [flat_len unF 1 unF_len]; omega
section
variable {d r : Nat} {low top bales : Int} {fa ga wa : Option Addr} {fl fc wl wc : Nat} {p : PressD}
/-- The sets of some that always fit. -/
def selL (p : PressD) (pre : List (Su fl)) : List Nat := (pre.map (·.1)).filter p.sure
theorem selL_snoc (pre : List (Su fl)) (x : Su fl) : selL p (pre ++ [x]) = if p.sure x.1 then selL p pre ++ [x.1] else selL p pre := by
  unfold selL
  rw [List.map_append, List.filter_append]
  cases h : p.sure x.1 <;> simp [h]
theorem selL_le (pre : List (Su fl)) : (selL p pre).length ≤ pre.length := by
  unfold selL
  exact Nat.le_trans (List.length_filter_le _ _) (by simp)
/-- Between two rounds. -/
def RdyI (d r : Nat) (ga : Option Addr) (fl : Nat) (low top bales : Int) (wa : Option Addr) (wl wc : Nat) (p : PressD) (W0 : World) (pre : List (Su fl)) (W : World) : Prop :=
  OnF W0.heap.size d d W0 W ∧ ∃ v, Blk W d 132 (shedCs ga fl fl low top bales wa wl wc v r) ∧ W.ownsRow W0.heap.size 93 1 v (selL p pre).length ((selL p pre).flatMap unF)
theorem RdyI.own (W0 : World) (hd : d < W0.heap.size) : OwnFrom W0.heap.size (RdyI d r ga fl low top bales wa wl wc p W0) := by
  rintro pre X Y row ⟨hf, v, hb, ho⟩ hg hrow
  have hs := hf.size
  refine ⟨hf.trans (OnF.grown hg hs fun k e => .inl (hrow k e).1), v, (hg.block d hb.lt (fun e => by have := (hrow d e.symm).1; omega)).trans hb, own_keep ho fun g hgg => hg.block g ((ho.lt g hgg).2) (fun e => ?_)⟩
  obtain ⟨_, o, h1, h2⟩ := hrow g e.symm
  obtain ⟨o', h3, h4⟩ := own_cells ho hgg
  rw [h1] at h3
  cases h3
  rw [h2] at h4
  cases h4
theorem ShedS.with_ {W0 W : World} {sv v : Value} (h : ShedS W0 r d ga fl low top bales wa wl wc sv p) (hk : ∀ b, b < r → W.heap[b]? = W0.heap[b]?) (hb : Blk W d 132 (shedCs ga fl fl low top bales wa wl wc v r)) : ShedS W r d ga fl low top bales wa wl wc v p :=
  { h with blk := hb, hfl := h.hfl.keep fun b hb _ => hk b hb, hwl := h.hwl.keep fun b hb _ => hk b hb }
set_option maxRecDepth 100000 in
set_option maxHeartbeats 6400000 in
theorem ready_any (hv : p.ok = true) (hwl : wl ≤ 9223372036854775807) (w : World) (hD : ShedS w r d ga fl low top bales wa wl wc (.slice none 0 0) p) :
    Calls Try.prog 73 #[(.pointer (some ⟨d, 0, none⟩))] w fun e w' => e = .returned (.pointer (some ⟨d, 0, none⟩)) ∧ OnF w.heap.size d d w w' ∧ ∃ v, Blk w' d 132 (shedCs ga fl fl low top bales wa wl wc v r) ∧ w'.ownsRow w.heap.size 93 1 v p.sets.length (p.sets.flatMap unF) := by
  have HD := Lib.hid hD
  have HV := Lib.hid hv
  have HN : Hid (p.n = fl) := hD.efl
  have hdw : d < w.heap.size := hD.blk.lt
  have hn10 : fl ≤ 10 := by have := (PressD.ok_head hv).1; rw [HN.out] at this; exact this
  have HSE : Hid (p.sets = (subsL fl).filter p.sure) := by show _ = _; rw [PressD.sets, HN.out]; rfl
  have HWL := Lib.hid hwl
  clear hD hv hwl
  refine (callsIn_wide (n := 6)).1 (callsIn_of_wp_marks Try.func73 rfl trivial ?_ rfl)
  simp only [Try.ntmps73, List.size_toArray, List.length_cons, List.length_nil, Nat.reduceAdd, Nat.reduceSub, Array.replicate_succ, Array.replicate_zero, List.push_toArray, List.append_toArray, List.nil_append, List.cons_append]
  refine wpIn_wide.2 ?_
  go_wp2_with fail
  refine (subs_any _).mono ?_
  rintro e w' ⟨rfl, rfl⟩
  go_wp2_with fail
  obtain ⟨W0, hW0⟩ : ∃ W0, W0 = ((((w.alloc (.cells #[(.pointer (some ⟨d, 0, none⟩))] 88)).alloc (.cells #[.iface 98 (.agg #[])] 101)).alloc (.cells #[(.pointer (some ⟨d, 0, none⟩))] 88))) := ⟨_, rfl⟩
  have HB0 : Hid (Below w.heap.size w W0) := by rw [hW0]; exact (((Below.refl _ _).alloc (Nat.le_refl _) _).alloc (by simp) _).alloc (by simp; omega) _
  have hs0 : W0.heap.size = w.heap.size + 3 := by rw [hW0]; simp
  have HX1 : Hid (Blk W0 w.heap.size 88 #[(.pointer (some ⟨d, 0, none⟩))]) := by rw [hW0]; exact ((Blk.new w 88 _).alloc _).alloc _
  have HX2 : Hid (Blk W0 (w.heap.size + 1) 101 #[.iface 98 (.agg #[])]) := by rw [hW0]; exact (Blk.new_ (by simp) 101 _).alloc _
  have HX3 : Hid (Blk W0 (w.heap.size + 1 + 1) 88 #[(.pointer (some ⟨d, 0, none⟩))]) := by rw [hW0]; exact Blk.new_ (by simp) 88 _
  have HDX := Lib.hid (HD.out.grow HB0.out)
  rw [← hW0]
  clear hW0
  have hdX : d < W0.heap.size := by omega
  refine wpIn_wide.1 (wpIn_rangeFunc_slots (n := 6) rfl (by omega) (gf := 140) (lb := #[.pointer (some ⟨w.heap.size + 1 + 1, 0, none⟩)]) rfl trivial (enters_of Try.func140 (by kernel_rfl) rfl)
    (subs_stops (fa := ga) (fl := fl) (fc := fl) hn10 5 (by omega) (w.heap.size + 1 + 1) W0 (HX3.out.cell 0) (HDX.out.blk.cell 0) HX3.out.lt hdX)
    (Below.refl _ _) (fun _ => rfl)
    (RdyI d r ga fl low top bales wa wl wc p W0) (fun _ _ _ => False) (RdyI.own W0 hdX) (fun _ _ _ _ _ hs _ _ => hs)
    ⟨OnF.refl _ _ _ _, .slice none 0 0, HDX.out.blk, by exact ⟨by simp [selL], .inl ⟨rfl, by simp [selL]⟩⟩⟩
    (fun x T => (T.setIfInBounds 9 (.int .u64 x.1)).setIfInBounds 4 (.int .u64 x.1)) ?assign ?body ?done ?stop)
  case assign =>
    intro l x W K hK
    simp only [List.setIfInBounds_toArray, List.set_cons_succ, List.set_cons_zero] at hK
    dsimp only [encU]
    gi_wp2
    exact hK
  case body =>
    rintro l pre ⟨s, hs1, hs2⟩ W ⟨hof, v, hblk, hown⟩ hlen
    have HX1W : Hid (Blk W w.heap.size 88 #[(.pointer (some ⟨d, 0, none⟩))]) := (hof.block _ (by omega) (by omega) (by omega)).trans HX1.out
    have HX2W : Hid (Blk W (w.heap.size + 1) 101 #[.iface 98 (.agg #[])]) := (hof.block _ (by omega) (by omega) (by omega)).trans HX2.out
    have t1 := HX1W.out.cell 0
    have t3 := HX2W.out.cell 0
    have HSL := Lib.hid (selL_snoc (p := p) pre ⟨s, hs1, hs2⟩)
    simp only [List.setIfInBounds_toArray, List.set_cons_succ, List.set_cons_zero]
    simp at t1 t3
    have hsz := hof.size
    have hln : (selL p pre).length ≤ 1024 := by have h1 := selL_le (p := p) pre; have h2 : full fl < 1024 := by { unfold full; have h := Nat.pow_le_pow_right (n := 2) (by omega) hn10; omega }; omega
    have hw1 : w.heap.size < W.heap.size := by omega
    have hw2 : w.heap.size + 1 < W.heap.size := by omega
    have HOF := Lib.hid hof
    have HOW := Lib.hid hown
    have HBK := Lib.hid hblk
    have HSW : Hid (ShedS W r d ga fl low top bales wa wl wc v p) := HDX.out.with_ (fun b hb => hof.block b (by have := HDX.out.hd; omega) (by have := HDX.out.hd; omega) (by have := HDX.out.hd; omega)) hblk
    clear hof hown hblk
    have hmi := is_sure "shearworks/press.is" W (by kernel_rfl)
    gi_wp2
    refine ⟨trivial, (callsIn_wide.2 ((sure_any HV.out s (by rw [HN.out]; unfold full at hs2; have := Nat.two_pow_pos fl; omega) W (HSW.out.shed (by omega) HWL.out)).mono ?_)).inRound l⟩
    rintro e w1 ⟨rfl, hb1⟩
    have HB1 : Hid (Below W.heap.size W w1) := hb1
    have HOW1 : Hid (w1.ownsRow W0.heap.size 93 1 v (selL p pre).length ((selL p pre).flatMap unF)) := own_below HOW.out hb1
    have HOF1 : Hid (OnF W0.heap.size d d W0 w1) := HOF.out.trans (OnF.below hb1 hsz)
    have HBK1 : Hid (Blk w1 d 132 (shedCs ga fl fl low top bales wa wl wc v r)) := HBK.out.below hb1 HBK.out.lt
    have hsz1 : W.heap.size ≤ w1.heap.size := hb1.size
    clear hb1
    cases hsu : p.sure s
    · rw [hsu] at HSL
      gi_wp2
      exact ⟨keepsFrom_below HB1.out, trivial, HOF1.out, v, HBK1.out, by rw [HSL.out]; exact HOW1.out⟩
    · rw [hsu] at HSL
      have hown := HOW1.out
      have d5 := HBK1.out.cell 5
      have t1' : w1.cell? ⟨w.heap.size, 0, none⟩ = some (.pointer (some ⟨d, 0, none⟩)) := (HB1.out.cell (p := ⟨w.heap.size, 0, none⟩) hw1).trans t1
      simp [shedCs] at d5
      have hszw : W0.heap.size ≤ w1.heap.size := by omega
      have hw0 : w.heap.size < W0.heap.size := by omega
      have HS0 := Lib.hid hs0
      clear hs0
      gi_wp2
      refine HavG.wpIn_region_havoc (R := GA W0.heap.size 93 v (selL p pre).length ((selL p pre).flatMap unF) (.int .u64 s)) [(0,false),(1,false),(2,false),(3,false),(4,false),(5,false),(8,false),(9,false),(6,true),(7,true)] [10] (fun _ _ => False) (by kernel_rfl) (by kernel_rfl) (by kernel_rfl) (by rintro ⟨a, w, h⟩; exact h) (fun _ _ _ _ h => h.elim) ?_
      (apply HavG.hav_same (by simp only [List.getElem?_toArray, List.getElem?_cons_zero]; rfl) (by kernel_rfl); (focus (intro wv hgv _; have hcv : ∀ b o, b < W0.heap.size → wv.cell? ⟨b, o, none⟩ = _ := fun b o hb => World.cell?_of_block (a := ⟨b, o, none⟩) (GA.low hgv hown hszw hb); (try go_simp); try rfl; done)); simp only [Act.put, List.setIfInBounds_toArray, List.set_cons_succ, List.set_cons_zero])
      iterate 7 (apply HavG.hav_same (by simp only [List.getElem?_toArray, List.getElem?_cons_succ, List.getElem?_cons_zero]; rfl) (by kernel_rfl); (focus (intro wv hgv _; have hcv : ∀ b o, b < W0.heap.size → wv.cell? ⟨b, o, none⟩ = _ := fun b o hb => World.cell?_of_block (a := ⟨b, o, none⟩) (GA.low hgv hown hszw hb); (try go_simp); try rfl; done)); simp only [Act.put, List.setIfInBounds_toArray, List.set_cons_succ, List.set_cons_zero])
      refine HavG.hav_val_ghost (fun u wq => ∃ g, u = .slice (some ⟨g, 0, none⟩) 1 1 ∧ some g ≠ v.ownBlock ∧ wq.heap[g]? = some (.cells #[.int .u64 s] 93)) (by simp only [List.getElem?_toArray, List.getElem?_cons_succ, List.getElem?_cons_zero]; rfl) (by kernel_rfl) ?_ ?_ (fun u => ?_)
      · rintro u a b ⟨g, rfl, hn, hg⟩ hG
        exact ⟨g, rfl, hn, (hG.1.block g (Array.getElem?_eq_some_iff.1 hg).1 hn).trans hg⟩
      · intro wv hgv _
        refine ⟨.slice (some ⟨wv.heap.size, 0, none⟩) 1 1, wv.alloc (.cells #[.int .u64 s] 93), ?_, GA.below ((Below.refl _ _).alloc (Nat.le_refl _) _), wv.heap.size, rfl, fun e => ?_, heap_alloc_new wv _⟩
        · go_simp
          try rfl
        · have := ((hgv.2.1 hown).lt _ e.symm).2
          omega
      simp only [Act.put, List.setIfInBounds_toArray, List.set_cons_succ, List.set_cons_zero]
      refine HavG.hav_val_ghost (fun u wq => wq.ownsRow W0.heap.size 93 1 u ((selL p pre).length + 1) ((selL p pre).flatMap unF ++ [.int .u64 s])) (by simp only [List.getElem?_toArray, List.getElem?_cons_succ, List.getElem?_cons_zero]; rfl) (by kernel_rfl) (fun _ _ _ h hG => hG.2.2 _ h) ?_ (fun u2 => ?_)
      · rintro wv hgv ⟨_, g, rfl, hne, hh⟩
        obtain ⟨i0, hi, hz0, hz1, hz2'⟩ := info_parts Try.infoE93
        obtain ⟨v', w', hrun, ho1, hgr, ho2, ho3⟩ := append_keep (P := Try.prog) W0.heap.size 107 107 93 i0 (.int .u64 0) 8 Try.underlying107 hi hz0 hz1 hz2' rfl v _ _ (hgv.2.1 hown) ⟨g, 0, none⟩ 1 (.int .u64 s) (Blk.cell hh 0) rfl (by omega) (by omega) (Nat.le_trans hszw hgv.1.size)
        exact ⟨v', w', append_oper rfl rfl rfl hrun, ⟨hgr, fun _ => ho2, ho3⟩, ho1⟩
      simp only [Act.put, List.setIfInBounds_toArray, List.set_cons_succ, List.set_cons_zero]
      refine HavG.hav_end (fun w2 hg2 hF => ?_)
      simp only [List.filterMap]
      have hown2 : w2.ownsRow W0.heap.size 93 1 u2 (selL p pre ++ [s]).length ((selL p pre ++ [s]).flatMap unF) := by
        have h := hF.2
        rw [List.length_append, List.flatMap_append]
        exact h
      obtain ⟨A3, c3, hv3, _, _⟩ := own_rd unF_len (by decide) hown2
      obtain ⟨m3, hm3⟩ : ∃ m, (selL p pre ++ [s]).length = m := ⟨_, rfl⟩
      rw [hm3] at hv3
      subst hv3
      have HO2 := Lib.hid hown2
      have HK2 : Hid (Blk w2 d 132 (shedCs ga fl fl low top bales wa wl wc v r)) := (GA.low hg2 hown hszw hdX).trans HBK1.out
      have k0 : w2.cell? ⟨d, 5, none⟩ = some v := HK2.out.cell 5
      have k1 := HK2.out.frozen 5
      clear hF hown2
      go_wp2
      gi_wp2
      have hkf : KeepsFrom W0.heap.size W (w2.setCell ⟨d, 5, none⟩ (.slice A3 m3 c3)) := ((keepsFrom_below HB1.out).trans (keepsFrom_own hown hg2.1)).trans (keepsFrom_set hdX _)
      have hsz2 := hg2.1.size
      refine ⟨hkf, trivial, ⟨?_, ?_, ?_, ?_, fun k h1 h2 h3 => (Below.heap_setCell w2 ⟨d, 5, none⟩ _ k h3).trans ((GA.low hg2 hown hszw h1).trans (HOF1.out.block k h1 h2 h3))⟩, .slice A3 m3 c3, ?_, ?_⟩
      · exact hg2.1.os.trans HOF1.out.os
      · exact hg2.1.tape.trans HOF1.out.tape
      · exact hg2.1.output.trans HOF1.out.output
      · simp [World.setCell]; omega
      · exact HK2.out.set_ 5 _
      · have hsl := HSL.out
        simp only [if_true] at hsl
        rw [hsl]
        exact own_keep HO2.out fun g hg => Below.heap_setCell w2 ⟨d, 5, none⟩ _ g (by have := (HO2.out.lt g hg).1; show g ≠ d; omega)
  case done =>
    rintro D ys W hD hys hi hdef
    have HI2 := Lib.hid ((RdyI.own (r := r) (ga := ga) (fl := fl) (low := low) (top := top) (bales := bales) (wa := wa) (wl := wl) (wc := wc) (p := p) W0 hdX).putObj (.deferred none) hi hD hdef rfl)
    have t1 : W.cell? ⟨w.heap.size, 0, none⟩ = some (.pointer (some ⟨d, 0, none⟩)) := (show Blk W w.heap.size 88 #[(.pointer (some ⟨d, 0, none⟩))] from (hi.1.block w.heap.size (by omega) (by omega) (by omega)).trans HX1.out).cell 0
    have hw1 : w.heap.size < W.heap.size := by have := hi.1.size; omega
    clear hi
    go_wp2
    refine ⟨by simp, .inl ⟨_, _, rfl, run_takeDeferred hdef, ?_⟩⟩
    refine ⟨_, results_tmp rfl _ _ _, rfl, ?_⟩
    obtain ⟨hof, v, h1, h2⟩ := HI2.out
    have hsel : selL p ys = p.sets := by unfold selL; rw [hys, HSE.out]
    rw [hsel] at h2
    exact ⟨(OnF.below HB0.out (Nat.le_refl _)).trans (hof.mono (by omega)), v, h1, own_base h2 (by omega)⟩
  case stop =>
    rintro D c pre W _ _ h _
    exact h.elim
end
end Go.Proofs.Ytbfjebglaimcmaa
