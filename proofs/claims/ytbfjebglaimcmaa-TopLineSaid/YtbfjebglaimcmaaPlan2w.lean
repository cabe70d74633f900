/- The walk of plan's closure on: it appends the sets of the plan; conditions: as of best, and what is wanted is the best. An append of one element: what the row held it still holds, also with the element behind it; conditions: the row is owned, elements are one cell each. -/
import Derived.Test.YtbfjebglaimcmaaPlan1
import Derived.Laws.CopyRow
namespace Go.Proofs.Ytbfjebglaimcmaa
open Go.RowKit Go.Hav
/-- Blocks below B are kept, but two. -/
structure OnF (B r l : Nat) (w w' : World) : Prop where
  os : w'.os = w.os
  tape : w'.tape = w.tape
  output : w'.output = w.output
  size : w.heap.size ≤ w'.heap.size
  block : ∀ k, k < B → k ≠ r → k ≠ l → w'.heap[k]? = w.heap[k]?
theorem OnF.refl (B r l : Nat) (w : World) : OnF B r l w w := ⟨rfl, rfl, rfl, Nat.le_refl _, fun _ _ _ _ => rfl⟩
theorem OnF.trans {B r l : Nat} {a b c : World} (h : OnF B r l a b) (k : OnF B r l b c) : OnF B r l a c :=
  ⟨k.os.trans h.os, k.tape.trans h.tape, k.output.trans h.output, Nat.le_trans h.size k.size, fun i h1 h2 h3 => (k.block i h1 h2 h3).trans (h.block i h1 h2 h3)⟩
theorem OnF.below {B r l : Nat} {a b : World} (h : Below a.heap.size a b) (hB : B ≤ a.heap.size) : OnF B r l a b := ⟨h.os, h.tape, h.output, h.size, fun k h1 _ _ => h.block k (by omega)⟩
theorem OnF.grown {B r l : Nat} {a b : World} {row : Option Nat} (h : a.grownBy b row) (hB : B ≤ a.heap.size) (hr : ∀ k, row = some k → B ≤ k ∨ k = r) : OnF B r l a b :=
  ⟨h.os, h.tape, h.output, h.size, fun k h1 h2 _ => h.block k (by omega) (fun e => by rcases hr k e.symm with h | h <;> omega)⟩
/-- What lies in memory when on is called: the shed, the variable of the list, on itself; the list so far, in a row of its own. -/
structure OnIn (w : World) (B r d : Nat) (sa : Option Addr) (n cp : Nat) (L : List Nat) (bs bl bo : Nat) (M : List Nat) : Prop where
  hB : B ≤ w.heap.size
  best : BestIn w r d sa n cp L
  rdB : RdG unF 1 w B sa L
  hd : d < B
  hr : r < B
  s : Blk w bs 88 #[(.pointer (some ⟨d, 0, none⟩))]
  o : Blk w bo 144 #[.func (.func 115) #[] #[.pointer (some ⟨bs, 0, none⟩), .pointer (some ⟨bl, 0, none⟩), .pointer (some ⟨bo, 0, none⟩)]]
  l : ∃ v, Blk w bl 107 #[v] ∧ w.ownsRow B 93 1 v M.length (M.flatMap unF) ∧ v.ownBlock ≠ some bl ∧ v.ownBlock ≠ some bo
  hs : bs < B
  sr : bs ≠ r
  sl : bs ≠ bl
  or : bo ≠ r
  ol : bo ≠ bl
  lr : bl ≠ r
  dl : d ≠ bl
  nl : ∀ off, sa ≠ some ⟨bl, off, none⟩
theorem Try.infoE93 : (Try.prog.info? 93).map (fun i => (i.zero, i.size, i.bytes)) = some (some (.int .u64 0), 1, 8) := by kernel_rfl
section
variable {B d r : Nat} {sa : Option Addr} {n cp : Nat} {L : List Nat} {bs bl bo : Nat} {M : List Nat}
theorem own_keep {w w' : World} {B e size n : Nat} {v : Value} {xs : List Value} (h : w.ownsRow B e size v n xs) (hb : ∀ g, v.ownBlock = some g → w'.heap[g]? = w.heap[g]?) : w'.ownsRow B e size v n xs := by
  refine ⟨h.1, ?_⟩
  rcases h.2 with h0 | ⟨g, cap, cur, rfl, hg, hh, rest⟩
  · exact .inl h0
  · exact .inr ⟨g, cap, cur, rfl, hg, (hb g rfl).trans hh, rest⟩
/-- The map alone was written, and what lies below it. -/
theorem OnIn.keep {w w' : World} (h : OnIn w B r d sa n cp L bs bl bo M) (hg : (GR r L).G w w') : OnIn w' B r d sa n cp L bs bl bo M := by
  have e : ∀ b, b < w.heap.size → b ≠ r → w'.heap[b]? = w.heap[b]? := fun b hb hn => hg.1.block b hb (fun e => hn (Option.some.inj e))
  have hB := h.hB
  obtain ⟨v, hv, hown, hne⟩ := h.l
  exact { h with hB := Nat.le_trans h.hB hg.1.size, best := h.best.keep hg, s := (e bs h.s.lt h.sr).trans h.s, o := (e bo h.o.lt h.or).trans h.o,
                 l := ⟨v, (e bl hv.lt h.lr).trans hv, own_keep hown fun g hg' => e g ((hown.lt g hg').2) (by have := (hown.lt g hg').1; have := h.hr; omega), hne⟩,
                 rdB := h.rdB.keep fun b hb ⟨off, ho⟩ => e b (by omega) (fun e => h.best.ne off (by rw [ho, e])) }
theorem OnIn.push {w w' : World} {M' : List Nat} {v : Value} (h : OnIn w B r d sa n cp L bs bl bo M) (hsz : w.heap.size ≤ w'.heap.size) (hk : ∀ k, k < B → k ≠ bl → w'.heap[k]? = w.heap[k]?) (hko : w'.heap[bo]? = w.heap[bo]?) (hkm : w'.heap[r]? = w.heap[r]?) (hb : Blk w' bl 107 #[v]) (ho : w'.ownsRow B 93 1 v M'.length (M'.flatMap unF)) (hne : v.ownBlock ≠ some bl ∧ v.ownBlock ≠ some bo) :
    OnIn w' B r d sa n cp L bs bl bo M' := by
  have hB := h.hB
  have e : ∀ o, w'.cell? ⟨d, o, none⟩ = w.cell? ⟨d, o, none⟩ := fun o => World.cell?_of_block (a := ⟨d, o, none⟩) (hk d h.hd h.dl)
  have hrd : RdG unF 1 w' B sa L := h.rdB.keep fun b hb ⟨off, ho⟩ => hk b hb (fun e => h.nl off (by rw [ho, e]))
  exact { h with hB := Nat.le_trans h.hB hsz, rdB := hrd, s := (hk bs h.hs h.sl).trans h.s, o := hko.trans h.o, l := ⟨v, hb, ho, hne⟩,
                 best := ⟨h.best.len, h.best.hn, h.best.hL, Nat.lt_of_lt_of_le h.best.hd hsz, h.best.hr, (e 5).trans h.best.c5, (e 6).trans h.best.c6, hrd.more (by omega), h.best.ne, h.best.map.keep hkm⟩ }
set_option maxRecDepth 100000 in
set_option maxHeartbeats 6400000 in
theorem on_step (b : Nat) (IH : Hid (∀ b', b = b' + 1 → ∀ (f h : Nat) (want : Int) (M : List Nat) (w : World), f < 1024 → want = bestF L b' f h → M.length + b' ≤ 10 → OnIn w B r d sa n cp L bs bl bo M →
      Calls Try.prog 115 #[restV f b' h, .int .i64 want, .pointer (some ⟨bs, 0, none⟩), .pointer (some ⟨bl, 0, none⟩), .pointer (some ⟨bo, 0, none⟩)] w fun e w' => e = .returned (.tuple #[]) ∧ OnIn w' B r d sa n cp L bs bl bo (M ++ planF L b' f h want) ∧ OnF B r bl w w'))
    (f h : Nat) (want : Int) (w : World) (h1 : f < 1024) (h2 : b ≤ 5) (hw : want = bestF L b f h) (hM : M.length + b ≤ 10) (hD : OnIn w B r d sa n cp L bs bl bo M) :
    Calls Try.prog 115 #[restV f b h, .int .i64 want, .pointer (some ⟨bs, 0, none⟩), .pointer (some ⟨bl, 0, none⟩), .pointer (some ⟨bo, 0, none⟩)] w fun e w' => e = .returned (.tuple #[]) ∧ OnIn w' B r d sa n cp L bs bl bo (M ++ planF L b f h want) ∧ OnF B r bl w w' := by
  have HD := Lib.hid hD
  have HW := Lib.hid hw
  have hwb : 0 ≤ want ∧ want ≤ 10 := by
    have e1 := bestF_nonneg (l := L) b f h
    have e2 := bestF_le (l := L) b f h
    have e3 := pop_bd f 10
    omega
  obtain ⟨w0, w1⟩ := hwb
  have hB := hD.hB
  by_cases hz : want = 0
  · have HP : Hid (planF L b f h want = []) := by
      show _ = _
      cases b with
      | zero => rfl
      | succ b => rw [planF, if_pos hz]
    have hzb : (want == 0) = true := by simp [hz]
    clear hD hw hz
    unfold restV
    go_enter Try.func115, Try.ntmps115
    go_wp2
    have hbw : Below w.heap.size w ((w.alloc (.cells #[.int .u64 f, .int .i64 b, .int .u64 h] 143)).alloc (.cells #[.int .i64 want] 3)) := ((Below.refl w.heap.size w).alloc (Nat.le_refl _) _).alloc (by simp) _
    refine bodyPost_ret (results_none rfl _ _ _) rfl ?_
    exact ⟨rfl, by rw [HP.out, List.append_nil]; exact HD.out.keep (GR.below hbw), OnF.below hbw hB⟩
  · cases b with
    | zero => rw [bestF] at hw; exact absurd hw hz
    | succ b =>
      have hzb : (want == 0) = false := by simp [hz]
      obtain ⟨s, hfs, hsm, hhs, hsub, hwt⟩ := find_some hw hz
      have HFS : Hid (L.find? (nextB L b f h want) = some s) := hfs
      have HPL : Hid (planF L (b + 1) f h want = s :: planF L b (dif f s) s (want - pop s 10)) := by show _ = _; rw [planF, if_neg hz, hfs]
      have HWT : Hid (want - pop s 10 = bestF L b (dif f s) s) := by show _ = _; omega
      have hs10 := hD.best.hL s hsm
      have q5 := hD.best.c5
      have hdw := hD.best.hd
      have y0 : w.cell? ⟨bs, 0, none⟩ = some (.pointer (some ⟨d, 0, none⟩)) := hD.s.cell 0
      have l1 := hD.s.lt
      have hr0 := hD.hr
      obtain ⟨v, hv, hown, hnl, hno⟩ := hD.l
      have HNE := Lib.hid (show v.ownBlock ≠ some bl ∧ v.ownBlock ≠ some bo from ⟨hnl, hno⟩)
      have HOL := Lib.hid hD.ol
      have HOO := Lib.hid hD.o.lt
      have HVL := Lib.hid hv.lt
      clear hnl hno
      have HV := Lib.hid hv
      have HO := Lib.hid hown
      have HGB := Lib.hid hown.lt
      have hlr := hD.lr
      have EG := Lib.hid (enters_of Try.func117 (by kernel_rfl) rfl)
      have hmf : ∀ (fn : Fn) (first cap : Array Value) (w : World), (Instr.makeFunc fn first cap).run Try.prog w = .ok (.func fn first cap) w := fun _ _ _ _ => rfl
      have hbn : ((b + 1 : Nat) : Int) = (b : Int) + 1 := by omega
      clear hD hw hz hfs hsm hhs hsub hwt hv hown
      unfold restV
      rw [hbn]
      go_enter Try.func115, Try.ntmps115
      go_wp2_with fail
      obtain ⟨W, hW⟩ : ∃ W, W = (w.alloc (.cells #[.int .u64 f, .int .i64 (b + 1), .int .u64 h] 143)).alloc (.cells #[.int .i64 want] 3) := ⟨_, rfl⟩
      have HBW : Hid (Below w.heap.size w W) := by rw [hW]; exact ((Below.refl w.heap.size w).alloc (Nat.le_refl _) _).alloc (by simp) _
      have HXW : Hid (Blk W w.heap.size 143 #[.int .u64 f, .int .i64 (b + 1), .int .u64 h]) := by rw [hW]; exact (Blk.new w 143 _).alloc _
      have HZW : Hid (Blk W (w.heap.size + 1) 3 #[.int .i64 want]) := by rw [hW]; exact Blk.new_ (by simp) _ _
      have HDW : Hid (OnIn W B r d sa n cp L bs bl bo M) := HD.out.keep (GR.below HBW.out)
      rw [← hW]
      clear hW
      refine (first_any 117 #[.pointer (some ⟨w.heap.size, 0, none⟩), .pointer (some ⟨bs, 0, none⟩), .pointer (some ⟨w.heap.size + 1, 0, none⟩)] (nextB L b f h want) EG.out W HDW.out.best (fun s hs wq hg => by
        have hD2 := HDW.out.keep hg
        exact next_any b f h s want w.heap.size bs (w.heap.size + 1) wq h1 (by omega) (HD.out.best.hL s hs) hD2.best ((hg.1.block _ HXW.out.lt (by intro e; have := Option.some.inj e; omega)).trans HXW.out) (by omega) hD2.s HD.out.sr ((hg.1.block _ HZW.out.lt (by intro e; have := Option.some.inj e; omega)).trans HZW.out) (by omega))).mono ?_
      rw [HFS.out]
      rintro e w2 ⟨rfl, hg2⟩
      have HD2 : Hid (OnIn w2 B r d sa n cp L bs bl bo M) := HDW.out.keep hg2
      have HX2 : Hid (Blk w2 w.heap.size 143 #[.int .u64 f, .int .i64 (b + 1), .int .u64 h]) := (hg2.1.block _ HXW.out.lt (by intro e; have := Option.some.inj e; omega)).trans HXW.out
      have HZ2 : Hid (Blk w2 (w.heap.size + 1) 3 #[.int .i64 want]) := (hg2.1.block _ HZW.out.lt (by intro e; have := Option.some.inj e; omega)).trans HZW.out
      have HF2 : Hid (OnF B r bl w w2) := (OnF.below HBW.out hB).trans (OnF.grown hg2.1 (by have := HBW.out.size; omega) (fun k e => .inr (Option.some.inj e).symm))
      have HV2 : Hid (Blk w2 bl 107 #[v]) := (hg2.1.block _ (by have := HBW.out.size; have := HVL.out; omega) (by intro e; have := Option.some.inj e; omega)).trans (HV.out.below HBW.out HVL.out)
      have HO2 : Hid (w2.ownsRow B 93 1 v M.length (M.flatMap unF)) := own_keep (own_below HO.out HBW.out) fun g hg => hg2.1.block g (by have := (HGB.out g hg).2; have := HBW.out.size; omega) (by intro e; have := Option.some.inj e; have := (HGB.out g hg).1; omega)
      clear hg2
      unfold firstV
      have hv : Blk w2 bl 107 #[v] := HV2.out
      have hown : w2.ownsRow B 93 1 v M.length (M.flatMap unF) := HO2.out
      have v0 : w2.cell? ⟨bl, 0, none⟩ = some v := hv.cell 0
      have v1 : w2.frozen? ⟨bl, 0, none⟩ = false := hv.frozen 0
      have l2 := hv.lt
      have HOWN := Lib.hid ((own_below hown ((Below.refl w2.heap.size w2).alloc (Nat.le_refl _) _)) : (w2.alloc (.cells #[.int .u64 s] 93)).ownsRow B 93 1 v M.length (M.flatMap unF))
      have hz2 : B ≤ w2.heap.size := by have := HF2.out.size; omega
      obtain ⟨i0, hi, hz0, hz1, hz2'⟩ := info_parts Try.infoE93
      have HI := Lib.hid hi
      have HI0 := Lib.hid hz0
      have HI1 := Lib.hid hz1
      have HI2 := Lib.hid hz2'
      have hwh : w.heap.size < w2.heap.size := HX2.out.lt
      have hwh1 : w.heap.size + 1 < w2.heap.size := HZ2.out.lt
      clear hv hown hi hz0 hz1 hz2'
      go_wp2_with (at_builtin; refine wpList_append_own_at _ rfl _ _ 107 rfl B 93 i0 _ 1 8 Try.underlying107 HI.out HI0.out HI1.out HI2.out rfl (by decide) _ _ _ rfl HOWN.out ⟨w2.heap.size, 0, none⟩ 1 1 (unF s) rfl rfl (news_block (Blk.new w2 93 _)) (by simp [unF, Value.oneCell']) (by unfold maxLen; omega) (by omega) (by simp; omega) ?_)
      intro v' w3 hown3 hgrow3 _ hwhere
      have hown3' : w3.ownsRow B 93 1 v' (M ++ [s]).length ((M ++ [s]).flatMap unF) := by rw [List.length_append, List.flatMap_append, List.flatMap_singleton]; exact hown3
      obtain ⟨A3, c3, hv3, _, _⟩ := own_rd unF_len (by decide) hown3'
      obtain ⟨m3, hm3⟩ : ∃ m3, (M ++ [s]).length = m3 := ⟨_, rfl⟩
      rw [hm3] at hv3
      subst hv3
      have hsz3 : w2.heap.size + 1 ≤ w3.heap.size := by have := hgrow3.size; simpa using this
      have hk3 : ∀ k, k < w2.heap.size → (∀ g, v.ownBlock = some g → k ≠ g) → w3.heap[k]? = w2.heap[k]? := fun k hk hn => (hgrow3.block k (by simp; omega) (fun e => hn k e.symm rfl)).trans (Below.heap_alloc w2 _ k hk)
      have HK3 := Lib.hid hk3
      have HV3 : Hid (Blk w3 bl 107 #[v]) := (hk3 bl l2 (fun g hg e => HNE.out.1 (by rw [hg, e]))).trans HV2.out
      have hbo2 : bo < w2.heap.size := HD2.out.o.lt
      have hne3 : (Value.slice A3 m3 c3).ownBlock ≠ some bl ∧ (Value.slice A3 m3 c3).ownBlock ≠ some bo := by
        rcases hwhere with h | h
        · rw [h]; exact HNE.out
        · rw [h]
          simp
          omega
      have HD4 : Hid (OnIn (w3.setCell ⟨bl, 0, none⟩ (.slice A3 m3 c3)) B r d sa n cp L bs bl bo (M ++ [s])) := by
        refine HD2.out.push (v := .slice A3 m3 c3) (by simp [World.setCell]; omega) (fun k hk hn => (Below.heap_setCell w3 ⟨bl, 0, none⟩ _ k hn).trans (hk3 k (by omega) (fun g hg e => by have := (HGB.out g hg).1; omega)))
          ((Below.heap_setCell w3 ⟨bl, 0, none⟩ _ bo HOL.out).trans (hk3 bo hbo2 (fun g hg e => HNE.out.2 (by rw [hg, e])))) ((Below.heap_setCell w3 ⟨bl, 0, none⟩ _ r (by show r ≠ bl; omega)).trans (hk3 r (by omega) (fun g hg e => by have := (HGB.out g hg).1; omega))) (HV3.out.set_ 0 _) ?_ hne3
        exact own_keep hown3' fun g hg => Below.heap_setCell w3 ⟨bl, 0, none⟩ _ g (fun e => hne3.1 (by rw [hg, e]))
      have HX4 : Hid (Blk (w3.setCell ⟨bl, 0, none⟩ (.slice A3 m3 c3)) w.heap.size 143 #[.int .u64 f, .int .i64 (b + 1), .int .u64 h]) := Blk.far ((hk3 _ hwh (fun g hg e => by have := (HGB.out g hg).2; omega)).trans HX2.out) (by show _ ≠ bl; have := HVL.out; omega) _
      have HZ4 : Hid (Blk (w3.setCell ⟨bl, 0, none⟩ (.slice A3 m3 c3)) (w.heap.size + 1) 3 #[.int .i64 want]) := Blk.far ((hk3 _ hwh1 (fun g hg e => by have := (HGB.out g hg).2; omega)).trans HZ2.out) (by show _ ≠ bl; have := HVL.out; omega) _
      have HF4 : Hid (OnF B r bl w (w3.setCell ⟨bl, 0, none⟩ (.slice A3 m3 c3))) := by
        refine HF2.out.trans ⟨?_, ?_, ?_, ?_, fun k h1 h2 h3 => (Below.heap_setCell w3 ⟨bl, 0, none⟩ _ k h3).trans (hk3 k (by omega) (fun g hg e => by have := (HGB.out g hg).1; omega))⟩
        · exact hgrow3.os
        · exact hgrow3.tape
        · exact hgrow3.output
        · simp [World.setCell]; omega
      have v2 : w3.cell? ⟨bl, 0, none⟩ = some v := HV3.out.cell 0
      have v3 : w3.frozen? ⟨bl, 0, none⟩ = false := HV3.out.frozen 0
      clear hown3 hown3' hgrow3 hk3 hm3 hne3 hwhere
      go_wp2_with fail
      generalize hW4 : w3.setCell ⟨bl, 0, none⟩ (.slice A3 m3 c3) = w4 at *
      clear hW4
      have o0 : w4.cell? ⟨bo, 0, none⟩ = some (.func (.func 115) #[] #[.pointer (some ⟨bs, 0, none⟩), .pointer (some ⟨bl, 0, none⟩), .pointer (some ⟨bo, 0, none⟩)]) := HD4.out.o.cell 0
      have lo := HD4.out.o.lt
      have x0 : w4.cell? ⟨w.heap.size, 0, none⟩ = some (.int .u64 f) := HX4.out.cell 0
      have x1 : w4.cell? ⟨w.heap.size, 1, none⟩ = some (.int .i64 (b + 1)) := HX4.out.cell 1
      have lx := HX4.out.lt
      have z0 : w4.cell? ⟨w.heap.size + 1, 0, none⟩ = some (.int .i64 want) := HZ4.out.cell 0
      have lz := HZ4.out.lt
      have HDF : Hid (bits BinOp.andNot IntKind.u64 (f : Int) (s : Int) = ((dif f s : Nat) : Int)) := not_u64 f s (by omega) (by omega)
      have HIB : Hid (IntKind.i64.wrap (b : Int) = b) := wrap_i64 (by omega) (by omega)
      have hp := pop_bd s 10
      obtain ⟨P, HP⟩ : ∃ P, Hid (pop s 10 = P) := ⟨_, rfl⟩
      rw [HP.out] at hp HWT HPL
      obtain ⟨hp0, hp1⟩ := hp
      have HWP : Hid (IntKind.i64.wrap (want - P) = want - P) := wrap_i64 (by omega) (by omega)
      have hdf : dif f s < 1024 := Nat.lt_of_le_of_lt (dif_le _ _) h1
      refine wp_region_havoc [(0,false),(1,false),(2,false),(3,false),(4,false),(5,false),(6,false),(7,false),(8,false),(9,false),(10,false),(11,false),(12,false),(13,false)] [14] (fun _ _ => False) (by kernel_rfl) (by kernel_rfl) (fun _ _ _ _ h => h.elim) ?_
      iterate 4 (apply hav_same (by simp only [List.getElem?_toArray, List.getElem?_cons_succ, List.getElem?_cons_zero]; rfl) (by kernel_rfl); (focus (intro wv hgv _; have hcv : ∀ b o, b < _ → wv.cell? ⟨b, o, none⟩ = _ := fun b o hb => Below.cell hgv (p := ⟨b, o, none⟩) hb; (try go_simp); try rfl; done)); simp only [Act.put, List.setIfInBounds_toArray, List.set_cons_succ, List.set_cons_zero])
      (apply hav_same (by simp only [List.getElem?_toArray, List.getElem?_cons_succ, List.getElem?_cons_zero]; rfl) (by kernel_rfl); (focus (intro wv hgv _; have hcv : ∀ b o, b < _ → wv.cell? ⟨b, o, none⟩ = _ := fun b o hb => Below.cell hgv (p := ⟨b, o, none⟩) hb; have hnt := HDF.out; (try go_simp); try rfl; done)); simp only [Act.put, List.setIfInBounds_toArray, List.set_cons_succ, List.set_cons_zero])
      iterate 2 (apply hav_same (by simp only [List.getElem?_toArray, List.getElem?_cons_succ, List.getElem?_cons_zero]; rfl) (by kernel_rfl); (focus (intro wv hgv _; have hcv : ∀ b o, b < _ → wv.cell? ⟨b, o, none⟩ = _ := fun b o hb => Below.cell hgv (p := ⟨b, o, none⟩) hb; (try go_simp); try rfl; done)); simp only [Act.put, List.setIfInBounds_toArray, List.set_cons_succ, List.set_cons_zero])
      (apply hav_same (by simp only [List.getElem?_toArray, List.getElem?_cons_succ, List.getElem?_cons_zero]; rfl) (by kernel_rfl); (focus (intro wv hgv _; have hcv : ∀ b o, b < _ → wv.cell? ⟨b, o, none⟩ = _ := fun b o hb => Below.cell hgv (p := ⟨b, o, none⟩) hb; have hib := HIB.out; (try go_simp); try rfl; done)); simp only [Act.put, List.setIfInBounds_toArray, List.set_cons_succ, List.set_cons_zero])
      iterate 4 (apply hav_same (by simp only [List.getElem?_toArray, List.getElem?_cons_succ, List.getElem?_cons_zero]; rfl) (by kernel_rfl); (focus (intro wv hgv _; have hcv : ∀ b o, b < _ → wv.cell? ⟨b, o, none⟩ = _ := fun b o hb => Below.cell hgv (p := ⟨b, o, none⟩) hb; (try go_simp); try rfl; done)); simp only [Act.put, List.setIfInBounds_toArray, List.set_cons_succ, List.set_cons_zero])
      (apply hav_call (by simp only [List.getElem?_toArray, List.getElem?_cons_succ, List.getElem?_cons_zero]; rfl) (by kernel_rfl); (focus (intro wv; go_simp; try exact ⟨rfl, rfl⟩; done)); (focus (intro wv hgv _; have hq := ones_any s hs10 wv; rw [HP.out] at hq; exact hq.mono fun e w' h => ⟨h.1, by rw [← h.2]; exact Below.refl _ _⟩; done)); simp only [Act.put, List.setIfInBounds_toArray, List.set_cons_succ, List.set_cons_zero])
      (apply hav_same (by simp only [List.getElem?_toArray, List.getElem?_cons_succ, List.getElem?_cons_zero]; rfl) (by kernel_rfl); (focus (intro wv hgv _; have hcv : ∀ b o, b < _ → wv.cell? ⟨b, o, none⟩ = _ := fun b o hb => Below.cell hgv (p := ⟨b, o, none⟩) hb; have hwp := HWP.out; (try go_simp); try rfl; done)); simp only [Act.put, List.setIfInBounds_toArray, List.set_cons_succ, List.set_cons_zero])
      refine hav_end (fun w5 hgw5 _ => ?_); simp only [List.filterMap]; have hcw5 : ∀ b o, b < _ → w5.cell? ⟨b, o, none⟩ = _ := fun b o hb => Below.cell hgw5 (p := ⟨b, o, none⟩) hb; have hfw5 : ∀ b o, b < _ → w5.frozen? ⟨b, o, none⟩ = _ := fun b o hb => Below.frozen hgw5 (p := ⟨b, o, none⟩) hb; have hzw5 := Below.size hgw5; (try simp at hzw5)
      have HG5 : Hid (Below w4.heap.size w4 w5) := hgw5
      clear hgw5 hcw5 hfw5
      go_wp2_with fail
      refine (IH.out b rfl (dif f s) s (want - P) (M ++ [s]) w5 hdf HWT.out (by simp; omega) (HD4.out.keep (GR.below HG5.out))).mono ?_
      rintro e w6 ⟨rfl, hD6, hF6⟩
      have HD6 := Lib.hid hD6
      have HF6 : Hid (OnF B r bl w w6) := (HF4.out.trans (OnF.below HG5.out (by have := HF4.out.size; omega))).trans hF6
      clear hD6 hF6
      go_wp2
      go_end0
      exact ⟨rfl, by rw [HPL.out, List.append_cons]; exact HD6.out, HF6.out⟩
theorem on_any (b : Nat) : ∀ (f h : Nat) (want : Int) (M : List Nat) (w : World), f < 1024 → b ≤ 5 → want = bestF L b f h → M.length + b ≤ 10 → OnIn w B r d sa n cp L bs bl bo M →
      Calls Try.prog 115 #[restV f b h, .int .i64 want, .pointer (some ⟨bs, 0, none⟩), .pointer (some ⟨bl, 0, none⟩), .pointer (some ⟨bo, 0, none⟩)] w fun e w' => e = .returned (.tuple #[]) ∧ OnIn w' B r d sa n cp L bs bl bo (M ++ planF L b f h want) ∧ OnF B r bl w w' := by
  induction b with
  | zero => intro f h want M w h1 h2 hw hM hD; exact on_step 0 (fun b' e => by omega) f h want w h1 h2 hw hM hD
  | succ b ih =>
    intro f h want M w h1 h2 hw hM hD
    exact on_step (b + 1) (fun b' e f h want M w a1 aw aM aD => by
      obtain rfl : b = b' := by omega
      exact ih f h want M w a1 (by omega) aw aM aD) f h want w h1 h2 hw hM hD
end
end Go.Proofs.Ytbfjebglaimcmaa
namespace Go.Proofs.Ytbfjebglaimcmaa
open Go.RowKit Go.Hav
theorem result_eq {α : Type} {r : Result α} {v v' : α} {w w' : World} (h : r = .ok v w) (h' : r = .ok v' w') : v = v' ∧ w = w' := by
  rw [h] at h'
  injection h' with h1 h2
  exact ⟨h1, h2⟩
section
variable {P : Program} {w : World}
theorem below_drew_alloc (w : World) (o : Obj) : Below w.heap.size w (w.drew.alloc o) := (Below.drew (Below.refl _ _)).alloc (Nat.le_refl _) _
theorem append_keep (base : Nat) (t ty e : TypeId) (i : TypeInfo) (z : Value) (bytes : Nat) (ht : P.underlying t = some (.slice e)) (hi : P.info? e = some i) (hz : i.zero = some z)
    (hsize : i.size = 1) (hby : i.bytes = bytes) (hzs : z.cells.size = 1) (v : Value) (n : Nat) (xs : List Value) (hown : w.ownsRow base e 1 v n xs)
    (a : Addr) (c : Nat) (u : Value) (hnews : w.cell? a = some u) (h1 : u.oneCell' = true) (h63 : n + 1 ≤ 100000) (hb : bytes ≤ 100000) (hbase : base ≤ w.heap.size) :
    ∃ v' w', (Builtin.append_ #[t, t] ty #[v, .slice (some a) 1 c]).run P w = .ok v' w' ∧ w'.ownsRow base e 1 v' (n + 1) (xs ++ [u]) ∧ w.grownBy w' v.ownBlock ∧ w'.ownsRow base e 1 v n xs ∧
      ∀ v2, w.ownsRow base e 1 v2 (n + 1) (xs ++ [u]) → w'.ownsRow base e 1 v2 (n + 1) (xs ++ [u]) := by
  have hnews' : ∀ j x, ([u] : List Value)[j]? = some x → w.cell? (a.add j) = some x := fun j x hx => by
    cases j with
    | zero => simp at hx; subst hx; simpa [Addr.add] using hnews
    | succ j => simp at hx
  have h1' : ∀ x ∈ [u], x.oneCell' = true := by simpa using h1
  have hbb : (n + 1) * bytes ≤ 140737488355328 := Nat.le_trans (Nat.mul_le_mul h63 hb) (by decide)
  obtain ⟨v', w', hrun, hown', hg, _⟩ := run_append_own (P := P) w base t ty e i z 1 bytes ht hi hz hsize hby hzs (by decide) v n xs hown a 1 c [u] rfl hnews' h1' (by unfold maxLen; omega) hbb hbase
  refine ⟨v', w', hrun, hown', hg, ?_⟩
  have key : Below w.heap.size w w' → w'.ownsRow base e 1 v n xs ∧ ∀ v2, w.ownsRow base e 1 v2 (n + 1) (xs ++ [u]) → w'.ownsRow base e 1 v2 (n + 1) (xs ++ [u]) :=
    fun hbl => ⟨own_below hown hbl, fun v2 h2 => own_below h2 hbl⟩
  rcases hown.2 with ⟨rfl, rfl⟩ | ⟨g, cap, cur, rfl, hbg, hgg, hnc, hcm, hcs, htake⟩
  · have hr := run_append_nil (P := P) w t ty e i z ht hi hz a 1 c [u] (by rw [hsize]; rfl) hnews' (by decide) (by decide) (by rw [hby]; omega)
    obtain ⟨_, rfl⟩ := result_eq hrun hr
    exact key (below_drew_alloc _ _)
  · by_cases hroom : n + 1 ≤ cap
    · have hfit : n * i.size + [u].length ≤ cur.size := by rw [hsize, hcs]; simp; omega
      have hr := run_append_room (P := P) w t ty e i ht hi g n cap cur hgg a 1 c [u] (by rw [hsize]; rfl) hnews' h1' hroom hfit
      obtain ⟨_, rfl⟩ := result_eq hrun hr
      rw [hsize, Nat.mul_one]
      have hset := setRow_heap w g cur (cur.toList.take n ++ [u] ++ cur.toList.drop (n + [u].length)).toArray e _ hgg
      have hxl : xs.length = n := by have := hown.1; omega
      have htk : cur.toList.take n = xs := by rw [← htake, Nat.mul_one]
      have hcl : cur.toList.length = cap := by simp; omega
      refine ⟨⟨hown.1, .inr ⟨g, cap, _, rfl, hbg, hset, hnc, hcm, ?_, ?_⟩⟩, fun v2 h2 => ⟨h2.1, ?_⟩⟩
      · simp; omega
      · simp [htk, hxl]
      · rcases h2.2 with ⟨rfl, hh⟩ | ⟨g2, cap2, cur2, rfl, hbg2, hgg2, hnc2, hcm2, hcs2, htake2⟩
        · omega
        · by_cases hgq : g2 = g
          · subst hgq
            rw [hgg] at hgg2
            injection hgg2 with hgg2
            injection hgg2 with hc1 _ _
            subst hc1
            have e1 : (cur.toList.take n ++ [u] ++ cur.toList.drop (n + [u].length)).toArray = cur := by
              rw [Nat.mul_one] at htake2
              rw [htk, ← htake2, List.length_singleton, List.take_append_drop]
            rw [e1] at hset
            exact .inr ⟨g2, cap2, cur, rfl, hbg2, by rw [e1]; exact hset, hnc2, hcm2, hcs2, htake2⟩
          · exact .inr ⟨g2, cap2, cur2, rfl, hbg2, (setRow_other w g g2 _ hgq).trans hgg2, hnc2, hcm2, hcs2, htake2⟩
    · have holds : ∀ j x, xs[j]? = some x → w.cell? ((⟨g, 0, none⟩ : Addr).add j) = some x := hown.cells (g := g) rfl
      have hr := run_append_grow (P := P) w t ty e i z ht hi hz ⟨g, 0, none⟩ n cap xs (by rw [hsize]; exact hown.1) holds a 1 c [u] (by rw [hsize]; rfl) hnews' (by omega) (by omega) (growslice_fits (by omega) (by rw [hby]; exact hbb))
      obtain ⟨_, rfl⟩ := result_eq hrun hr
      exact key (below_drew_alloc _ _)
end
end Go.Proofs.Ytbfjebglaimcmaa
