/- The laws' truth, whole. Conditions: the river is valid; the counter, the numbers. -/
import Derived.Test.YtiodmkokpfgkkaaLawTrulyD
namespace Go.Proofs.Ytiodmkokpfgkkaa
open Go.RowKit Go.Hav Go.Shelf Go.Sq
attribute [local go_sem] Oper.semAt_some
section
variable {b2 b4 c s fl fc ll lc B ul uc N : Nat} {fa la ua : Option Addr} {r : IRiv} {t : Tr} {dv pv : Value} {w0 w : World} {U : List Nat}
set_option maxRecDepth 100000 in
set_option maxHeartbeats 6400000 in
theorem truly36_any (hok : okR r = true) (hP : RvIn w0 B fa fl la ll r) (hU : UIn w0 B ua ul U) (hs : Blk w0 s 45 #[.slice ua ul uc]) (hBc : B ≤ c) (hBw : B ≤ w0.heap.size) (hc0 : c < w0.heap.size) (hsc : ¬ s = c) (hN : Cnt c N w0) (hNM : N ≤ 30) :
  Calls Try.prog 36 #[(.agg #[.int .i64 r.depth.lo, .int .i64 r.depth.hi, .int .i64 r.fall.lo, .int .i64 r.fall.hi, .int .i64 r.days, .slice fa fl fc, .slice la ll lc]), (.func (.func 98) #[] #[.pointer (some ⟨c, 0, none⟩), .pointer (some ⟨s, 0, none⟩)])] w0 (TrulyPost c fa fl fc r w0) := by
 obtain ⟨W, hW⟩ : ∃ W, W = (w0.alloc (.cells #[.int .i64 r.depth.lo, .int .i64 r.depth.hi, .int .i64 r.fall.lo, .int .i64 r.fall.hi, .int .i64 r.days, .slice fa fl fc, .slice la ll lc] 27)).alloc (.cells #[.int .i64 0, .int .i64 0, .int .i64 0, .int .i64 0, .int .i64 0, .slice none 0 0, .slice none 0 0] 27) := ⟨_, rfl⟩
 have HB : Below w0.heap.size w0 W := by rw [hW]; exact ((Below.refl _ _).alloc (Nat.le_refl _) _).alloc (by simp) _
 have h2 : Blk W w0.heap.size 27 #[.int .i64 r.depth.lo, .int .i64 r.depth.hi, .int .i64 r.fall.lo, .int .i64 r.fall.hi, .int .i64 r.days, .slice fa fl fc, .slice la ll lc] := by rw [hW]; exact (Blk.new w0 27 _).alloc _
 have h4 : Blk W (w0.heap.size + 1) 27 #[.int .i64 0, .int .i64 0, .int .i64 0, .int .i64 0, .int .i64 0, .slice none 0 0, .slice none 0 0] := by rw [hW]; exact Blk.new_ (by simp) 27 _
 have H : Hid (∀ (c0 c3 c5 c7 c9 c10 c11 c12 c13 c14 c15 c16 c17 c18 c19 c20 c21 c22 c23 c24 c25 c26 c27 c28 c29 c30 c31 c32 c33 c34 c35 c36 c37 c38 c39 c40 c41 c42 c43 c44 c45 c46 c47 c48 c49 c50 c51 c52 c53 c54 c55 c56 c57 c58 c59 c60 c61 c62 c63 c64 c65 c66 c67 c68 c69 c70 c71 c72 c73 c74 c75 c76 c77 c78 c79 c80 c81 c82 c83 c84 c85 c86 c87 : Value), Code.wp Try.prog (trulyK 2) (bodyPost Try.prog Try.f36 (TrulyPost c fa fl fc r w0)) ⟨(c0::(.func (.func 98) #[] #[.pointer (some ⟨c, 0, none⟩), .pointer (some ⟨s, 0, none⟩)])::(.pointer (some ⟨w0.heap.size, 0, none⟩))::c3::(.pointer (some ⟨w0.heap.size + 1, 0, none⟩))::c5::(.slice none 0 0)::c7::(.slice none 0 0)::c9::c10::c11::c12::c13::c14::c15::c16::c17::c18::c19::c20::c21::c22::c23::c24::c25::c26::c27::c28::c29::c30::c31::c32::c33::c34::c35::c36::c37::c38::c39::c40::c41::c42::c43::c44::c45::c46::c47::c48::c49::c50::c51::c52::c53::c54::c55::c56::c57::c58::c59::c60::c61::c62::c63::c64::c65::c66::c67::c68::c69::c70::c71::c72::c73::c74::c75::c76::c77::c78::c79::c80::c81::c82::c83::c84::c85::c86::c87::[]).toArray, []⟩ W) :=
  truly2 hok hP hU hs hBc hBw hc0 hsc (Turn.of_below HB) (hN.below HB) hNM h2 (Nat.le_refl _) h4 (by omega) (by omega)
 clear hok hP hU hs hBc hBw hc0 hsc hN hNM HB h2 h4
 go_enter Try.func36, Try.ntmps36
 conv => arg 2; whnf
 conv => arg 2; arg 2; arg 2; change trulyK 2
 go_wp2
 rw [← hW]
 exact H.out _ _ _ _ _ _ _ _ _ _ _ _ _ _ _ _ _ _ _ _ _ _ _ _ _ _ _ _ _ _ _ _ _ _ _ _ _ _ _ _ _ _ _ _ _ _ _ _ _ _ _ _ _ _ _ _ _ _ _ _ _ _ _ _ _ _ _ _ _ _ _ _ _ _ _ _ _ _ _ _ _ _ _
end
end Go.Proofs.Ytiodmkokpfgkkaa
