import Derived.Test.YthjgcapfojhfjaaHw
import Derived.Test.YthjgcapfojhfjaaP6
import Derived.Test.YthjgcapfojhfjaaP7
import Derived.Test.YthjgcapfojhfjaaP7
import Derived.Test.YthjgcapfojhfjaaP5
import Derived.Test.YthjgcapfojhfjaaP7
import Derived.Test.YthjgcapfojhfjaaP3
import Derived.Test.YthjgcapfojhfjaaP1
/- The walk of the law FnExactLoopsOf. -/
namespace Go.Proofs.Ythjgcapfojhfjaa.P
open Go.RowKit Go.Proofs.YthjgcapfojhfjaaW.PrintWords Go.Proofs.YthjgcapfojhfjaaW.PrintLast Go.Proofs.YthjgcapfojhfjaaW.PrintMore
set_option maxHeartbeats 4000000 in
set_option maxRecDepth 100000 in
theorem laws_FnExactLoopsOf.path (k : Nat) (a0 : Int) (A1 : Option Addr) (c1 : Nat) (l1 : List (List Int)) (t : Int) (r : List (List Int)) (ok0 : Bool) (k1 : Int) (l2 : List (List Int)) (m : Int) (r2 : List (List Int)) (w : World)
    (hr1 : Kd.C (Kd.slice 3 (Kd.int .i64)) w A1 l1.length l1) (hc1 : l1.length ≤ c1)
    (hsz : laws_szIntSS.f k l1 1048576 = some t) (ht : decide (t < 0) = false) (hto : laws_toIntSS.f k l1 = some l1) (hs : spec_LoopsOf.f k a0 l1  = some (r, ok0)) (hi : impl_LoopsOf.f k a0 l1  = some (r, ok0))
    (heq : laws_eqIntSS.f k r r = some true) (heqS : laws_eqIntSS.f k l1 l1 = some true) (hmS : laws_markIntSS.f k l1 1 = some (k1, l2)) (hk1 : decide (k1 < 0) = false) (hm : laws_markIntSS.f k r 1 = some (m, r2)) (hh : laws_heldIntSS.f k r2 1 = some m) (hm0 : decide (m < 0) = false) :
    Calls Try.prog 6 #[.int .i64 a0, .slice A1 l1.length c1] w fun e w' => e = .returned (.bool true) ∧ Below w.heap.size w w' := by
  have hbb0 : (ok0 != ok0) = false := bne_self_eq_false' ok0
  have hmm : (m != m) = false := bne_self_eq_false' m
  have Hhsz_ := Aside0.mk hsz
  clear hsz
  have Hhto_ := Aside0.mk hto
  clear hto
  have Hhs_ := Aside0.mk hs
  clear hs
  have Hhi_ := Aside0.mk hi
  clear hi
  have Hheq_ := Aside0.mk heq
  clear heq
  have HheqS_ := Aside0.mk heqS
  clear heqS
  have HhmS_ := Aside0.mk hmS
  clear hmS
  have Hhm_ := Aside0.mk hm
  clear hm
  have Hhh_ := Aside0.mk hh
  clear hh
  go_enter Try.func6, Try.ntmps6
  have HB := Aside0.mk (Below.refl w.heap.size w)
  have HRL := Aside0.mk hr1
  have HCL := Aside0.mk hc1
  clear hr1 hc1
  go_wp2_with fail
  refine (laws_szIntSS.calls k _ _ l1 1048576 t _ (Kd.C_below HRL.out HB.out) HCL.out Hhsz_.out).mono ?_
  rintro e w1 ⟨rfl, hd_⟩
  have hb_ : Below w.heap.size w w1 := hd_.below; clear hd_
  have n_ := Aside0.mk (below_step HB.out hb_); clear HB; have HB := n_; clear n_
  have Z0 := Aside0.mk (show w.heap.size ≤ w1.heap.size from hb_.size)
  clear hb_
  go_wp2_with fail
  refine (laws_toIntSS.calls k _ _ l1 l1 _ (Kd.C_below HRL.out HB.out) HCL.out Hhto_.out).mono ?_
  rintro e w2 ⟨vs, rfl, hvs, hb_⟩
  have fs := InS.of_new hvs (below_size HB.out); clear hvs
  obtain ⟨As, cs, rfl⟩ := fs.slice
  have ns := Aside0.mk fs; clear fs
  have n_ := Aside0.mk (below_step HB.out hb_); clear HB; have HB := n_; clear n_
  have Z1 := Aside0.mk (show w1.heap.size ≤ w2.heap.size from hb_.size)
  clear hb_
  have Fs := ns; clear ns
  go_wp2_with fail
  refine (spec_LoopsOf.calls k a0 _ _ l1 r ok0 _ (Fs.out.reads).2.2 (Fs.out.len) Hhs_.out).mono ?_
  rintro e w3 ⟨vw, rfl, hvw, hb_⟩
  have fw := InS.of_new hvw (below_size HB.out); clear hvw
  obtain ⟨Aw, cw, rfl⟩ := fw.slice
  have nw := Aside0.mk fw; clear fw
  have n_ := Aside0.mk (Fs.out.below hb_); clear Fs; have Fs := n_; clear n_
  have n_ := Aside0.mk (below_step HB.out hb_); clear HB; have HB := n_; clear n_
  have Z2 := Aside0.mk (show w2.heap.size ≤ w3.heap.size from hb_.size)
  clear hb_
  have Fw := nw; clear nw
  go_wp2_with fail
  refine (laws_toIntSS.calls k _ _ l1 l1 _ (Kd.C_below HRL.out HB.out) HCL.out Hhto_.out).mono ?_
  rintro e w4 ⟨vx, rfl, hvx, hb_⟩
  have fx := InS.of_new hvx (below_size HB.out); clear hvx
  obtain ⟨Ax, cx, rfl⟩ := fx.slice
  have nx := Aside0.mk fx; clear fx
  have n_ := Aside0.mk (Fs.out.below hb_); clear Fs; have Fs := n_; clear n_
  have n_ := Aside0.mk (Fw.out.below hb_); clear Fw; have Fw := n_; clear n_
  have n_ := Aside0.mk (below_step HB.out hb_); clear HB; have HB := n_; clear n_
  have Z3 := Aside0.mk (show w3.heap.size ≤ w4.heap.size from hb_.size)
  clear hb_
  have Fx := nx; clear nx
  go_wp2_with fail
  refine (impl_LoopsOf.calls k a0 _ _ l1 r ok0 _ (Fx.out.reads).2.2 (Fx.out.len) Hhi_.out).mono ?_
  rintro e w5 ⟨vg, rfl, hvg, hb_⟩
  have fg := InS.of_new hvg (below_size HB.out); clear hvg
  obtain ⟨Ag, cg, rfl⟩ := fg.slice
  have ng := Aside0.mk fg; clear fg
  have n_ := Aside0.mk (Fs.out.below hb_); clear Fs; have Fs := n_; clear n_
  have n_ := Aside0.mk (Fw.out.below hb_); clear Fw; have Fw := n_; clear n_
  have n_ := Aside0.mk (Fx.out.below hb_); clear Fx; have Fx := n_; clear n_
  have n_ := Aside0.mk (below_step HB.out hb_); clear HB; have HB := n_; clear n_
  have Z4 := Aside0.mk (show w4.heap.size ≤ w5.heap.size from hb_.size)
  clear hb_
  have Fg := ng; clear ng
  go_wp2_with fail
  refine (laws_eqIntSS.calls k _ _ r _ _ r true _ (Fg.out.reads).2.2 (Fg.out.len) (Fw.out.reads).2.2 (Fw.out.len) Hheq_.out).mono ?_
  rintro e w6 ⟨rfl, hd_⟩
  have hb_ : Below w5.heap.size w5 w6 := hd_.below; clear hd_
  have n_ := Aside0.mk (Fs.out.below hb_); clear Fs; have Fs := n_; clear n_
  have n_ := Aside0.mk (Fw.out.below hb_); clear Fw; have Fw := n_; clear n_
  have n_ := Aside0.mk (Fx.out.below hb_); clear Fx; have Fx := n_; clear n_
  have n_ := Aside0.mk (Fg.out.below hb_); clear Fg; have Fg := n_; clear n_
  have n_ := Aside0.mk (below_step HB.out hb_); clear HB; have HB := n_; clear n_
  have Z5 := Aside0.mk (show w5.heap.size ≤ w6.heap.size from hb_.size)
  clear hb_
  go_wp2_with fail
  refine (laws_toIntSS.calls k _ _ l1 l1 _ (Kd.C_below HRL.out HB.out) HCL.out Hhto_.out).mono ?_
  rintro e w7 ⟨vy, rfl, hvy, hb_⟩
  have fy := InS.of_new hvy (below_size HB.out); clear hvy
  obtain ⟨Ay, cy, rfl⟩ := fy.slice
  have ny := Aside0.mk fy; clear fy
  have n_ := Aside0.mk (Fs.out.below hb_); clear Fs; have Fs := n_; clear n_
  have n_ := Aside0.mk (Fw.out.below hb_); clear Fw; have Fw := n_; clear n_
  have n_ := Aside0.mk (Fx.out.below hb_); clear Fx; have Fx := n_; clear n_
  have n_ := Aside0.mk (Fg.out.below hb_); clear Fg; have Fg := n_; clear n_
  have n_ := Aside0.mk (below_step HB.out hb_); clear HB; have HB := n_; clear n_
  have Z6 := Aside0.mk (show w6.heap.size ≤ w7.heap.size from hb_.size)
  clear hb_
  have Fy := ny; clear ny
  go_wp2_with fail
  refine (laws_eqIntSS.calls k _ _ l1 _ _ l1 true _ (Fx.out.reads).2.2 (Fx.out.len) (Fy.out.reads).2.2 (Fy.out.len) HheqS_.out).mono ?_
  rintro e w8 ⟨rfl, hd_⟩
  have hb_ : Below w7.heap.size w7 w8 := hd_.below; clear hd_
  have n_ := Aside0.mk (Fs.out.below hb_); clear Fs; have Fs := n_; clear n_
  have n_ := Aside0.mk (Fw.out.below hb_); clear Fw; have Fw := n_; clear n_
  have n_ := Aside0.mk (Fx.out.below hb_); clear Fx; have Fx := n_; clear n_
  have n_ := Aside0.mk (Fg.out.below hb_); clear Fg; have Fg := n_; clear n_
  have n_ := Aside0.mk (Fy.out.below hb_); clear Fy; have Fy := n_; clear n_
  have n_ := Aside0.mk (below_step HB.out hb_); clear HB; have HB := n_; clear n_
  have Z7 := Aside0.mk (show w7.heap.size ≤ w8.heap.size from hb_.size)
  clear hb_
  go_wp2_with fail
  refine (laws_markIntSS.calls k (fun k_ => w3.heap.size ≤ k_ ∧ k_ < w4.heap.size) _ l1 1 k1 l2 w _ HB.out Fx.out HhmS_.out).mono ?_
  rintro e w9 ⟨rfl, hr_, hb_, hk_⟩
  have n_ := Aside0.mk (Fs.out.kept hk_ (fun k_ h1_ h2_ h3_ => by have z0 := Z0.out; have z1 := Z1.out; have z2 := Z2.out; have z3 := Z3.out; have z4 := Z4.out; have z5 := Z5.out; have z6 := Z6.out; have z7 := Z7.out; omega)); clear Fs; have Fs := n_; clear n_
  have n_ := Aside0.mk (Fw.out.kept hk_ (fun k_ h1_ h2_ h3_ => by have z0 := Z0.out; have z1 := Z1.out; have z2 := Z2.out; have z3 := Z3.out; have z4 := Z4.out; have z5 := Z5.out; have z6 := Z6.out; have z7 := Z7.out; omega)); clear Fw; have Fw := n_; clear n_
  have n_ := Aside0.mk (Fg.out.kept hk_ (fun k_ h1_ h2_ h3_ => by have z0 := Z0.out; have z1 := Z1.out; have z2 := Z2.out; have z3 := Z3.out; have z4 := Z4.out; have z5 := Z5.out; have z6 := Z6.out; have z7 := Z7.out; omega)); clear Fg; have Fg := n_; clear n_
  have n_ := Aside0.mk (Fy.out.kept hk_ (fun k_ h1_ h2_ h3_ => by have z0 := Z0.out; have z1 := Z1.out; have z2 := Z2.out; have z3 := Z3.out; have z4 := Z4.out; have z5 := Z5.out; have z6 := Z6.out; have z7 := Z7.out; omega)); clear Fy; have Fy := n_; clear n_
  clear Fx
  have n_ := Aside0.mk hb_; clear HB; have HB := n_; clear n_
  have Z8 := Aside0.mk (show w8.heap.size ≤ w9.heap.size from hk_.1)
  clear hr_ hb_ hk_
  go_wp2_with fail
  refine (laws_eqIntSS.calls k _ _ r _ _ r true _ (Fg.out.reads).2.2 (Fg.out.len) (Fw.out.reads).2.2 (Fw.out.len) Hheq_.out).mono ?_
  rintro e w10 ⟨rfl, hd_⟩
  have hb_ : Below w9.heap.size w9 w10 := hd_.below; clear hd_
  have n_ := Aside0.mk (Fs.out.below hb_); clear Fs; have Fs := n_; clear n_
  have n_ := Aside0.mk (Fw.out.below hb_); clear Fw; have Fw := n_; clear n_
  have n_ := Aside0.mk (Fg.out.below hb_); clear Fg; have Fg := n_; clear n_
  have n_ := Aside0.mk (Fy.out.below hb_); clear Fy; have Fy := n_; clear n_
  have n_ := Aside0.mk (below_step HB.out hb_); clear HB; have HB := n_; clear n_
  have Z9 := Aside0.mk (show w9.heap.size ≤ w10.heap.size from hb_.size)
  clear hb_
  go_wp2_with fail
  refine (laws_markIntSS.calls k (fun k_ => w4.heap.size ≤ k_ ∧ k_ < w5.heap.size) _ r 1 m r2 w _ HB.out Fg.out Hhm_.out).mono ?_
  rintro e w11 ⟨rfl, hr_, hb_, hk_⟩
  have n_ := Aside0.mk (Fs.out.kept hk_ (fun k_ h1_ h2_ h3_ => by have z0 := Z0.out; have z1 := Z1.out; have z2 := Z2.out; have z3 := Z3.out; have z4 := Z4.out; have z5 := Z5.out; have z6 := Z6.out; have z7 := Z7.out; have z8 := Z8.out; have z9 := Z9.out; omega)); clear Fs; have Fs := n_; clear n_
  have n_ := Aside0.mk (Fw.out.kept hk_ (fun k_ h1_ h2_ h3_ => by have z0 := Z0.out; have z1 := Z1.out; have z2 := Z2.out; have z3 := Z3.out; have z4 := Z4.out; have z5 := Z5.out; have z6 := Z6.out; have z7 := Z7.out; have z8 := Z8.out; have z9 := Z9.out; omega)); clear Fw; have Fw := n_; clear n_
  have n_ := Aside0.mk (Fy.out.kept hk_ (fun k_ h1_ h2_ h3_ => by have z0 := Z0.out; have z1 := Z1.out; have z2 := Z2.out; have z3 := Z3.out; have z4 := Z4.out; have z5 := Z5.out; have z6 := Z6.out; have z7 := Z7.out; have z8 := Z8.out; have z9 := Z9.out; omega)); clear Fy; have Fy := n_; clear n_
  have n_ : Aside0 (InS _ _ w11 _ _ _ _ _) := Aside0.mk hr_; clear Fg; have Fg := n_; clear n_
  have n_ := Aside0.mk hb_; clear HB; have HB := n_; clear n_
  have Z10 := Aside0.mk (show w10.heap.size ≤ w11.heap.size from hk_.1)
  clear hr_ hb_ hk_
  have hc_ := (laws_heldIntSS.calls k _ _ r2 1 m w11 (Fg.out.reads).2.2 (Fg.out.len) Hhh_.out)
  rw [← Fg.out.reads.1] at hc_
  have HC_ := Aside0.mk hc_; clear hc_
  go_wp2_with fail
  refine HC_.out.mono ?_
  clear HC_
  rintro e w12 ⟨rfl, hd_⟩
  have hb_ : Below w11.heap.size w11 w12 := hd_.below; clear hd_
  have n_ := Aside0.mk (Fs.out.below hb_); clear Fs; have Fs := n_; clear n_
  have n_ := Aside0.mk (Fw.out.below hb_); clear Fw; have Fw := n_; clear n_
  have n_ := Aside0.mk (Fg.out.below hb_); clear Fg; have Fg := n_; clear n_
  have n_ := Aside0.mk (Fy.out.below hb_); clear Fy; have Fy := n_; clear n_
  have n_ := Aside0.mk (below_step HB.out hb_); clear HB; have HB := n_; clear n_
  have Z11 := Aside0.mk (show w11.heap.size ≤ w12.heap.size from hb_.size)
  clear hb_
  go_wp2_with fail
  refine (laws_toIntSS.calls k _ _ l1 l1 _ (Kd.C_below HRL.out HB.out) HCL.out Hhto_.out).mono ?_
  rintro e w13 ⟨vz, rfl, hvz, hb_⟩
  have fz := InS.of_new hvz (below_size HB.out); clear hvz
  obtain ⟨Az, cz, rfl⟩ := fz.slice
  have nz := Aside0.mk fz; clear fz
  have n_ := Aside0.mk (Fs.out.below hb_); clear Fs; have Fs := n_; clear n_
  have n_ := Aside0.mk (Fw.out.below hb_); clear Fw; have Fw := n_; clear n_
  have n_ := Aside0.mk (Fg.out.below hb_); clear Fg; have Fg := n_; clear n_
  have n_ := Aside0.mk (Fy.out.below hb_); clear Fy; have Fy := n_; clear n_
  have n_ := Aside0.mk (below_step HB.out hb_); clear HB; have HB := n_; clear n_
  have Z12 := Aside0.mk (show w12.heap.size ≤ w13.heap.size from hb_.size)
  clear hb_
  have Fz := nz; clear nz
  go_wp2_with fail
  refine (impl_LoopsOf.calls k a0 _ _ l1 r ok0 _ (Fz.out.reads).2.2 (Fz.out.len) Hhi_.out).mono ?_
  rintro e w14 ⟨vh, rfl, hvh, hb_⟩
  have fh := InS.of_new hvh (below_size HB.out); clear hvh
  obtain ⟨Ah, ch, rfl⟩ := fh.slice
  have nh := Aside0.mk fh; clear fh
  have n_ := Aside0.mk (Fs.out.below hb_); clear Fs; have Fs := n_; clear n_
  have n_ := Aside0.mk (Fw.out.below hb_); clear Fw; have Fw := n_; clear n_
  have n_ := Aside0.mk (Fg.out.below hb_); clear Fg; have Fg := n_; clear n_
  have n_ := Aside0.mk (Fy.out.below hb_); clear Fy; have Fy := n_; clear n_
  have n_ := Aside0.mk (Fz.out.below hb_); clear Fz; have Fz := n_; clear n_
  have n_ := Aside0.mk (below_step HB.out hb_); clear HB; have HB := n_; clear n_
  have Z13 := Aside0.mk (show w13.heap.size ≤ w14.heap.size from hb_.size)
  clear hb_
  have Fh := nh; clear nh
  go_wp2_with fail
  refine (laws_eqIntSS.calls k _ _ r _ _ r true _ (Fh.out.reads).2.2 (Fh.out.len) (Fw.out.reads).2.2 (Fw.out.len) Hheq_.out).mono ?_
  rintro e w15 ⟨rfl, hd_⟩
  have hb_ : Below w14.heap.size w14 w15 := hd_.below; clear hd_
  have n_ := Aside0.mk (Fs.out.below hb_); clear Fs; have Fs := n_; clear n_
  have n_ := Aside0.mk (Fw.out.below hb_); clear Fw; have Fw := n_; clear n_
  have n_ := Aside0.mk (Fg.out.below hb_); clear Fg; have Fg := n_; clear n_
  have n_ := Aside0.mk (Fy.out.below hb_); clear Fy; have Fy := n_; clear n_
  have n_ := Aside0.mk (Fz.out.below hb_); clear Fz; have Fz := n_; clear n_
  have n_ := Aside0.mk (Fh.out.below hb_); clear Fh; have Fh := n_; clear n_
  have n_ := Aside0.mk (below_step HB.out hb_); clear HB; have HB := n_; clear n_
  have Z14 := Aside0.mk (show w14.heap.size ≤ w15.heap.size from hb_.size)
  clear hb_
  have hc_ := (laws_heldIntSS.calls k _ _ r2 1 m w15 (Fg.out.reads).2.2 (Fg.out.len) Hhh_.out)
  rw [← Fg.out.reads.1] at hc_
  have HC_ := Aside0.mk hc_; clear hc_
  go_wp2_with fail
  refine HC_.out.mono ?_
  clear HC_
  rintro e w16 ⟨rfl, hd_⟩
  have hb_ : Below w15.heap.size w15 w16 := hd_.below; clear hd_
  have n_ := Aside0.mk (Fs.out.below hb_); clear Fs; have Fs := n_; clear n_
  have n_ := Aside0.mk (Fw.out.below hb_); clear Fw; have Fw := n_; clear n_
  have n_ := Aside0.mk (Fg.out.below hb_); clear Fg; have Fg := n_; clear n_
  have n_ := Aside0.mk (Fy.out.below hb_); clear Fy; have Fy := n_; clear n_
  have n_ := Aside0.mk (Fz.out.below hb_); clear Fz; have Fz := n_; clear n_
  have n_ := Aside0.mk (Fh.out.below hb_); clear Fh; have Fh := n_; clear n_
  have n_ := Aside0.mk (below_step HB.out hb_); clear HB; have HB := n_; clear n_
  have Z15 := Aside0.mk (show w15.heap.size ≤ w16.heap.size from hb_.size)
  clear hb_
  go_wp2_with fail
  go_ret
  exact ⟨rfl, HB.out⟩
set_option maxHeartbeats 4000000 in
set_option maxRecDepth 100000 in
theorem laws_FnExactLoopsOf.early (k : Nat) (a0 : Int) (A1 : Option Addr) (c1 : Nat) (l1 : List (List Int)) (t : Int) (w : World)
    (hr1 : Kd.C (Kd.slice 3 (Kd.int .i64)) w A1 l1.length l1) (hc1 : l1.length ≤ c1) (hsz : laws_szIntSS.f k l1 1048576 = some t) (ht : decide (t < 0) = true) :
    Calls Try.prog 6 #[.int .i64 a0, .slice A1 l1.length c1] w fun e w' => e = .returned (.bool true) ∧ Below w.heap.size w w' := by
  have HC := Aside0.mk (laws_szIntSS.calls k _ _ l1 1048576 t w hr1 hc1 hsz)
  clear hr1 hsz
  go_enter Try.func6, Try.ntmps6
  go_wp2_with fail
  refine HC.out.mono ?_
  rintro e w1 ⟨rfl, hd⟩
  have HD := Aside0.mk hd.below
  clear hd
  go_wp2_with fail
  go_ret
  exact ⟨rfl, HD.out⟩
/-- what every call of the law answers -/
def laws_FnExactLoopsOf.ans (k : Nat) (a0 : Int) (l1 : List (List Int)) : Prop :=
  (∃ t, laws_szIntSS.f k l1 1048576 = some t ∧ t < 0) ∨
  ∃ t r ok0 k1 l2 m r2, laws_szIntSS.f k l1 1048576 = some t ∧ 0 ≤ t ∧ laws_toIntSS.f k l1 = some l1 ∧ spec_LoopsOf.f k a0 l1  = some (r, ok0) ∧ impl_LoopsOf.f k a0 l1  = some (r, ok0) ∧ laws_eqIntSS.f k r r = some true ∧ laws_eqIntSS.f k l1 l1 = some true ∧ laws_markIntSS.f k l1 1 = some (k1, l2) ∧ 0 ≤ k1 ∧ laws_markIntSS.f k r 1 = some (m, r2) ∧ laws_heldIntSS.f k r2 1 = some m ∧ 0 ≤ m
theorem laws_FnExactLoopsOf.calls (k : Nat) (a0 : Int) (A1 : Option Addr) (c1 : Nat) (l1 : List (List Int)) (r : Bool) (w : World) (hr1 : Kd.C (Kd.slice 3 (Kd.int .i64)) w A1 l1.length l1) (hc1 : l1.length ≤ c1) (h : laws_FnExactLoopsOf.ans k a0 l1  ∧ r = true) :
    Calls Try.prog 6 #[.int .i64 a0, .slice A1 l1.length c1] w fun e w' => e = .returned (.bool r) ∧ Below w.heap.size w w' := by
  obtain ⟨h, rfl⟩ := h
  rcases h with ⟨t, h1, h2⟩ | ⟨t, r, ok0, k1, l2, m, r2, h1, h2, h3, h4, h5, h6, h7, h8, h9, h10, h11, h12⟩
  · exact laws_FnExactLoopsOf.early k a0 A1 c1 l1  t w hr1 hc1 h1 (decide_eq_true h2)
  · exact laws_FnExactLoopsOf.path k a0 A1 c1 l1  t r ok0 k1 l2 m r2 w hr1 hc1 h1 (decide_eq_false (by omega)) h3 h4 h5 h6 h7 h8 (decide_eq_false (by omega)) h10 h11 (decide_eq_false (by omega))
end Go.Proofs.Ythjgcapfojhfjaa.P
