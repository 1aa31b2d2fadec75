/-
  PROVED: 'brevetlaw06.SignVerifies': for every key, message and signature it is told as the document says whether the signature is right. The listed variable (the words of the steps) is tied to the program's text by the card.
-/
import Derived.Test.YtdgheahbafnboaaGreatDoorCards
import Derived.Test.YtdgheahbafnboaaGreatDoorTie
import Derived.SevenTiedAt
import Derived.ProofKit
import Derived.OpenShut
import Derived.Test.YtdgheahbafnboaaGreatDoorJ4
import Derived.Test.YtdgheahbafnboaaGreatDoorJ5
import Derived.Test.YtdgheahbafnboaaGreatDoorJ2
import Derived.Test.YtdgheahbafnboaaGreatDoorJ1
namespace Go.Proofs.YtdgheahbafnboaaGreatDoor
set_option linter.unusedSimpArgs false
set_option linter.unusedVariables false
set_option maxRecDepth 100000
set_option maxHeartbeats 4000000
open Go.RowKit
theorem nadd_any {x1 y1 x2 y2 a b c e m k s ka ia x t kb ib y:Nat} (W:AddW x1 y1 x2 y2 a b c e m k s ka ia x t kb ib y) (p1:x1<PN) (p2:y1<PN) (p3:x2<PN) (p4:y2<PN) {A1 B1 A2 B2:Option Addr} {c1 d1 c2 d2:Nat} {w:World}
  (r1:Rd w w.heap.size A1 (DN x1)) (r2:Rd w w.heap.size B1 (DN y1)) (r3:Rd w w.heap.size A2 (DN x2)) (r4:Rd w w.heap.size B2 (DN y2)) :
  Calls Tryz.prog 15 #[.agg (pairV (.slice A1 32 c1) (.slice B1 32 d1)),.agg (pairV (.slice A2 32 c2) (.slice B2 32 d2))] w (PairPost x y w):=by
 have hpt:=Tryz.underlying32;obtain ⟨h1,h2,h3,h4,h5,h6,h7,h8,h9,h10,h11,h12,h13,h14⟩:=W;have l1:a<PN:=by rw [h1]; exact qav _
 have l2:b<PN:=by rw [h2]; exact qav _
 have l3:c<PN:=by rw [h3]; exact qav _
 have l4:e<PN:=by rw [h4]; exact qav _
 have l5:m<PN:=by rw [h5]; exact qav _
 have l6:k<PN:=by rw [h6]; exact qav _
 have l7:s<PN:=by rw [h7]; exact qav _
 have l8:ka<PN:=by rw [h8]; exact qav _
 have l9:ia<PN:=by rw [h9]; exact qav _
 have l10:x<PN:=by rw [h10]; exact qav _
 have l11:t<PN:=by rw [h11]; exact qav _
 have l12:kb<PN:=by rw [h12]; exact qav _
 have l13:ib<PN:=by rw [h13]; exact qav _
 have l14:y<PN:=by rw [h14]; exact qav _
 have C0:=zY (show ∀ u,Calls Tryz.prog 14 #[.int .i64 1] u (NumPost 1 u) from fun u=>nint 1 (by decide) u);have C1:=zY (show ∀ ww XA xc XB xd,Rd ww ww.heap.size XA (DN x1)→Rd ww ww.heap.size XB (DN y2)→Calls Tryz.prog 39 #[.slice XA 32 xc,.slice XB 32 xd] ww (NumPost a ww) from fun ww XA xc XB xd xh xk=>by rw [h1]; exact nmul p1 p4 xh xk);have C2:=zY (show ∀ ww XA xc XB xd,Rd ww ww.heap.size XA (DN y1)→Rd ww ww.heap.size XB (DN x2)→Calls Tryz.prog 39 #[.slice XA 32 xc,.slice XB 32 xd] ww (NumPost b ww) from fun ww XA xc XB xd xh xk=>by rw [h2]; exact nmul p2 p3 xh xk);have C3:=zY (show ∀ ww XA xc XB xd,Rd ww ww.heap.size XA (DN y1)→Rd ww ww.heap.size XB (DN y2)→Calls Tryz.prog 39 #[.slice XA 32 xc,.slice XB 32 xd] ww (NumPost c ww) from fun ww XA xc XB xd xh xk=>by rw [h3]; exact nmul p2 p4 xh xk);have C4:=zY (show ∀ ww XA xc XB xd,Rd ww ww.heap.size XA (DN x1)→Rd ww ww.heap.size XB (DN x2)→Calls Tryz.prog 39 #[.slice XA 32 xc,.slice XB 32 xd] ww (NumPost e ww) from fun ww XA xc XB xd xh xk=>by rw [h4]; exact nmul p1 p3 xh xk);have CD:=zY (show ∀ u,Calls Tryz.prog 36 #[] u (NumPost dN u) from fun u=>nd_any u);have C5:=zY (show ∀ ww XA xc XB xd,Rd ww ww.heap.size XA (DN e)→Rd ww ww.heap.size XB (DN c)→Calls Tryz.prog 39 #[.slice XA 32 xc,.slice XB 32 xd] ww (NumPost m ww) from fun ww XA xc XB xd xh xk=>by rw [h5]; exact nmul l4 l3 xh xk);have C6:=zY (show ∀ ww XA xc XB xd,Rd ww ww.heap.size XA (DN dN)→Rd ww ww.heap.size XB (DN m)→Calls Tryz.prog 39 #[.slice XA 32 xc,.slice XB 32 xd] ww (NumPost k ww) from fun ww XA xc XB xd xh xk=>by rw [h6]; exact nmul dN_lt l5 xh xk);have C7:=zY (show ∀ ww XA xc XB xd,Rd ww ww.heap.size XA (DN a)→Rd ww ww.heap.size XB (DN b)→Calls Tryz.prog 43 #[.slice XA 32 xc,.slice XB 32 xd] ww (NumPost s ww) from fun ww XA xc XB xd xh xk=>by rw [h7]; exact nadd l1 l2 xh xk);have C8:=zY (show ∀ ww XA xc XB xd,Rd ww ww.heap.size XA (DN 1)→Rd ww ww.heap.size XB (DN k)→Calls Tryz.prog 43 #[.slice XA 32 xc,.slice XB 32 xd] ww (NumPost ka ww) from fun ww XA xc XB xd xh xk=>by rw [h8]; exact nadd one_lt l6 xh xk);have C9:=zY (show ∀ ww XA xc,Rd ww ww.heap.size XA (DN ka)→Calls Tryz.prog 38 #[.slice XA 32 xc] ww (NumPost ia ww) from fun ww XA xc xh=>by rw [h9]; exact ninv l8 xh);have C10:=zY (show ∀ ww XA xc XB xd,Rd ww ww.heap.size XA (DN s)→Rd ww ww.heap.size XB (DN ia)→Calls Tryz.prog 39 #[.slice XA 32 xc,.slice XB 32 xd] ww (NumPost x ww) from fun ww XA xc XB xd xh xk=>by rw [h10]; exact nmul l7 l9 xh xk);have C11:=zY (show ∀ ww XA xc XB xd,Rd ww ww.heap.size XA (DN c)→Rd ww ww.heap.size XB (DN e)→Calls Tryz.prog 43 #[.slice XA 32 xc,.slice XB 32 xd] ww (NumPost t ww) from fun ww XA xc XB xd xh xk=>by rw [h11]; exact nadd l3 l4 xh xk);have C12:=zY (show ∀ ww XA xc XB xd,Rd ww ww.heap.size XA (DN 1)→Rd ww ww.heap.size XB (DN k)→Calls Tryz.prog 13 #[.slice XA 32 xc,.slice XB 32 xd] ww (NumPost kb ww) from fun ww XA xc XB xd xh xk=>by rw [h12]; exact nsub one_lt l6 xh xk);have C13:=zY (show ∀ ww XA xc,Rd ww ww.heap.size XA (DN kb)→Calls Tryz.prog 38 #[.slice XA 32 xc] ww (NumPost ib ww) from fun ww XA xc xh=>by rw [h13]; exact ninv l12 xh);have C14:=zY (show ∀ ww XA xc XB xd,Rd ww ww.heap.size XA (DN t)→Rd ww ww.heap.size XB (DN ib)→Calls Tryz.prog 39 #[.slice XA 32 xc,.slice XB 32 xd] ww (NumPost y ww) from fun ww XA xc XB xd xh xk=>by rw [h14]; exact nmul l11 l13 xh xk);generalize dN=D at *;obtain ⟨w0,hw0⟩:=eX (((w.alloc (.cells (pairV (.slice A1 32 c1) (.slice B1 32 d1)) 32)).alloc (.cells (pairV (.slice A2 32 c2) (.slice B2 32 d2)) 32)).alloc (.cells (pairV nilS nilS) 32));have hb0:Below w.heap.size w w0:=by rw [hw0]; exact ((below_new _ _).alloc (by simp) _).alloc (by simp; try omega) _
 have hp1:Blk w0 w.heap.size 32 (pairV (.slice A1 32 c1) (.slice B1 32 d1)):=by rw [hw0]; exact ((Blk.new _ _ _).alloc _).alloc _
 have hp2:Blk w0 (w.heap.size+1) 32 (pairV (.slice A2 32 c2) (.slice B2 32 d2)):=by rw [hw0]; exact (Blk.newAt (by simp)).alloc _
 have hp3:Blk w0 (w.heap.size+1+1) 32 (pairV nilS nilS):=by rw [hw0]; exact Blk.newAt (by simp)
 have HLR:=zY (show w.heap.size≤w.heap.size+1+1 by omega);have HB:=zY hb0;have HP1:=zY hp1;have HP2:=zY hp2;have HP:=zY hp3;have R1:=zY (qae r1 hb0);have R2:=zY (qae r2 hb0);have R3:=zY (qae r3 hb0);have R4:=zY (qae r4 hb0);have HW:=zY hw0;clear h1 h2 h3 h4 h5 h6 h7 h8 h9 h10 h11 h12 h13 h14 l1 l2 l3 l4 l5 l6 l7 l8 l9 l10 l11 l12 l13 l14 p1 p2 p3 p4 r1 r2 r3 r4 hw0 hb0 hp1 hp2 hp3;go_enter Tryz.func15,Tryz.ntmps15;go_wp2_with fail;show Calls _ _ _ (((w.alloc (.cells (pairV (.slice A1 32 c1) (.slice B1 32 d1)) _)).alloc (.cells (pairV (.slice A2 32 c2) (.slice B2 32 d2)) _)).alloc (.cells (pairV nilS nilS) _)) _;rw [← HW.out];generalize w.heap.size+1+1=g at *;generalize w.heap.size+1=g2 at *;generalize hg1:w.heap.size=g1 at HP1 ⊢;clear hg1 HW;refine qaa (C0.out _) ?_;rintro e u1 ⟨Aw1,cw1,rfl,hc,hr,hb⟩;replace HB:=zY (HB.out.trans (hb.mono HB.out.size));replace R1:=zY (qae R1.out hb);replace R2:=zY (qae R2.out hb);replace R3:=zY (qae R3.out hb);replace R4:=zY (qae R4.out hb);replace HP1:=zY (HP1.out.below hb HP1.out.lt);replace HP2:=zY (HP2.out.below hb HP2.out.lt);replace HP:=zY (HP.out.below hb HP.out.lt);have Rw1:=zY hr;have LEw1:=zY hc;clear hr hc hb;have d0:=(HP1.out.cell 0).trans (show (pairV (.slice A1 32 c1) (.slice B1 32 d1))[0]?=some (.slice A1 32 c1) from rfl);have d1':=(HP1.out.cell 1).trans (show (pairV (.slice A1 32 c1) (.slice B1 32 d1))[1]?=some (.slice B1 32 d1) from rfl);have d2':=(HP2.out.cell 0).trans (show (pairV (.slice A2 32 c2) (.slice B2 32 d2))[0]?=some (.slice A2 32 c2) from rfl);have d3:=(HP2.out.cell 1).trans (show (pairV (.slice A2 32 c2) (.slice B2 32 d2))[1]?=some (.slice B2 32 d2) from rfl);go_wp2_with fail;clear d0 d1' d2' d3;refine qaa (C1.out _ _ _ _ _ R1.out R4.out) ?_;rintro e u2 ⟨Aa,ca,rfl,hc,hr,hb⟩;replace HB:=zY (HB.out.trans (hb.mono HB.out.size));replace R1:=zY (qae R1.out hb);replace R2:=zY (qae R2.out hb);replace R3:=zY (qae R3.out hb);replace R4:=zY (qae R4.out hb);replace Rw1:=zY (qae Rw1.out hb);replace HP1:=zY (HP1.out.below hb HP1.out.lt);replace HP2:=zY (HP2.out.below hb HP2.out.lt);replace HP:=zY (HP.out.below hb HP.out.lt);have Ra:=zY hr;have LEa:=zY hc;clear hr hc hb;have d0:=(HP1.out.cell 0).trans (show (pairV (.slice A1 32 c1) (.slice B1 32 d1))[0]?=some (.slice A1 32 c1) from rfl);have d1':=(HP1.out.cell 1).trans (show (pairV (.slice A1 32 c1) (.slice B1 32 d1))[1]?=some (.slice B1 32 d1) from rfl);have d2':=(HP2.out.cell 0).trans (show (pairV (.slice A2 32 c2) (.slice B2 32 d2))[0]?=some (.slice A2 32 c2) from rfl);have d3:=(HP2.out.cell 1).trans (show (pairV (.slice A2 32 c2) (.slice B2 32 d2))[1]?=some (.slice B2 32 d2) from rfl);go_wp2_with fail;clear d0 d1' d2' d3;refine qaa (C2.out _ _ _ _ _ R2.out R3.out) ?_;rintro e u3 ⟨Ab,cb,rfl,hc,hr,hb⟩;replace HB:=zY (HB.out.trans (hb.mono HB.out.size));replace R1:=zY (qae R1.out hb);replace R2:=zY (qae R2.out hb);replace R3:=zY (qae R3.out hb);replace R4:=zY (qae R4.out hb);replace Rw1:=zY (qae Rw1.out hb);replace Ra:=zY (qae Ra.out hb);replace HP1:=zY (HP1.out.below hb HP1.out.lt);replace HP2:=zY (HP2.out.below hb HP2.out.lt);replace HP:=zY (HP.out.below hb HP.out.lt);have Rb:=zY hr;have LEb:=zY hc;clear hr hc hb;have d0:=(HP1.out.cell 0).trans (show (pairV (.slice A1 32 c1) (.slice B1 32 d1))[0]?=some (.slice A1 32 c1) from rfl);have d1':=(HP1.out.cell 1).trans (show (pairV (.slice A1 32 c1) (.slice B1 32 d1))[1]?=some (.slice B1 32 d1) from rfl);have d2':=(HP2.out.cell 0).trans (show (pairV (.slice A2 32 c2) (.slice B2 32 d2))[0]?=some (.slice A2 32 c2) from rfl);have d3:=(HP2.out.cell 1).trans (show (pairV (.slice A2 32 c2) (.slice B2 32 d2))[1]?=some (.slice B2 32 d2) from rfl);go_wp2_with fail;clear d0 d1' d2' d3;refine qaa (C3.out _ _ _ _ _ R2.out R4.out) ?_;rintro e u4 ⟨Ac,cc,rfl,hc,hr,hb⟩;clear R2;clear R4;replace HB:=zY (HB.out.trans (hb.mono HB.out.size));replace R1:=zY (qae R1.out hb);replace R3:=zY (qae R3.out hb);replace Rw1:=zY (qae Rw1.out hb);replace Ra:=zY (qae Ra.out hb);replace Rb:=zY (qae Rb.out hb);replace HP1:=zY (HP1.out.below hb HP1.out.lt);replace HP2:=zY (HP2.out.below hb HP2.out.lt);replace HP:=zY (HP.out.below hb HP.out.lt);have Rc:=zY hr;have LEc:=zY hc;clear hr hc hb;have d0:=(HP1.out.cell 0).trans (show (pairV (.slice A1 32 c1) (.slice B1 32 d1))[0]?=some (.slice A1 32 c1) from rfl);have d1':=(HP1.out.cell 1).trans (show (pairV (.slice A1 32 c1) (.slice B1 32 d1))[1]?=some (.slice B1 32 d1) from rfl);have d2':=(HP2.out.cell 0).trans (show (pairV (.slice A2 32 c2) (.slice B2 32 d2))[0]?=some (.slice A2 32 c2) from rfl);have d3:=(HP2.out.cell 1).trans (show (pairV (.slice A2 32 c2) (.slice B2 32 d2))[1]?=some (.slice B2 32 d2) from rfl);go_wp2_with fail;clear d0 d1' d2' d3;refine qaa (C4.out _ _ _ _ _ R1.out R3.out) ?_;rintro e u5 ⟨Ae,ce,rfl,hc,hr,hb⟩;clear R1;clear R3;clear HP1;clear HP2;replace HB:=zY (HB.out.trans (hb.mono HB.out.size));replace Rw1:=zY (qae Rw1.out hb);replace Ra:=zY (qae Ra.out hb);replace Rb:=zY (qae Rb.out hb);replace Rc:=zY (qae Rc.out hb);replace HP:=zY (HP.out.below hb HP.out.lt);have Re:=zY hr;have LEe:=zY hc;clear hr hc hb;go_wp2_with fail;refine qaa (CD.out _) ?_;rintro e u6 ⟨AD,cD,rfl,hc,hr,hb⟩;replace HB:=zY (HB.out.trans (hb.mono HB.out.size));replace Rw1:=zY (qae Rw1.out hb);replace Ra:=zY (qae Ra.out hb);replace Rb:=zY (qae Rb.out hb);replace Rc:=zY (qae Rc.out hb);replace Re:=zY (qae Re.out hb);replace HP:=zY (HP.out.below hb HP.out.lt);have RD:=zY hr;have LED:=zY hc;clear hr hc hb;go_wp2_with fail;refine qaa (C5.out _ _ _ _ _ Re.out Rc.out) ?_;rintro e u7 ⟨Am,cm,rfl,hc,hr,hb⟩;replace HB:=zY (HB.out.trans (hb.mono HB.out.size));replace Rw1:=zY (qae Rw1.out hb);replace Ra:=zY (qae Ra.out hb);replace Rb:=zY (qae Rb.out hb);replace Rc:=zY (qae Rc.out hb);replace Re:=zY (qae Re.out hb);replace RD:=zY (qae RD.out hb);replace HP:=zY (HP.out.below hb HP.out.lt);have Rm:=zY hr;have LEm:=zY hc;clear hr hc hb;go_wp2_with fail;refine qaa (C6.out _ _ _ _ _ RD.out Rm.out) ?_;rintro e u8 ⟨Ak,ck,rfl,hc,hr,hb⟩;clear RD;clear Rm;replace HB:=zY (HB.out.trans (hb.mono HB.out.size));replace Rw1:=zY (qae Rw1.out hb);replace Ra:=zY (qae Ra.out hb);replace Rb:=zY (qae Rb.out hb);replace Rc:=zY (qae Rc.out hb);replace Re:=zY (qae Re.out hb);replace HP:=zY (HP.out.below hb HP.out.lt);have Rk:=zY hr;have LEk:=zY hc;clear hr hc hb;go_wp2_with fail;refine qaa (C7.out _ _ _ _ _ Ra.out Rb.out) ?_;rintro e u9 ⟨As,cs,rfl,hc,hr,hb⟩;clear Ra;clear Rb;replace HB:=zY (HB.out.trans (hb.mono HB.out.size));replace Rw1:=zY (qae Rw1.out hb);replace Rc:=zY (qae Rc.out hb);replace Re:=zY (qae Re.out hb);replace Rk:=zY (qae Rk.out hb);replace HP:=zY (HP.out.below hb HP.out.lt);have Rs:=zY hr;have LEs:=zY hc;clear hr hc hb;go_wp2_with fail;refine qaa (C8.out _ _ _ _ _ Rw1.out Rk.out) ?_;rintro e u10 ⟨Aka,cka,rfl,hc,hr,hb⟩;replace HB:=zY (HB.out.trans (hb.mono HB.out.size));replace Rw1:=zY (qae Rw1.out hb);replace Rc:=zY (qae Rc.out hb);replace Re:=zY (qae Re.out hb);replace Rk:=zY (qae Rk.out hb);replace Rs:=zY (qae Rs.out hb);replace HP:=zY (HP.out.below hb HP.out.lt);have Rka:=zY hr;have LEka:=zY hc;clear hr hc hb;go_wp2_with fail;refine qaa (C9.out _ _ _ Rka.out) ?_;rintro e u11 ⟨Aia,cia,rfl,hc,hr,hb⟩;clear Rka;replace HB:=zY (HB.out.trans (hb.mono HB.out.size));replace Rw1:=zY (qae Rw1.out hb);replace Rc:=zY (qae Rc.out hb);replace Re:=zY (qae Re.out hb);replace Rk:=zY (qae Rk.out hb);replace Rs:=zY (qae Rs.out hb);replace HP:=zY (HP.out.below hb HP.out.lt);have Ria:=zY hr;have LEia:=zY hc;clear hr hc hb;go_wp2_with fail;refine qaa (C10.out _ _ _ _ _ Rs.out Ria.out) ?_;rintro e u12 ⟨Ax,cx,rfl,hc,hr,hb⟩;clear Rs;clear Ria;replace HB:=zY (HB.out.trans (hb.mono HB.out.size));replace Rw1:=zY (qae Rw1.out hb);replace Rc:=zY (qae Rc.out hb);replace Re:=zY (qae Re.out hb);replace Rk:=zY (qae Rk.out hb);replace HP:=zY (HP.out.below hb HP.out.lt);have Rx:=zY hr;have LEx:=zY hc;clear hr hc hb;go_wp2_with fail;refine qaa (C11.out _ _ _ _ _ Rc.out Re.out) ?_;rintro e u13 ⟨At,ct,rfl,hc,hr,hb⟩;clear Rc;clear Re;replace HB:=zY (HB.out.trans (hb.mono HB.out.size));replace Rw1:=zY (qae Rw1.out hb);replace Rk:=zY (qae Rk.out hb);replace Rx:=zY (qae Rx.out hb);replace HP:=zY (HP.out.below hb HP.out.lt);have Rt:=zY hr;have LEt:=zY hc;clear hr hc hb;go_wp2_with fail;refine qaa (C12.out _ _ _ _ _ Rw1.out Rk.out) ?_;rintro e u14 ⟨Akb,ckb,rfl,hc,hr,hb⟩;clear Rw1;clear Rk;replace HB:=zY (HB.out.trans (hb.mono HB.out.size));replace Rx:=zY (qae Rx.out hb);replace Rt:=zY (qae Rt.out hb);replace HP:=zY (HP.out.below hb HP.out.lt);have Rkb:=zY hr;have LEkb:=zY hc;clear hr hc hb;go_wp2_with fail;refine qaa (C13.out _ _ _ Rkb.out) ?_;rintro e u15 ⟨Aib,cib,rfl,hc,hr,hb⟩;clear Rkb;replace HB:=zY (HB.out.trans (hb.mono HB.out.size));replace Rx:=zY (qae Rx.out hb);replace Rt:=zY (qae Rt.out hb);replace HP:=zY (HP.out.below hb HP.out.lt);have Rib:=zY hr;have LEib:=zY hc;clear hr hc hb;go_wp2_with fail;refine qaa (C14.out _ _ _ _ _ Rt.out Rib.out) ?_;rintro e u16 ⟨Ay,cy,rfl,hc,hr,hb⟩;clear Rt;clear Rib;replace HB:=zY (HB.out.trans (hb.mono HB.out.size));replace Rx:=zY (qae Rx.out hb);replace HP:=zY (HP.out.below hb HP.out.lt);have Ry:=zY hr;have LEy:=zY hc;clear hr hc hb;go_wp2_with (refine qaf (x:=.tmp 4) (cells:=pairV (.slice Ax 32 cx) (.slice Ay 32 cy)) HP.out rfl rfl rfl rfl qat rfl (by simp [pairV,Value.oneCell']) ?_; intro u30 hb30 hw30; have HP30:=zY hb30; have HW30:=zY hw30; clear hb30 hw30);refine bodyPost_ret (qau (P:=Tryz.prog) rfl rfl HP30.out hpt rfl qat) rfl ?_;exact ⟨_,_,_,_,rfl,LEx.out,LEy.out,qaD (Rx.out.pair HP.out HW30.out) HW30.out.size,qaD (Ry.out.pair HP.out HW30.out) HW30.out.size,HW30.out.below HB.out HLR.out HB.out.size⟩
theorem rread_any {b:List UInt8} {y2 u t v i a x q:Nat} (W:OfW (yOf b) y2 u t v i a x q) {o:Option (Nat × Nat)}
  (ho:o=if b.length=32 then (if yOf b<PN then (ofR (rtV a x q) (rtB a x q) (oddOf b)).map fun z=>(z,yOf b) else none) else none)
  {A:Option Addr} {c:Nat} {w:World} (hr:Rd w w.heap.size A (bytesV b)) (hc:b.length≤c) (hmax:b.length≤1000) :
  Calls Tryz.prog 8 #[.slice A b.length c] w (RReadPost o w):=by
 have hpt:=Tryz.underlying32;obtain ⟨n,hn⟩:=eX (b.length);have HB:=zY (below_new w (.cells (pairV nilS nilS) 32));have HP:=zY (Blk.new w 32 (pairV nilS nilS))
 by_cases h32:b.length=32
 ·rw [if_pos h32] at ho;rw [h32];rw [h32] at hc;clear hn hmax;obtain ⟨Y,hY⟩:=eX (yOf b);obtain ⟨L,hL⟩:=eX (digs b);have hLl:L.length=32:=by rw [hL,digs,List.length_map,h32]
  have hLd:Dg L:=by rw [hL]; exact digs_lt b
  obtain ⟨d,hd⟩:=eX (L.getD 31 0);have hd256:d<256:=by rw [hd]; exact qaA hLd 31
  obtain ⟨M,hM⟩:=eX (rdL b);have hMs:L.set 31 (d%128)=M:=by rw [hM,hd,hL]; rfl
  have hMd:dV M=DN Y:=by rw [hM,hY]; exact rdL_dn h32
  have hMg:Dg M:=by rw [hM]; exact rdL_dg b
  have hMl:M.length=32:=by rw [hM]; exact rdL_len h32
  have hMv:leV M=Y:=by rw [hM,hY]; rfl
  have hodd:oddOf b=decide (128≤d):=by rw [hd,hL]; rfl
  obtain ⟨s,hs⟩:=eX (decide (Y<PN))
  have cD:=zY (show ∀ ww,Rd ww ww.heap.size A (bytesV b)→Calls Tryz.prog 29 #[.slice A 32 c] ww (OwnPostZ 3 32 (dV L) ww) from fun ww h=>by
   have q:=qep b A c ww h (by rw [h32]; exact hc) (by rw [h32]; decide);rw [h32,← hL] at q;exact q)
  have cL:=zY (show ∀ ww XA xc XB xd,Rd ww ww.heap.size XA (dV M)→Rd ww ww.heap.size XB (dV pL)→Calls Tryz.prog 30 #[.slice XA 32 xc,.slice XB 32 xd] ww (fun e w'=>e=.returned (.bool s)∧w'=ww) from fun ww XA xc XB xd h k=>by
   have q:=less_any M pL hMg pL_dg XA XB xc xd ww h k (by rw [hMl]; decide) (by rw [qcA]; decide);rw [hMl,qcA,hMv,qd6,← hs] at q;exact q)
  have cO:=zY (show s=true→∀ ww XA xc,32≤xc→Rd ww ww.heap.size XA (DN Y)→Calls Tryz.prog 32 #[.slice XA 32 xc,.bool (decide (128≤d))] ww (OfNPost (ofR (rtV a x q) (rtB a x q) (decide (128≤d))) (.slice XA 32 xc) ww) from fun hs1 ww XA xc hc xh=>by
   rw [hs,decide_eq_true_iff,hY] at hs1;rw [hY] at xh;exact nof_any W hs1 _ hc xh)
  rw [← hY,hodd] at ho;have ho2:o=if s then (ofR (rtV a x q) (rtB a x q) (decide (128≤d))).map fun z=>(z,Y) else none:=by rw [ho,hs]; simp
  generalize ofR (rtV a x q) (rtB a x q) (decide (128≤d))=R at *;have HO:=zY ho2;have HA:=zY (qae hr HB.out);have HMS:=zY hMs;have HMD:=zY hMd;have HLL:=zY hLl;have HDD:=zY hd;clear ho ho2 hr hMs hMd hMg hMl hMv hodd hs W hc hLl hLd hd hM hL hY;go_enter Tryz.func8,Tryz.ntmps8;go_wp2_with fail;refine qaa (cD.out _ HA.out) ?_;rintro e w1 ⟨A1,c1,rfl,hown,hb1⟩;obtain ⟨g1,ys,rfl,hg1,hc1,hblk⟩:=hown.blk (by decide);have HP1:=zY (HP.out.below hb1 HP.out.lt);have HB1:=zY (HB.out.trans (hb1.mono HB.out.size));have HG1:=zY (Nat.le_trans HB.out.size hg1);have HNE:=zY (show w.heap.size≠g1 from Nat.ne_of_lt (Nat.lt_of_lt_of_le HP.out.lt hg1));have HQ:=zY hblk;have HC1:=zY hc1;clear hown hb1 hg1 hc1 hblk HP HA HB;have hb2:(d:Int)<256:=by omega
  have dl:=HQ.out.cell 31
  rw [show (dV L++ys).toArray[31]?=some (.int .i64 (d:Int)) by
   rw [List.getElem?_toArray,List.getElem?_append_left (by rw [dV_len,HLL.out]; decide),List.getElem?_eq_getElem (by rw [dV_len,HLL.out]; decide),dV_at (by rw [HLL.out]; decide),HDD.out,List.getD_eq_getElem?_getD,List.getElem?_eq_getElem (by rw [HLL.out]; decide)]; rfl] at dl
  have hfr:=HQ.out.free 31;obtain ⟨od,hod⟩:=eX (decide (128≤d))
  have hge:(od=true∧(128:Int)≤d)∨(od=false∧decide ((128:Int)≤d)=false):=by
   rw [hod]
   by_cases h:128≤d
   ·left; exact ⟨decide_eq_true h,by omega⟩
   ·right; exact ⟨decide_eq_false h,decide_eq_false (by omega)⟩
  rw [← hod] at cO;clear hod
  rcases hge with ⟨rfl,hge⟩ | ⟨rfl,hge⟩
  all_goals
   go_wp2_with (refine qam (x:=.tmp 22) (i:=31) (v:=.int .i64 ((d%128:Nat):Int)) HQ.out rfl rfl rfl rfl qaS (by rw [List.size_toArray,List.length_append,dV_len,HLL.out]; omega) rfl ?_; intro w5 hb5 hw5; have HB5:=zY hb5; have HW5:=zY hw5; clear hb5 hw5);have hq:=HB5.out;rw [qcg (by rw [dV_len,HLL.out]; decide),dV_set',HMS.out,HMD.out] at hq;have HM5:=zY (Rd.of_blk hq hq.lt).front;have HP5:=zY (HW5.out.blk HP1.out HNE.out);have HBB:=zY (HW5.out.below HB1.out HG1.out HB1.out.size);clear hq dl hfr HB5 HW5 HQ HP1 HB1;refine qaa (p_any _) ?_;rintro e w6 ⟨A6,c6,rfl,hc6,hr6,hb⟩;rw [qcA];replace HBB:=zY (HBB.out.trans (hb.mono HBB.out.size));replace HP5:=zY (HP5.out.below hb HP5.out.lt);replace HM5:=zY (qae HM5.out hb);have HS:=zY (cL.out _ _ c1 _ c6 (by rw [HMD.out]; exact HM5.out) hr6);clear hc6 hr6 hb;go_wp2_with fail;refine qaa HS.out ?_;rintro e w7 ⟨rfl,hq⟩;have hq':=hq.symm;clear hq HS;subst hq'
   cases s
   ·go_wp2_with (refine qaf (x:=.tmp 2) (cells:=pairV nilS nilS) HP5.out rfl rfl rfl rfl qat rfl (by simp [pairV,nilS,Value.oneCell']) ?_; intro w7 hb7 hw7; have HP7:=zY hb7; have HW7:=zY hw7; clear hb7 hw7);refine bodyPost_ret (qap (P:=Tryz.prog) rfl rfl HP7.out hpt rfl qat) rfl ?_;rw [HO.out];exact ⟨HW7.out.below HBB.out (Nat.le_refl _) HBB.out.size,rfl⟩
   ·have HCO:=zY (cO.out rfl w6 (some ⟨g1,0,none⟩) c1 HC1.out HM5.out);go_wp2_with fail;refine qaa HCO.out ?_;rintro e w8 ⟨hb,hm⟩;replace HBB:=zY (HBB.out.trans (hb.mono HBB.out.size));replace HP5:=zY (HP5.out.below hb HP5.out.lt);replace HM5:=zY (qae HM5.out hb)
    cases R with
    | none =>
     obtain rfl:=hm;clear hb HCO;go_wp2_with (refine qaf (x:=.tmp 2) (cells:=pairV nilS nilS) HP5.out rfl rfl rfl rfl qat rfl (by simp [pairV,nilS,Value.oneCell']) ?_; intro w9 hb9 hw9; have HP9:=zY hb9; have HW9:=zY hw9; clear hb9 hw9);refine bodyPost_ret (qap (P:=Tryz.prog) rfl rfl HP9.out hpt rfl qat) rfl ?_;rw [HO.out];exact ⟨HW9.out.below HBB.out (Nat.le_refl _) HBB.out.size,rfl⟩
    | some z =>
     obtain ⟨A8,c8,rfl,hc8,hr8⟩:=hm;have HC8:=zY hc8;have HR8:=zY hr8;clear hb HCO hc8 hr8;go_wp2_with (refine qaf (x:=.tmp 2) (cells:=pairV (.slice A8 32 c8) (.slice (some ⟨g1,0,none⟩) 32 c1)) HP5.out rfl rfl rfl rfl qat rfl (by simp [pairV,Value.oneCell']) ?_; intro w9 hb9 hw9; have HP9:=zY hb9; have HW9:=zY hw9; clear hb9 hw9);refine bodyPost_ret (qap (P:=Tryz.prog) rfl rfl HP9.out hpt rfl qat) rfl ?_;rw [HO.out];exact ⟨HW9.out.below HBB.out (Nat.le_refl _) HBB.out.size,_,_,_,_,rfl,HC8.out,HC1.out,qaD (HR8.out.pair HP5.out HW9.out) HW9.out.size,qaD (HM5.out.pair HP5.out HW9.out) HW9.out.size⟩
 ·rw [if_neg h32] at ho;have h32':¬ (n:Int)=32:=by omega
  rw [← hn];subst ho;have HN:=zY h32;clear hn hmax hr hc W h32;go_enter Tryz.func8,Tryz.ntmps8;go_wp2_with (refine qaf (x:=.tmp 2) (cells:=pairV nilS nilS) HP.out rfl rfl rfl rfl qat rfl (by simp [pairV,nilS,Value.oneCell']) ?_; intro w7 hb7 hw7; have HP7:=zY hb7; have HW7:=zY hw7; clear hb7 hw7);refine bodyPost_ret (qap (P:=Tryz.prog) rfl rfl HP7.out hpt rfl qat) rfl ?_;exact ⟨HW7.out.below HB.out (Nat.le_refl _) HB.out.size,rfl⟩
section
variable {n:Nat} [NeZero n]
theorem g_k1 (d x1 y1 x2 y2:Fin n):1+d*(x1*x2*(y1*y2))=1+d*x1*x2*y1*y2:=by grind -lia
theorem g_k2 (d x1 y1 x2 y2:Fin n):1 - d*(x1*x2*(y1*y2))=1 - d*x1*x2*y1*y2:=by grind -lia
end
theorem addW_is {P Q:PtF} {a b c e m k s ka ia x t kb ib y:Nat} (W:AddW P.x.val P.y.val Q.x.val Q.y.val a b c e m k s ka ia x t kb ib y):x=(plus P Q).x.val∧y=(plus P Q).y.val:=by
 obtain ⟨h1,h2,h3,h4,h5,h6,h7,h8,h9,h10,h11,h12,h13,h14⟩:=W;have lka:ka<PN:=by rw [h8]; exact qav _
 have lkb:kb<PN:=by rw [h12]; exact qav _
 have lk:k<PN:=by rw [h6]; exact qav _
 have lx:x<PN:=by rw [h10]; exact qav _
 have ly:y<PN:=by rw [h14]; exact qav _
 have fk:fn k=dF*(P.x*Q.x*(P.y*Q.y)):=by rw [h6,qaL,h5,qaL,h4,qaL,h3,qaL,qbo,qbo,qbo,qbo,← dF]
 have fx:fn x=(plus P Q).x:=by
  show fn x=Ed.sumX dF ivF P.x P.y Q.x Q.y;rw [Ed.sumX,h10,qaL,h9,fn_inv lka,h8,qcM,fn_one,fk,g_k1,h7,qcM,h1,qaL,h2,qaL,qbo,qbo,qbo,qbo]
 have fy:fn y=(plus P Q).y:=by
  show fn y=Ed.sumY dF ivF P.x P.y Q.x Q.y;rw [Ed.sumY,h14,qaL,h13,fn_inv lkb,h12,fn_sub (Nat.le_of_lt lk),fn_one,fk,g_k2,h11,qcM,h3,qaL,h4,qaL,qbo,qbo,qbo,qbo]
 rw [← fx,← fy,qbj lx,qbj ly];exact ⟨rfl,rfl⟩
theorem addW_ex (x1 y1 x2 y2:Nat):∃ a b c e m k s ka ia x t kb ib y,AddW x1 y1 x2 y2 a b c e m k s ka ia x t kb ib y:=⟨_,_,_,_,_,_,_,_,_,_,_,_,_,_,⟨rfl,rfl,rfl,rfl,rfl,rfl,rfl,rfl,rfl,rfl,rfl,rfl,rfl,rfl⟩⟩
theorem ofW_ex (y:Nat):∃ y2 u t v i a x q,OfW y y2 u t v i a x q:=⟨_,_,_,_,_,_,_,_,⟨rfl,rfl,rfl,rfl,rfl,rfl,rfl,rfl⟩⟩
def PrV (x y:Nat) (v:Value) (u:World):Prop:=∃ A c B d,v=.agg (pairV (.slice A 32 c) (.slice B 32 d))∧32≤c∧32≤d∧Rd u u.heap.size A (DN x)∧Rd u u.heap.size B (DN y)
theorem PrV.next {x y:Nat} {v:Value} {u u':World} (h:PrV x y v u) (hb:Below u.heap.size u u'):PrV x y v u':=by
 obtain ⟨A,c,B,d,h1,h2,h3,h4,h5⟩:=h;exact ⟨A,c,B,d,h1,h2,h3,qae h4 hb,qae h5 hb⟩
def PrB (W x y:Nat) (v:Value) (u:World):Prop:=∃ o A c B d,v=.pointer (some ⟨o,0,none⟩)∧W≤o∧Blk u o 32 (pairV (.slice A 32 c) (.slice B 32 d))∧32≤c∧32≤d∧Rd u u.heap.size A (DN x)∧Rd u u.heap.size B (DN y)
def refS (p m s:List UInt8):Nat :=
 if (crd p).2=0 then (if s.length=64 then (if isB (s.drop 32)=true then (if bsN (bytP (verR p m s))=s.take 32 then 0 else 2) else 2) else 2) else 1
theorem ref_ver (p m s:List UInt8):(refS p m s=0∧verS p m s=0)∨(refS p m s=1∧verS p m s=11)∨(refS p m s=2∧verS p m s=10):=by
 rw [refS,verS]
 by_cases h1:(crd p).2=0
 ·rw [if_pos h1,if_pos h1]
  by_cases h2:s.length=64
  ·rw [if_pos h2,if_pos h2]
   by_cases h3:isB (s.drop 32)=true
   ·rw [if_pos h3,if_pos h3]
    by_cases h4:bsN (bytP (verR p m s))=s.take 32
    ·rw [if_pos h4,if_pos h4]; exact .inl ⟨rfl,rfl⟩
    ·rw [if_neg h4,if_neg h4]; exact .inr (.inr ⟨rfl,rfl⟩)
   ·rw [if_neg h3,if_neg h3]; exact .inr (.inr ⟨rfl,rfl⟩)
  ·rw [if_neg h2,if_neg h2]; exact .inr (.inr ⟨rfl,rfl⟩)
 ·rw [if_neg h1,if_neg h1]; exact .inr (.inl ⟨rfl,rfl⟩)
theorem rread_c {p:List UInt8} (lp:p.length≤200) {A:Option Addr} {c:Nat} (hc:p.length≤c) {w:World} (hr:Rd w w.heap.size A (bytesV p)) :
  ((crd p).2=2∧Calls Tryz.prog 8 #[.slice A p.length c] w (fun e w'=>e=.returned (.tuple #[.agg (pairV nilS nilS),.bool false])∧Below w.heap.size w w')) ∨
  ∃ P:PtF,(crd p).2=0∧(crd p).1.Ok∧Is (crd p).1 P∧byF P=digs p∧Calls Tryz.prog 8 #[.slice A p.length c] w (fun e w'=>∃ A c B d,e=.returned (.tuple #[.agg (pairV (.slice A 32 c) (.slice B 32 d)),.bool true])∧32≤c∧32≤d∧Rd w' w'.heap.size A (DN P.x.val)∧Rd w' w'.heap.size B (DN P.y.val)∧Below w.heap.size w w'):=by
 obtain ⟨y2,u,t,v,i,a,x,q,W⟩:=ofW_ex (yOf p);have h:=rread_any W (o:=rrd p (ofR (rtV a x q) (rtB a x q) (oddOf p))) rfl hr hc (by omega)
 rcases both_read W with ⟨h1,h2⟩ | ⟨P,h1,h2,h3,h4,h5⟩
 ·rw [h1] at h;exact .inl ⟨h2,h.mono fun e w' q=>⟨q.2,q.1⟩⟩
 ·rw [h1] at h;refine .inr ⟨P,h2,h3,h4,h5,h.mono fun e w' q=>?_⟩;obtain ⟨q1,A',c',B',d',q2,q3,q4,q5,q6⟩:=q;exact ⟨A',c',B',d',q2,q3,q4,q5,q6,q1⟩
theorem neg_val (P:PtF):(0+PN - P.x.val)%PN=(Ed.neg P).x.val:=by
 have h:=fn_sub (a:=0) (b:=P.x.val) (Nat.le_of_lt P.x.isLt)
 have h2:fn ((0+PN - P.x.val)%PN)=(Ed.neg P).x:=by
  rw [h,qbo,fn_zero];show 0 - P.x=-P.x;generalize P.x=x
  grind -lia
 rw [← h2,qbj (Nat.mod_lt _ qcU)]
theorem rverify_any (p m s:List UInt8) (lp:p.length≤200) (lm:m.length≤200) (ls:s.length≤200) (A M S:Option Addr) (ca cm cs:Nat) (w:World) (rp:Rd w w.heap.size A (bytesV p)) (rm:Rd w w.heap.size M (bytesV m)) (rs:Rd w w.heap.size S (bytesV s)) (hca:p.length≤ca) (hcs:s.length≤cs) :
  Calls Tryz.prog 5 #[.slice A p.length ca,.slice M m.length cm,.slice S s.length cs] w (fun e w'=>e=.returned (.int .i64 (refS p m s:Int))∧Below w.heap.size w w'):=by
 have hpt:=Tryz.underlying32;have hcr:=rread_c lp hca rp;obtain ⟨V,hV⟩:=eX (refS p m s);rw [← hV];have HV:=zY hV;clear hV
 rcases hcr with ⟨h2,hcr⟩ | ⟨P,h0,okQ,isQ,hF,hcr⟩
 ·have HVV:=zY (show V=1 by rw [HV.out,refS,if_neg (by rw [h2]; decide)]);obtain ⟨np,hnp⟩:=eX (p.length);obtain ⟨nm,hnm⟩:=eX (m.length);obtain ⟨ns,hns⟩:=eX (s.length);rw [← hnp,← hnm,← hns];rw [← hnp] at hcr;have HCR:=zY hcr;clear hcr h2 hnp hnm hns HV rp rm rs hca hcs lp lm ls;go_enter Tryz.func5,Tryz.ntmps5;go_wp2_with fail;refine qaa HCR.out ?_;rintro e w1 ⟨rfl,hb⟩;have HB:=zY hb;clear hb HCR;go_wp2_with (refine qaf (x:=.tmp 7) (cells:=pairV nilS nilS) (Blk.new w1 32 (pairV nilS nilS)) rfl rfl rfl rfl qat rfl (by simp [pairV,nilS,Value.oneCell']) ?_; intro w2 hb2 hw2; have HW2:=zY (qba hw2); clear hb2 hw2);go_ret;exact ⟨by rw [HVV.out]; rfl,HB.out.trans (HW2.out.mono HB.out.size)⟩
 ·have lp32:=(crd_at h0).1;obtain ⟨nm,hnm⟩:=eX (m.length);have HCR0:=hcr;rw [lp32] at HCR0 ⊢;rw [← hnm]
  by_cases h64:s.length=64
  ·obtain ⟨B1,hB1⟩:=eX (s.take 32);obtain ⟨B2,hB2⟩:=eX (s.drop 32);have l1:B1.length=32:=by rw [hB1,List.length_take,h64]; rfl
   have l2:B2.length=32:=by rw [hB2,List.length_drop,h64]
   obtain ⟨S2,hS2⟩:∃ S2:Option Addr,S2=S.map fun x=>{ block:=x.block,off:=x.off+32 }:=⟨_,rfl⟩;have HST0:Hid (Cs [.rd A (bytesV p),.rd M (bytesV m),.rd S (bytesV B1),.rd S2 (bytesV B2)] w w):=zY ⟨⟨rp,rm,by rw [hB1]; exact qcT rs,by rw [hB2,hS2]; exact rd_from32B rs,trivial⟩,Below.refl _ _⟩;rw [h64] at hcs ⊢;have hcs2:32≤cs - 32:=by omega
   have CI:=zY (show ∀ u c,Rd u u.heap.size S2 (bytesV B2)→32≤c→Calls Tryz.prog 9 #[.slice S2 32 c] u (BoolPost (isB B2) u) from fun u c h hc=>ris_any B2 l2 S2 c u h hc);obtain ⟨H,hH⟩:=eX (byB (hshN (B1++p++m)));have lH:H.length=32:=by rw [hH,qbn]
   have hHv:leV (digs H)=hshN (B1++p++m):=by rw [hH]; exact qbI (hshN_lt _)
   have CH:=zY (show ∀ u At ct Au cu Am cm,Rd u u.heap.size At (bytesV B1)→Rd u u.heap.size Au (bytesV p)→Rd u u.heap.size Am (bytesV m)→Calls Tryz.prog 10 #[.slice At 32 ct,.slice Au 32 cu,.slice Am nm cm] u (OwnPost 5 32 (bytesV H) u) from fun u At ct Au cu Am cm h1 h2 h3=>by
    have h:=rhash_any B1 p m At Au Am ct cu cm u h1 h2 h3 (by rw [l1]; decide) lp lm;rw [l1,lp32,← hnm,← hH] at h;exact h)
   obtain ⟨T1,hT1⟩:=eX (times baseF (leV (digs B2)));obtain ⟨T2,hT2⟩:=eX (times (Ed.neg P) (leV (digs H)));obtain ⟨t1x,ht1x⟩:=eX (T1.x.val);obtain ⟨t1y,ht1y⟩:=eX (T1.y.val);obtain ⟨t2x,ht2x⟩:=eX (T2.x.val);obtain ⟨t2y,ht2y⟩:=eX (T2.y.val);obtain ⟨px,hpx⟩:=eX (P.x.val);obtain ⟨py,hpy⟩:=eX (P.y.val);obtain ⟨nx,hnx⟩:=eX ((Ed.neg P).x.val);have hny:py=(Ed.neg P).y.val:=hpy
   have CM1:=zY (show ∀ u X cx Y cy K ck,Rd u u.heap.size X (DN bxN)→Rd u u.heap.size Y (DN byNN)→Rd u u.heap.size K (bytesV B2)→32≤cx→32≤cy→Calls Tryz.prog 11 #[.agg (pairV (.slice X 32 cx) (.slice Y 32 cy)),.slice K 32 ck] u (PairPost t1x t1y u) from fun u X cx Y cy K ck h1 h2 h3 h4 h5=>by
    rw [ht1x,ht1y,hT1];exact fmul_any baseF (digs B2) (digs_lt B2) (by rw [digs,List.length_map,l2]) (by rw [show baseF.x.val=bxN from qbj (by decide)]; exact h1) (by rw [show baseF.y.val=byNN from qbj (by decide)]; exact h2) (by rw [qbJ]; exact h3) h4 h5)
   have CM2:=zY (show ∀ u X cx Y cy K ck,Rd u u.heap.size X (DN nx)→Rd u u.heap.size Y (DN py)→Rd u u.heap.size K (bytesV H)→32≤cx→32≤cy→Calls Tryz.prog 11 #[.agg (pairV (.slice X 32 cx) (.slice Y 32 cy)),.slice K 32 ck] u (PairPost t2x t2y u) from fun u X cx Y cy K ck h1 h2 h3 h4 h5=>by
    rw [ht2x,ht2y,hT2];exact fmul_any (Ed.neg P) (digs H) (digs_lt H) (by rw [digs,List.length_map,lH]) (by rw [← hnx]; exact h1) (by rw [← hny]; exact h2) (by rw [qbJ]; exact h3) h4 h5)
   have CZ:=zY (show ∀ u,Calls Tryz.prog 14 #[.int .i64 0] u (NumPost 0 u) from fun u=>nint 0 (by decide) u)
   have CSB:=zY (show ∀ u A B c d,Rd u u.heap.size A (DN 0)→Rd u u.heap.size B (DN px)→Calls Tryz.prog 13 #[.slice A 32 c,.slice B 32 d] u (NumPost nx u) from fun u A B c d h1 h2=>by
    have h:=nsub (a:=0) (b:=px) qcU (by rw [hpx]; exact P.x.isLt) h1 h2 (c:=c) (d:=d);rw [hpx,neg_val P,← hnx] at h;exact h)
   obtain ⟨a',b',c',e',m',k',s',ka,ia,sx,t',kb,ib,sy,W⟩:=addW_ex t1x t1y t2x t2y
   have hsum:sx=(plus T1 T2).x.val∧sy=(plus T1 T2).y.val:=by
    rw [ht1x,ht1y,ht2x,ht2y] at W;exact addW_is W
   have CAD:=zY (show ∀ u A1 c1 B1 d1 A2 c2 B2 d2,Rd u u.heap.size A1 (DN t1x)→Rd u u.heap.size B1 (DN t1y)→Rd u u.heap.size A2 (DN t2x)→Rd u u.heap.size B2 (DN t2y)→Calls Tryz.prog 15 #[.agg (pairV (.slice A1 32 c1) (.slice B1 32 d1)),.agg (pairV (.slice A2 32 c2) (.slice B2 32 d2))] u (PairPost sx sy u) from fun u A1 c1 B1 d1 A2 c2 B2 d2 h1 h2 h3 h4 =>
    nadd_any W (by rw [ht1x]; exact T1.x.isLt) (by rw [ht1y]; exact T1.y.isLt) (by rw [ht2x]; exact T2.x.isLt) (by rw [ht2y]; exact T2.y.isLt) h1 h2 h3 h4)
   obtain ⟨R,hR⟩:=eX (verR p m s);obtain ⟨okR,isR⟩:=verR_is (m:=m) okQ isQ h64;rw [← hR] at okR isR;rw [← hB1,← hB2,← hHv,← hT1,← hT2] at isR;obtain ⟨L,hL⟩:=eX (bsN (bytP R))
   have hLb:bnV (byP sx sy)=bytesV L:=by
    rw [hL,← qcp (bytP_isdg okR isR),bytP_is okR isR,hsum.1,hsum.2];rfl
   have lL:L.length=32:=by rw [hL,bsN,List.length_map,qes]
   have CY:=zY (show ∀ u X cx Y cy,Rd u u.heap.size X (DN sx)→Rd u u.heap.size Y (DN sy)→32≤cy→Calls Tryz.prog 16 #[.agg (pairV (.slice X 32 cx) (.slice Y 32 cy))] u (fun e w'=>∃ A c,e=.returned (.slice A 32 c)∧Rd w' w'.heap.size A (bytesV L)∧Below u.heap.size u w') from fun u X cx Y cy h1 h2 h3 =>
    (nbytes_any (by rw [hsum.1]; exact (plus T1 T2).x.isLt) (by rw [hsum.2]; exact (plus T1 T2).y.isLt) h3 h1 h2).mono fun e w' q=>by
     obtain ⟨A',c',q1,_,q2,q3⟩:=q;exact ⟨A',c',q1,by rw [← hLb]; exact q2,q3⟩)
   obtain ⟨SL,hSL⟩:∃ s:ByteArray,s=⟨L.toArray⟩:=⟨_,rfl⟩;obtain ⟨SB,hSB⟩:∃ s:ByteArray,s=⟨B1.toArray⟩:=⟨_,rfl⟩
   have KL:=zY (show ∀ (u:World) (A:Option Addr) (c:Nat),Rd u u.heap.size A (bytesV L)→(convert 22 9 (.slice A 32 c)).run Tryz.prog u=.ok (.string SL) u from fun u A c h=>by
    have e:=qdc (P:=Tryz.prog) Tryz.underlying22 Tryz.underlying5 Tryz.underlying9 h c;rw [lL,← hSL] at e;exact e)
   have KB:=zY (show ∀ (u:World) (A:Option Addr) (c:Nat),Rd u u.heap.size A (bytesV B1)→(convert 22 9 (.slice A 32 c)).run Tryz.prog u=.ok (.string SB) u from fun u A c h=>by
    have e:=qdc (P:=Tryz.prog) Tryz.underlying22 Tryz.underlying5 Tryz.underlying9 h c;rw [l1,← hSB] at e;exact e)
   obtain ⟨q,hq⟩:=eX (decide (L=B1))
   have hsq:(SL.toList == SB.toList)=q:=by
    rw [hSL,hSB,toList_eq,toList_eq,hq];show (L == B1)=decide (L=B1);rw [Bool.eq_iff_iff,beq_iff_eq,decide_eq_true_iff]
   have hVV:V=if isB B2=true then (if q=true then 0 else 2) else 2:=by
    rw [HV.out,refS,if_pos h0,if_pos h64,← hB2,← hR,← hL,← hB1,hq];simp only [decide_eq_true_eq]
   have HVV:=zY hVV;have HSQ:=zY hsq;obtain ⟨ib,hib⟩:=eX (isB B2);rw [← hib] at CI HVV;rw [← hpx,← hpy] at HCR0;have HCR:=zY HCR0;have HST:=HST0;have nm63:(nm:Int)≤200:=by omega
   clear hcr HCR0 HST0 h0 okQ isQ hF lp32 hnm h64 hB1 hB2 l1 l2 hH lH hHv hT1 hT2 ht1x ht1y ht2x ht2y hpx hpy hnx hny W hsum hR okR isR hL hLb lL hSL hSB hq hsq hVV hib HV rp rm rs hca lp lm ls;go_enter Tryz.func5,Tryz.ntmps5;go_wp2_with fail;refine qaa HCR.out ?_;rintro e w1 ⟨X1,cx1,Y1,cy1,rfl,hcx1,hcy1,rx,ry,hb⟩;replace HST:=zY (show Cs [.rd X1 (DN px),.rd Y1 (DN py),.rd A (bytesV p),.rd M (bytesV m),.rd S (bytesV B1),.rd S2 (bytesV B2)] w w1 from ⟨⟨rx,ry,(HST.out.next hb).1⟩,(HST.out.next hb).2⟩);clear rx ry hb HCR;go_wp2_with (refine qaf (x:=.tmp 7) (cells:=pairV (.slice X1 32 cx1) (.slice Y1 32 cy1)) (Blk.new w1 32 (pairV nilS nilS)) rfl rfl rfl rfl qat rfl (by simp [pairV,nilS,Value.oneCell']) ?_; intro w2 hb2 hw2; have HQB:=zY hb2; have HW2:=zY (qba hw2); clear hb2 hw2);replace HST:=zY (show Cs [.box w1.heap.size 32 (pairV (.slice X1 32 cx1) (.slice Y1 32 cy1)),.rd X1 (DN px),.rd Y1 (DN py),.rd A (bytesV p),.rd M (bytesV m),.rd S (bytesV B1),.rd S2 (bytesV B2)] w w2 from ⟨⟨HQB.out,(HST.out.next HW2.out).1⟩,(HST.out.next HW2.out).2⟩);clear HQB HW2;generalize w1.heap.size=gq at *;rw [← hS2];refine qaa (CI.out _ _ HST.out.1.2.2.2.2.2.2.1 hcs2) ?_;rintro e w3 ⟨rfl,hb⟩;replace HST:=zY (HST.out.next hb);clear hb CI
   cases ib with
   | false =>
    go_wp2_with fail;go_ret;exact ⟨by rw [HVV.out]; rfl,HST.out.2⟩
   | true =>
    have HV2:=zY (show V=if q=true then 0 else 2 by rw [HVV.out,if_pos rfl]);clear HVV;go_wp2_with fail;refine qaa (CH.out _ _ _ _ _ _ _ HST.out.1.2.2.2.2.2.1 HST.out.1.2.2.2.1 HST.out.1.2.2.2.2.1) ?_;rintro e w4 ⟨A4,c4,rfl,ho,hb⟩;have hcA4:=(qbZ ho).1;have hp:=HST.out.next hb;replace HST:=zY (show Cs [.rd A4 (bytesV H),.box gq 32 (pairV (.slice X1 32 cx1) (.slice Y1 32 cy1)),.rd X1 (DN px),.rd Y1 (DN py),.rd S (bytesV B1),.rd S2 (bytesV B2)] w w4 from ⟨⟨Rd.of_own ho (Nat.le_refl _),hp.1.1,hp.1.2.1,hp.1.2.2.1,hp.1.2.2.2.2.2.1,hp.1.2.2.2.2.2.2.1,trivial⟩,hp.2⟩);clear ho hb hp CH;go_wp2_with fail;have HC0:Below w4.heap.size w4 w4.drew:=(Below.refl _ _).drew
    refine qar (fun u=>Below w4.heap.size w4 u) (fun | false=>(fun _=>True) | true=>(fun _=>True)) (fun | false,_=>false | true,_=>false)
     [fun z u=>(PrV bxN byNN) (z 0) u,
      fun z _=>z 1=.slice S 64 cs,
      fun z _=>z 2=.slice (S.map fun x=>{ block:=x.block,off:=x.off+32 }) 32 (cs - 32),
      fun z u=>(PrV t1x t1y) (z 3) u,
      fun z u=>(NewBox w4.heap.size 32 (pairV nilS nilS)) (z 4) u,
      fun z u=>PrB w4.heap.size t1x t1y (z 4) u]
     [fun u u'=>Below u.heap.size u u',Eq,Eq,fun u u'=>Below u.heap.size u u',fun u u'=>Below u.heap.size u u',fun _ _=>True]
     (fun i k=>(i == 5 && k == 0) || (i == 5 && k == 3) || (i == 5 && k == 4)) [(0,some 34),(1,some 35),(2,some 36),(3,some 37),(4,some 11),(5,none)] (by kernel_rfl) (by kernel_rfl) rfl (fun _=>rfl) ?_ ?_ ?_ ?_ ?_ ?_
    ·exact HC0
    ·intro m; cases m; exact trivial; exact trivial
    ·intro m; cases m
     ·refine ⟨?_,?_,?_,?_,?_,?_,trivial⟩ <;> first | exact .inr fun _ _ h h0=>h▸h0 | exact .inr fun _ _ _ h=>h
     ·refine ⟨?_,?_,?_,?_,?_,?_,trivial⟩ <;> first | exact .inr fun _ _ h h0=>h▸h0 | exact .inr fun _ _ _ h=>h
    ·refine ⟨⟨.inl rfl,?_,?_,?_,.inr (.inr (.inr (fun _ _ _ _ h h0=>h0.next h))),?_,trivial⟩,⟨?_,.inl rfl,?_,?_,?_,?_,trivial⟩,⟨?_,?_,.inl rfl,?_,?_,?_,trivial⟩,⟨.inr (.inr (.inr (fun _ _ _ _ h h0=>h0.next h))),?_,?_,.inl rfl,.inr (.inr (.inr (fun _ _ _ _ h h0=>h0.next h))),?_,trivial⟩,⟨.inr (.inr (.inr (fun _ _ _ _ h h0=>h0.next h))),?_,?_,.inr (.inr (.inr (fun _ _ _ _ h h0=>h0.next h))),.inl rfl,?_,trivial⟩,⟨.inr (.inl rfl),?_,?_,.inr (.inl rfl),.inr (.inl rfl),.inl rfl,trivial⟩,trivial⟩ <;> first | exact .inr (.inr (.inl rfl)) | exact .inr (.inr (.inr fun _ _ _ _ _ h=>h)) | exact .inr (.inr (.inr fun _ _ _ _ h h0=>by cases h; exact h0))
    ·refine ⟨?_,?_,?_,?_,?_,?_,trivial⟩
     ·refine qac [] (fun _=>rfl) rfl ?_;intro w1 vals hC1 hi0 hf E hE;clear hi0;clear hf;simp only [sP] at hE ⊢;go_wp2_with fail;refine qaa (nbase_any _) ?_;rintro e w2 ⟨A2,c2,B3,d2,rfl,hc2,hd2,r1,r2,hb2⟩;go_wp2_with fail;exact .mk (hE _ _ ⟨A2,c2,B3,d2,rfl,hc2,hd2,r1,r2⟩ (hC1.trans (hb2.mono hC1.size)) hb2)
     ·refine qac [] (fun _=>rfl) rfl ?_;intro w1 vals hC1 hi0 hf E hE;clear hi0;clear hf;simp only [sP] at hE ⊢;go_wp2;exact .mk (hE _ _ rfl hC1 rfl)
     ·refine qac [(1,some 35)] (fun _=>rfl) rfl ?_;intro w1 vals hC1 hi0 hf E hE;clear hi0;have f1:vals 1=_:=hf 1 rfl
      try dsimp only at f1
      clear hf;simp only [sP,f1] at hE ⊢;clear f1;go_wp2;exact .mk (hE _ _ rfl hC1 rfl)
     ·refine qac [(0,some 34),(2,some 36),(0,some 34)] (fun _=>rfl) rfl ?_;intro w1 vals hC1 hi0 hf E hE;clear hi0;have f0:(PrV bxN byNN) (vals 0) w1:=hf 0 rfl;have f2:vals 2=_:=hf 2 rfl
      try dsimp only at f0 f2
      clear hf;have hs:=HST.out.next hC1;have h4:=hs.1.2.2.2.2.2.1;rw [hS2] at h4;obtain ⟨A2,c2,B3,d2,hx,hc2,hd2,r1,r2⟩:=f0;simp only [sP,f2,hx] at hE ⊢;clear f2;clear hx;go_wp2_with fail;refine qaa (CM1.out _ _ _ _ _ _ _ r1 r2 h4 hc2 hd2) ?_;rintro e w2 ⟨A3,c3,B4,d3,rfl,hc3,hd3,r3,r4,hb2⟩;go_wp2_with fail;exact .mk (hE _ _ ⟨A3,c3,B4,d3,rfl,hc3,hd3,r3,r4⟩ (hC1.trans (hb2.mono hC1.size)) hb2)
     ·refine qac [] (fun _=>rfl) rfl ?_;intro w1 vals hC1 hi0 hf E hE;clear hi0;clear hf;simp only [sP] at hE ⊢;go_wp2;exact .mk (hE _ _ (NewBox.of hC1.size) (hC1.alloc hC1.size _) (below_new _ _))
     ·refine qac [(4,some 11),(3,some 37),(3,some 37),(0,some 34),(1,some 35),(2,some 36),(3,some 37),(4,some 11)] (fun _=>rfl) rfl ?_;intro w1 vals hC1 hi0 hf E hE;clear hi0;have f0:(PrV bxN byNN) (vals 0) w1:=hf 0 rfl;have f1:vals 1=_:=hf 1 rfl;have f2:vals 2=_:=hf 2 rfl;have f3:(PrV t1x t1y) (vals 3) w1:=hf 3 rfl;have f4:(NewBox w4.heap.size 32 (pairV nilS nilS)) (vals 4) w1:=hf 4 rfl
      try dsimp only at f0 f1 f2 f3 f4
      clear hf;obtain ⟨A3,c3,B4,d3,hx3,hc3,hd3,r3,r4⟩:=f3;obtain ⟨o,hx,ho,hblk⟩:=f4;have hx':=hx;simp only [sP,f1,f2,hx,hx3] at hE ⊢;clear f1 f2;clear hx hx3;refine qaf (cells:=pairV (.slice A3 32 c3) (.slice B4 32 d3)) hblk rfl rfl rfl rfl qat rfl (by simp [pairV,Value.oneCell']) ?_;intro w2 hb2 hw2;go_wp2_with fail;exact .mk (hE undef _ ⟨o,A3,c3,B4,d3,hx',ho,hb2,hc3,hd3,qaD (r3.wrote hblk hw2 qbK) hw2.size,qaD (r4.wrote hblk hw2 qbK) hw2.size⟩ (hw2.below hC1 ho hC1.size) trivial)
    intro w1 vals hC1 hf;have f1:vals 1=_:=hf 1 (by decide) rfl;have f2:vals 2=_:=hf 2 (by decide) rfl;have f5:(fun z u=>PrB w4.heap.size t1x t1y (z 4) u) vals w1:=hf 5 (by decide) rfl
    try dsimp only at f1 f2 f5
    clear hf;simp only [sP,f1,f2];clear f1 f2;generalize vals 0=x0 at *;generalize vals 3=x3 at *;generalize vals 4=x4 at *;obtain ⟨o5,X5,cx5,Y5,cy5,rfl,ho5,hk5,hcx5,hcy5,rx5,ry5⟩:=f5;obtain ⟨w5,rfl⟩:=eX w1;have hp:=HST.out.next hC1;replace HST:=zY (show Cs [.box o5 32 (pairV (.slice X5 32 cx5) (.slice Y5 32 cy5)),.rd X5 (DN t1x),.rd Y5 (DN t1y),.rd A4 (bytesV H),.box gq 32 (pairV (.slice X1 32 cx1) (.slice Y1 32 cy1)),.rd X1 (DN px),.rd Y1 (DN py),.rd S (bytesV B1)] w w5 from ⟨⟨hk5,rx5,ry5,hp.1.1,hp.1.2.1,hp.1.2.2.1,hp.1.2.2.2.1,hp.1.2.2.2.2.1,trivial⟩,hp.2⟩);clear hp hk5 rx5 ry5 ho5 hC1 HC0 CM1;go_wp2_with fail;have HC0:Below w5.heap.size w5 w5.drew:=(Below.refl _ _).drew
    refine qar (fun u=>Below w5.heap.size w5 u) (fun | false=>(fun _=>True) | true=>(fun _=>True)) (fun | false,_=>false | true,_=>false)
     [fun z u=>(RdV 32 (DN 0)) (z 0) u,
      fun z _=>z 1=.pointer (some ⟨gq,0,none⟩),
      fun z _=>z 2=.slice X1 32 cx1,
      fun z u=>(RdV 32 (DN nx)) (z 3) u,
      fun z _=>z 4=.pointer (some ⟨gq,1,none⟩),
      fun z _=>z 5=.slice Y1 32 cy1,
      fun z u=>(PrV nx py) (z 6) u,
      fun z u=>(NewBox w5.heap.size 32 (pairV nilS nilS)) (z 7) u,
      fun z u=>PrB w5.heap.size nx py (z 7) u]
     [fun u u'=>Below u.heap.size u u',Eq,Eq,fun u u'=>Below u.heap.size u u',Eq,Eq,Eq,fun u u'=>Below u.heap.size u u',fun _ _=>True]
     (fun i k=>(i == 8 && k == 0) || (i == 8 && k == 3) || (i == 8 && k == 6) || (i == 8 && k == 7)) [(0,some 38),(1,some 39),(2,some 40),(3,some 41),(4,some 42),(5,some 43),(6,some 44),(7,some 12),(8,none)] (by kernel_rfl) (by kernel_rfl) rfl (fun _=>rfl) ?_ ?_ ?_ ?_ ?_ ?_
    ·exact HC0
    ·intro m; cases m; exact trivial; exact trivial
    ·intro m; cases m
     ·refine ⟨?_,?_,?_,?_,?_,?_,?_,?_,?_,trivial⟩ <;> first | exact .inr fun _ _ h h0=>h▸h0 | exact .inr fun _ _ _ h=>h
     ·refine ⟨?_,?_,?_,?_,?_,?_,?_,?_,?_,trivial⟩ <;> first | exact .inr fun _ _ h h0=>h▸h0 | exact .inr fun _ _ _ h=>h
    ·refine ⟨⟨.inl rfl,?_,?_,?_,?_,?_,?_,.inr (.inr (.inr (fun _ _ _ _ h h0=>h0.next h))),?_,trivial⟩,⟨?_,.inl rfl,?_,?_,?_,?_,?_,?_,?_,trivial⟩,⟨?_,?_,.inl rfl,?_,?_,?_,?_,?_,?_,trivial⟩,⟨.inr (.inr (.inr (fun _ _ _ _ h h0=>h0.next h))),?_,?_,.inl rfl,?_,?_,?_,.inr (.inr (.inr (fun _ _ _ _ h h0=>h0.next h))),?_,trivial⟩,⟨?_,?_,?_,?_,.inl rfl,?_,?_,?_,?_,trivial⟩,⟨?_,?_,?_,?_,?_,.inl rfl,?_,?_,?_,trivial⟩,⟨?_,?_,?_,?_,?_,?_,.inl rfl,?_,?_,trivial⟩,⟨.inr (.inr (.inr (fun _ _ _ _ h h0=>h0.next h))),?_,?_,.inr (.inr (.inr (fun _ _ _ _ h h0=>h0.next h))),?_,?_,.inr (.inr (.inr (fun _ _ _ _ h h0=>h0.next h))),.inl rfl,?_,trivial⟩,⟨.inr (.inl rfl),?_,?_,.inr (.inl rfl),?_,?_,.inr (.inl rfl),.inr (.inl rfl),.inl rfl,trivial⟩,trivial⟩ <;> first | exact .inr (.inr (.inl rfl)) | exact .inr (.inr (.inr fun _ _ _ _ _ h=>h)) | exact .inr (.inr (.inr fun _ _ _ _ h h0=>by cases h; exact h0))
    ·refine ⟨?_,?_,?_,?_,?_,?_,?_,?_,?_,trivial⟩
     ·refine qac [] (fun _=>rfl) rfl ?_;intro w1 vals hC1 hi0 hf E hE;clear hi0;clear hf;simp only [sP] at hE ⊢;go_wp2_with fail;refine qaa (CZ.out _) ?_;rintro e w2 ⟨A2,c2,rfl,hc2,r1,hb2⟩;go_wp2_with fail;exact .mk (hE _ _ ⟨A2,c2,rfl,hc2,r1⟩ (hC1.trans (hb2.mono hC1.size)) hb2)
     ·refine qac [] (fun _=>rfl) rfl ?_;intro w1 vals hC1 hi0 hf E hE;clear hi0;clear hf;simp only [sP] at hE ⊢;go_wp2;exact .mk (hE _ _ rfl hC1 rfl)
     ·refine qac [(1,some 39)] (fun _=>rfl) rfl ?_;intro w1 vals hC1 hi0 hf E hE;clear hi0;have f1:vals 1=_:=hf 1 rfl
      try dsimp only at f1
      clear hf;have hs:=HST.out.next hC1;have d0:=(Blk.cell hs.1.2.2.2.2.1 0).trans (show (pairV (.slice X1 32 cx1) (.slice Y1 32 cy1))[0]?=some (.slice X1 32 cx1) from rfl);simp only [sP,f1] at hE ⊢;clear f1;go_wp2;exact .mk (hE _ _ rfl hC1 rfl)
     ·refine qac [(0,some 38),(2,some 40),(0,some 38)] (fun _=>rfl) rfl ?_;intro w1 vals hC1 hi0 hf E hE;clear hi0;have f0:(RdV 32 (DN 0)) (vals 0) w1:=hf 0 rfl;have f2:vals 2=_:=hf 2 rfl
      try dsimp only at f0 f2
      clear hf;have hs:=HST.out.next hC1;obtain ⟨A2,c2,hx,hc2,r1⟩:=f0;simp only [sP,f2,hx] at hE ⊢;clear f2;clear hx;go_wp2_with fail;refine qaa (CSB.out _ _ _ _ _ r1 hs.1.2.2.2.2.2.1) ?_;rintro e w2 ⟨A3,c3,rfl,hc3,r3,hb2⟩;go_wp2_with fail;exact .mk (hE _ _ ⟨A3,c3,rfl,hc3,r3⟩ (hC1.trans (hb2.mono hC1.size)) hb2)
     ·refine qac [] (fun _=>rfl) rfl ?_;intro w1 vals hC1 hi0 hf E hE;clear hi0;clear hf;simp only [sP] at hE ⊢;go_wp2;exact .mk (hE _ _ rfl hC1 rfl)
     ·refine qac [(4,some 42)] (fun _=>rfl) rfl ?_;intro w1 vals hC1 hi0 hf E hE;clear hi0;have f4:vals 4=_:=hf 4 rfl
      try dsimp only at f4
      clear hf;have hs:=HST.out.next hC1;have d0:=(Blk.cell hs.1.2.2.2.2.1 1).trans (show (pairV (.slice X1 32 cx1) (.slice Y1 32 cy1))[1]?=some (.slice Y1 32 cy1) from rfl);simp only [sP,f4] at hE ⊢;clear f4;go_wp2;exact .mk (hE _ _ rfl hC1 rfl)
     ·refine qac [(3,some 41),(5,some 43)] (fun _=>rfl) rfl ?_;intro w1 vals hC1 hi0 hf E hE;clear hi0;have f3:(RdV 32 (DN nx)) (vals 3) w1:=hf 3 rfl;have f5:vals 5=_:=hf 5 rfl
      try dsimp only at f3 f5
      clear hf;have hs:=HST.out.next hC1;obtain ⟨A3,c3,hx,hc3,r3⟩:=f3;simp only [sP,f5,hx] at hE ⊢;clear f5;clear hx;go_wp2;exact .mk (hE _ _ ⟨A3,c3,Y1,cy1,rfl,hc3,hcy1,r3,hs.1.2.2.2.2.2.2.1⟩ hC1 rfl)
     ·refine qac [] (fun _=>rfl) rfl ?_;intro w1 vals hC1 hi0 hf E hE;clear hi0;clear hf;simp only [sP] at hE ⊢;go_wp2;exact .mk (hE _ _ (NewBox.of hC1.size) (hC1.alloc hC1.size _) (below_new _ _))
     ·refine qac [(7,some 12),(6,some 44),(3,some 41),(0,some 38),(1,some 39),(2,some 40),(3,some 41),(4,some 42),(5,some 43),(6,some 44),(7,some 12)] (fun _=>rfl) rfl ?_;intro w1 vals hC1 hi0 hf E hE;clear hi0;have f0:(RdV 32 (DN 0)) (vals 0) w1:=hf 0 rfl;have f1:vals 1=_:=hf 1 rfl;have f2:vals 2=_:=hf 2 rfl;have f3:(RdV 32 (DN nx)) (vals 3) w1:=hf 3 rfl;have f4:vals 4=_:=hf 4 rfl;have f5:vals 5=_:=hf 5 rfl;have f6:(PrV nx py) (vals 6) w1:=hf 6 rfl;have f7:(NewBox w5.heap.size 32 (pairV nilS nilS)) (vals 7) w1:=hf 7 rfl
      try dsimp only at f0 f1 f2 f3 f4 f5 f6 f7
      clear hf;obtain ⟨A3,c3,B4,d3,hx3,hc3,hd3,r3,r4⟩:=f6;obtain ⟨o,hx,ho,hblk⟩:=f7;have hx':=hx;simp only [sP,f1,f2,f4,f5,hx,hx3] at hE ⊢;clear f1 f2 f4 f5;clear hx hx3;refine qaf (cells:=pairV (.slice A3 32 c3) (.slice B4 32 d3)) hblk rfl rfl rfl rfl qat rfl (by simp [pairV,Value.oneCell']) ?_;intro w2 hb2 hw2;go_wp2_with fail;exact .mk (hE undef _ ⟨o,A3,c3,B4,d3,hx',ho,hb2,hc3,hd3,qaD (r3.wrote hblk hw2 qbK) hw2.size,qaD (r4.wrote hblk hw2 qbK) hw2.size⟩ (hw2.below hC1 ho hC1.size) trivial)
    intro w1 vals hC1 hf;have f1:vals 1=_:=hf 1 (by decide) rfl;have f2:vals 2=_:=hf 2 (by decide) rfl;have f4:vals 4=_:=hf 4 (by decide) rfl;have f5:vals 5=_:=hf 5 (by decide) rfl;have f8:(fun z u=>PrB w5.heap.size nx py (z 7) u) vals w1:=hf 8 (by decide) rfl
    try dsimp only at f1 f2 f4 f5 f8
    clear hf;simp only [sP,f1,f2,f4,f5];clear f1 f2 f4 f5;generalize vals 0=x0 at *;generalize vals 3=x3 at *;generalize vals 6=x6 at *;generalize vals 7=x7 at *;obtain ⟨o6,X6,cx6,Y6,cy6,rfl,ho6,hk6,hcx6,hcy6,rx6,ry6⟩:=f8;obtain ⟨w6,rfl⟩:=eX w1;have hp:=HST.out.next hC1;replace HST:=zY (show Cs [.box o6 32 (pairV (.slice X6 32 cx6) (.slice Y6 32 cy6)),.rd X6 (DN nx),.rd Y6 (DN py),.box o5 32 (pairV (.slice X5 32 cx5) (.slice Y5 32 cy5)),.rd X5 (DN t1x),.rd Y5 (DN t1y),.rd A4 (bytesV H),.rd S (bytesV B1)] w w6 from ⟨⟨hk6,rx6,ry6,hp.1.1,hp.1.2.1,hp.1.2.2.1,hp.1.2.2.2.1,hp.1.2.2.2.2.2.2.2.1,trivial⟩,hp.2⟩);clear hp hk6 rx6 ry6 ho6 hC1 HC0 CZ CSB;go_wp2_with fail;have HC0:Below w6.heap.size w6 w6.drew:=(Below.refl _ _).drew
    refine qar (fun u=>Below w6.heap.size w6 u) (fun | false=>(fun _=>True) | true=>(fun _=>True)) (fun | false,_=>false | true,_=>false)
     [fun z _=>z 0=.agg (pairV (.slice X5 32 cx5) (.slice Y5 32 cy5)),
      fun z _=>z 1=.agg (pairV (.slice X6 32 cx6) (.slice Y6 32 cy6)),
      fun z _=>z 2=.slice A4 32 c4,
      fun z u=>(PrV t2x t2y) (z 3) u,
      fun z u=>(PrV sx sy) (z 4) u,
      fun z u=>(NewBox w6.heap.size 32 (pairV nilS nilS)) (z 5) u,
      fun z u=>PrB w6.heap.size sx sy (z 5) u]
     [Eq,Eq,Eq,fun u u'=>Below u.heap.size u u',fun u u'=>Below u.heap.size u u',fun u u'=>Below u.heap.size u u',fun _ _=>True]
     (fun i k=>(i == 6 && k == 3) || (i == 6 && k == 4) || (i == 6 && k == 5)) [(0,some 45),(1,some 46),(2,some 47),(3,some 48),(4,some 49),(5,some 13),(6,none)] (by kernel_rfl) (by kernel_rfl) rfl (fun _=>rfl) ?_ ?_ ?_ ?_ ?_ ?_
    ·exact HC0
    ·intro m; cases m; exact trivial; exact trivial
    ·intro m; cases m
     ·refine ⟨?_,?_,?_,?_,?_,?_,?_,trivial⟩ <;> first | exact .inr fun _ _ h h0=>h▸h0 | exact .inr fun _ _ _ h=>h
     ·refine ⟨?_,?_,?_,?_,?_,?_,?_,trivial⟩ <;> first | exact .inr fun _ _ h h0=>h▸h0 | exact .inr fun _ _ _ h=>h
    ·refine ⟨⟨.inl rfl,?_,?_,?_,?_,?_,?_,trivial⟩,⟨?_,.inl rfl,?_,?_,?_,?_,?_,trivial⟩,⟨?_,?_,.inl rfl,?_,?_,?_,?_,trivial⟩,⟨?_,?_,?_,.inl rfl,?_,.inr (.inr (.inr (fun _ _ _ _ h h0=>h0.next h))),?_,trivial⟩,⟨?_,?_,?_,.inr (.inr (.inr (fun _ _ _ _ h h0=>h0.next h))),.inl rfl,.inr (.inr (.inr (fun _ _ _ _ h h0=>h0.next h))),?_,trivial⟩,⟨?_,?_,?_,.inr (.inr (.inr (fun _ _ _ _ h h0=>h0.next h))),.inr (.inr (.inr (fun _ _ _ _ h h0=>h0.next h))),.inl rfl,?_,trivial⟩,⟨?_,?_,?_,.inr (.inl rfl),.inr (.inl rfl),.inr (.inl rfl),.inl rfl,trivial⟩,trivial⟩ <;> first | exact .inr (.inr (.inl rfl)) | exact .inr (.inr (.inr fun _ _ _ _ _ h=>h)) | exact .inr (.inr (.inr fun _ _ _ _ h h0=>by cases h; exact h0))
    ·refine ⟨?_,?_,?_,?_,?_,?_,?_,trivial⟩
     ·refine qac [] (fun _=>rfl) rfl ?_;intro w1 vals hC1 hi0 hf E hE;clear hi0;clear hf;have hs:=HST.out.next hC1;simp only [sP] at hE ⊢;refine qab (hs.1.2.2.2.1) rfl rfl rfl hpt rfl qat ?_;go_wp2_with fail;exact .mk (hE _ _ rfl hC1 rfl)
     ·refine qac [] (fun _=>rfl) rfl ?_;intro w1 vals hC1 hi0 hf E hE;clear hi0;clear hf;have hs:=HST.out.next hC1;simp only [sP] at hE ⊢;refine qab (hs.1.1) rfl rfl rfl hpt rfl qat ?_;go_wp2_with fail;exact .mk (hE _ _ rfl hC1 rfl)
     ·refine qac [] (fun _=>rfl) rfl ?_;intro w1 vals hC1 hi0 hf E hE;clear hi0;clear hf;simp only [sP] at hE ⊢;go_wp2;exact .mk (hE _ _ rfl hC1 rfl)
     ·refine qac [(1,some 46),(2,some 47)] (fun _=>rfl) rfl ?_;intro w1 vals hC1 hi0 hf E hE;clear hi0;have f1:vals 1=_:=hf 1 rfl;have f2:vals 2=_:=hf 2 rfl
      try dsimp only at f1 f2
      clear hf;have hs:=HST.out.next hC1;simp only [sP,f1,f2] at hE ⊢;clear f1 f2;go_wp2_with fail;refine qaa (CM2.out _ _ _ _ _ _ _ hs.1.2.1 hs.1.2.2.1 hs.1.2.2.2.2.2.2.1 hcx6 hcy6) ?_;rintro e w2 ⟨A3,c3,B4,d3,rfl,hc3,hd3,r3,r4,hb2⟩;go_wp2_with fail;exact .mk (hE _ _ ⟨A3,c3,B4,d3,rfl,hc3,hd3,r3,r4⟩ (hC1.trans (hb2.mono hC1.size)) hb2)
     ·refine qac [(0,some 45),(3,some 48),(3,some 48)] (fun _=>rfl) rfl ?_;intro w1 vals hC1 hi0 hf E hE;clear hi0;have f0:vals 0=_:=hf 0 rfl;have f3:(PrV t2x t2y) (vals 3) w1:=hf 3 rfl
      try dsimp only at f0 f3
      clear hf;have hs:=HST.out.next hC1;obtain ⟨A2,c2,B3,d2,hx,hc2,hd2,r1,r2⟩:=f3;simp only [sP,f0,hx] at hE ⊢;clear f0;clear hx;go_wp2_with fail;refine qaa (CAD.out _ _ _ _ _ _ _ _ _ hs.1.2.2.2.2.1 hs.1.2.2.2.2.2.1 r1 r2) ?_;rintro e w2 ⟨A3,c3,B4,d3,rfl,hc3,hd3,r3,r4,hb2⟩;go_wp2_with fail;exact .mk (hE _ _ ⟨A3,c3,B4,d3,rfl,hc3,hd3,r3,r4⟩ (hC1.trans (hb2.mono hC1.size)) hb2)
     ·refine qac [] (fun _=>rfl) rfl ?_;intro w1 vals hC1 hi0 hf E hE;clear hi0;clear hf;simp only [sP] at hE ⊢;go_wp2;exact .mk (hE _ _ (NewBox.of hC1.size) (hC1.alloc hC1.size _) (below_new _ _))
     ·refine qac [(5,some 13),(4,some 49),(4,some 49),(0,some 45),(1,some 46),(2,some 47),(3,some 48),(4,some 49),(5,some 13)] (fun _=>rfl) rfl ?_;intro w1 vals hC1 hi0 hf E hE;clear hi0;have f0:vals 0=_:=hf 0 rfl;have f1:vals 1=_:=hf 1 rfl;have f2:vals 2=_:=hf 2 rfl;have f3:(PrV t2x t2y) (vals 3) w1:=hf 3 rfl;have f4:(PrV sx sy) (vals 4) w1:=hf 4 rfl;have f5:(NewBox w6.heap.size 32 (pairV nilS nilS)) (vals 5) w1:=hf 5 rfl
      try dsimp only at f0 f1 f2 f3 f4 f5
      clear hf;obtain ⟨A3,c3,B4,d3,hx3,hc3,hd3,r3,r4⟩:=f4;obtain ⟨o,hx,ho,hblk⟩:=f5;have hx':=hx;simp only [sP,f0,f1,f2,hx,hx3] at hE ⊢;clear f0 f1 f2;clear hx hx3;refine qaf (cells:=pairV (.slice A3 32 c3) (.slice B4 32 d3)) hblk rfl rfl rfl rfl qat rfl (by simp [pairV,Value.oneCell']) ?_;intro w2 hb2 hw2;go_wp2_with fail;exact .mk (hE undef _ ⟨o,A3,c3,B4,d3,hx',ho,hb2,hc3,hd3,qaD (r3.wrote hblk hw2 qbK) hw2.size,qaD (r4.wrote hblk hw2 qbK) hw2.size⟩ (hw2.below hC1 ho hC1.size) trivial)
    intro w1 vals hC1 hf;have f0:vals 0=_:=hf 0 (by decide) rfl;have f1:vals 1=_:=hf 1 (by decide) rfl;have f2:vals 2=_:=hf 2 (by decide) rfl;have f6:(fun z u=>PrB w6.heap.size sx sy (z 5) u) vals w1:=hf 6 (by decide) rfl
    try dsimp only at f0 f1 f2 f6
    clear hf;simp only [sP,f0,f1,f2];clear f0 f1 f2;generalize vals 3=x3 at *;generalize vals 4=x4 at *;generalize vals 5=x5 at *;obtain ⟨o7,X7,cx7,Y7,cy7,rfl,ho7,hk7,hcx7,hcy7,rx7,ry7⟩:=f6;obtain ⟨w7,rfl⟩:=eX w1;have hp:=HST.out.next hC1;replace HST:=zY (show Cs [.box o7 32 (pairV (.slice X7 32 cx7) (.slice Y7 32 cy7)),.rd X7 (DN sx),.rd Y7 (DN sy),.rd S (bytesV B1)] w w7 from ⟨⟨hk7,rx7,ry7,hp.1.2.2.2.2.2.2.2.1,trivial⟩,hp.2⟩);clear hp hk7 rx7 ry7 ho7 hC1 HC0 CM2 CAD;go_wp2_with fail;have HC0:Below w7.heap.size w7 w7.drew:=(Below.refl _ _).drew
    refine qar (fun u=>Below w7.heap.size w7 u) (fun | false=>(fun _=>True) | true=>(fun _=>True)) (fun | false,_=>false | true,_=>false)
     [fun z _=>z 0=.agg (pairV (.slice X7 32 cx7) (.slice Y7 32 cy7)),
      fun z u=>(fun v u=>∃ A c,v=.slice A 32 c∧Rd u u.heap.size A (bytesV L)) (z 1) u,
      fun z _=>z 2=.string SL,
      fun z _=>z 3=.slice S 64 cs,
      fun z _=>z 4=.slice S 32 cs,
      fun z _=>z 5=.string SB,
      fun z _=>z 6=.bool (!q)]
     [Eq,fun u u'=>Below u.heap.size u u',Eq,Eq,Eq,Eq,Eq]
     (fun _ _=>false) [(0,some 50),(1,some 51),(2,some 52),(3,some 53),(4,some 54),(5,some 55),(6,some 56)] (by kernel_rfl) (by kernel_rfl) rfl (fun _=>rfl) ?_ ?_ ?_ ?_ ?_ ?_
    ·exact HC0
    ·intro m; cases m; exact trivial; exact trivial
    ·intro m; cases m
     ·refine ⟨?_,.inr (fun _ _ _ h=>h),?_,?_,?_,?_,?_,trivial⟩ <;> exact .inr fun _ _ h h0=>h▸h0
     ·refine ⟨?_,.inr (fun _ _ _ h=>h),?_,?_,?_,?_,?_,trivial⟩ <;> exact .inr fun _ _ h h0=>h▸h0
    ·refine ⟨⟨.inl rfl,?_,?_,?_,?_,?_,?_,trivial⟩,⟨?_,.inl rfl,?_,?_,?_,?_,?_,trivial⟩,⟨?_,?_,.inl rfl,?_,?_,?_,?_,trivial⟩,⟨?_,?_,?_,.inl rfl,?_,?_,?_,trivial⟩,⟨?_,?_,?_,?_,.inl rfl,?_,?_,trivial⟩,⟨?_,?_,?_,?_,?_,.inl rfl,?_,trivial⟩,⟨?_,?_,?_,?_,?_,?_,.inl rfl,trivial⟩,trivial⟩ <;> first | exact .inr (.inr (.inl rfl)) | exact .inr (.inr (.inr fun _ _ _ _ _ h=>h)) | exact .inr (.inr (.inr fun _ _ _ _ h h0=>by cases h; exact h0))
    ·refine ⟨?_,?_,?_,?_,?_,?_,?_,trivial⟩
     ·refine qac [] (fun _=>rfl) rfl ?_;intro w1 vals hC1 hi0 hf E hE;clear hi0;clear hf;have hs:=HST.out.next hC1;simp only [sP] at hE ⊢;refine qab (hs.1.1) rfl rfl rfl hpt rfl qat ?_;go_wp2_with fail;exact .mk (hE _ _ rfl hC1 rfl)
     ·refine qac [(0,some 50)] (fun _=>rfl) rfl ?_;intro w1 vals hC1 hi0 hf E hE;clear hi0;have f0:vals 0=_:=hf 0 rfl
      try dsimp only at f0
      clear hf;have hs:=HST.out.next hC1;simp only [sP,f0] at hE ⊢;clear f0;go_wp2_with fail;refine qaa (CY.out _ _ _ _ _ hs.1.2.1 hs.1.2.2.1 hcy7) ?_;rintro e w2 ⟨A2,c2,rfl,r1,hb2⟩;go_wp2_with fail;exact .mk (hE _ _ ⟨A2,c2,rfl,r1⟩ (hC1.trans (hb2.mono hC1.size)) hb2)
     ·refine qac [(1,some 51)] (fun _=>rfl) rfl ?_;intro w1 vals hC1 hi0 hf E hE;clear hi0;have f1:(fun v u=>∃ A c,v=.slice A 32 c∧Rd u u.heap.size A (bytesV L)) (vals 1) w1:=hf 1 rfl
      try dsimp only at f1
      clear hf;obtain ⟨A2,c2,hx,r1⟩:=f1;have cv:=KL.out _ A2 c2 r1;simp only [sP,hx] at hE ⊢;clear hx;go_wp2_with fail;exact .mk (hE _ _ rfl hC1 rfl)
     ·refine qac [] (fun _=>rfl) rfl ?_;intro w1 vals hC1 hi0 hf E hE;clear hi0;clear hf;simp only [sP] at hE ⊢;go_wp2;exact .mk (hE _ _ rfl hC1 rfl)
     ·refine qac [(3,some 53)] (fun _=>rfl) rfl ?_;intro w1 vals hC1 hi0 hf E hE;clear hi0;have f3:vals 3=_:=hf 3 rfl
      try dsimp only at f3
      clear hf;simp only [sP,f3] at hE ⊢;clear f3;go_wp2;exact .mk (hE _ _ rfl hC1 rfl)
     ·refine qac [(4,some 54)] (fun _=>rfl) rfl ?_;intro w1 vals hC1 hi0 hf E hE;clear hi0;have f4:vals 4=_:=hf 4 rfl
      try dsimp only at f4
      clear hf;have hs:=HST.out.next hC1;have cv:=KB.out _ S cs hs.1.2.2.2.1;simp only [sP,f4] at hE ⊢;clear f4;go_wp2_with fail;exact .mk (hE _ _ rfl hC1 rfl)
     ·refine qac [(2,some 52),(5,some 55)] (fun _=>rfl) rfl ?_;intro w1 vals hC1 hi0 hf E hE;clear hi0;have f2:vals 2=_:=hf 2 rfl;have f5:vals 5=_:=hf 5 rfl
      try dsimp only at f2 f5
      clear hf;have hsq:=HSQ.out;simp only [sP,f2,f5] at hE ⊢;clear f2 f5;go_wp2;exact .mk (hE _ _ rfl hC1 rfl)
    intro w1 vals hC1 hf;have f0:vals 0=_:=hf 0 (by decide) rfl;have f1:(fun v u=>∃ A c,v=.slice A 32 c∧Rd u u.heap.size A (bytesV L)) (vals 1) w1:=hf 1 (by decide) rfl;have f2:vals 2=_:=hf 2 (by decide) rfl;have f3:vals 3=_:=hf 3 (by decide) rfl;have f4:vals 4=_:=hf 4 (by decide) rfl;have f5:vals 5=_:=hf 5 (by decide) rfl;have f6:vals 6=_:=hf 6 (by decide) rfl
    try dsimp only at f0 f1 f2 f3 f4 f5 f6
    clear hf;simp only [sP,f0,f2,f3,f4,f5,f6];clear f0 f2 f3 f4 f5 f6;generalize vals 1=x1 at *;obtain ⟨w8,rfl⟩:=eX w1;have HF:=zY (HST.out.next hC1).2;clear hC1 HC0 HST f1 CY KL KB
    cases q with
    | false =>
     go_wp2_with fail;go_ret;exact ⟨by rw [HV2.out]; rfl,HF.out⟩
    | true =>
     go_wp2_with fail;go_ret;exact ⟨by rw [HV2.out]; rfl,HF.out⟩
  ·have h64':¬ (s.length:Int)=64:=by omega
   have HVV:=zY (show V=2 by rw [HV.out,refS,if_pos h0,if_neg h64]);obtain ⟨ns,hns⟩:=eX (s.length);have hns':(ns:Int)≤200:=by omega
   rw [← hns] at h64' ⊢;have HCR:=zY HCR0;clear hcr HCR0 h0 okQ isQ hF lp32 hnm hns h64 HV rp rm rs hca hcs lp lm ls;go_enter Tryz.func5,Tryz.ntmps5;go_wp2_with fail;refine qaa HCR.out ?_;rintro e w1 ⟨X1,cx1,Y1,cy1,rfl,hcx1,hcy1,rx,ry,hb⟩;have HB:=zY hb;clear rx ry hb HCR;go_wp2_with (refine qaf (x:=.tmp 7) (cells:=pairV (.slice X1 32 cx1) (.slice Y1 32 cy1)) (Blk.new w1 32 (pairV nilS nilS)) rfl rfl rfl rfl qat rfl (by simp [pairV,nilS,Value.oneCell']) ?_; intro w2 hb2 hw2; have HW2:=zY (qba hw2); clear hb2 hw2);go_ret;exact ⟨by rw [HVV.out]; rfl,HB.out.trans (HW2.out.mono HB.out.size)⟩
set_option maxRecDepth 100000
def rk:List UInt8:=[0x9d,0x61,0xb1,0x9d,0xef,0xfd,0x5a,0x60,0xba,0x84,0x4a,0xf4,0x92,0xec,0x2c,0xc4,0x44,0x49,0xc5,0x69,0x7b,0x32,0x69,0x19,0x70,0x3b,0xac,0x03,0x1c,0xae,0x7f,0x60]
def rkK:List UInt8:=[48,124,131,134,79,40,51,203,66,122,46,241,192,10,1,60,253,255,39,104,217,128,192,163,165,32,240,6,144,77,233,79]
def rkR:Nat:=2015312323900227545039973048451112962192803170366412514267238242679089760755
theorem rkK_eq:bsN ((secL rk).take 32)=rkK:=by decide +kernel
theorem rkR_eq:secN rk []=rkR:=by decide +kernel
theorem rkP_eq:(bytP (bmP rkK)).take 4=[0xd7,0x5a,0x98,0x01]:=by decide +kernel
theorem rkS_eq:(bytP (bmP (byB rkR))).take 4=[0xe5,0x56,0x43,0x00]:=by decide +kernel
theorem rk_pub:(pubL (keyN rk)).take 4=[0xd7,0x5a,0x98,0x01]:=by
 rw [← keyB_val,rkK_eq,← qeu (by decide),rkP_eq]
theorem rk_sig:(sigB rk []).take 4=[0xe5,0x56,0x43,0x00]:=by
 have hL:rkR<LN:=by decide +kernel
 have h:(pubL (secN rk [])).take 4=[0xe5,0x56,0x43,0x00]:=by
  rw [rkR_eq,← qbI hL,← qeu (qbn _),rkS_eq]
 rw [sigB,List.take_append_of_le_length (by rw [ptB_len]; decide),ptB,bsN,← List.map_take,h]
 decide
theorem rk_v:(bytesV rk).toArray=#[.int .u8 157,.int .u8 97,.int .u8 177,.int .u8 157,.int .u8 239,.int .u8 253,.int .u8 90,.int .u8 96,.int .u8 186,.int .u8 132,.int .u8 74,.int .u8 244,.int .u8 146,.int .u8 236,.int .u8 44,.int .u8 196,.int .u8 68,.int .u8 73,.int .u8 197,.int .u8 105,.int .u8 123,.int .u8 50,.int .u8 105,.int .u8 25,.int .u8 112,.int .u8 59,.int .u8 172,.int .u8 3,.int .u8 28,.int .u8 174,.int .u8 127,.int .u8 96]:=by rfl
theorem bn4 {w:World} {o:Nat} {L:List Nat} {a b c d:Nat} (h:Blk w o 5 (bnV L).toArray) (h4:L.take 4=[a,b,c,d]) :
  w.cell? ⟨o,0,none⟩=some (.int .u8 (a:Int))∧w.cell? ⟨o,1,none⟩=some (.int .u8 (b:Int))∧w.cell? ⟨o,2,none⟩=some (.int .u8 (c:Int))∧w.cell? ⟨o,3,none⟩=some (.int .u8 (d:Int)):=by
 have e:∀ (i x:Nat),[a,b,c,d][i]?=some x→i<4→w.cell? ⟨o,i,none⟩=some (.int .u8 (x:Int)):=fun i x hx hi=>by
  have h1:L[i]?=some x:=by rw [← hx,← h4,List.getElem?_take,if_pos hi]
  rw [h.cell,List.getElem?_toArray,bnV,List.getElem?_map,h1];rfl
 exact ⟨e 0 a rfl (by decide),e 1 b rfl (by decide),e 2 c rfl (by decide),e 3 d rfl (by decide)⟩
theorem by4 {w:World} {g B n c:Nat} {l:List UInt8} {x0 x1 x2 x3:UInt8} (h:OwnX w B 5 1 (.slice (some ⟨g,0,none⟩) n c) n (bytesV l)) (h4:l.take 4=[x0,x1,x2,x3]) :
  w.cell? ⟨g,0,none⟩=some (.int .u8 (x0.toNat:Int))∧w.cell? ⟨g,1,none⟩=some (.int .u8 (x1.toNat:Int))∧w.cell? ⟨g,2,none⟩=some (.int .u8 (x2.toNat:Int))∧w.cell? ⟨g,3,none⟩=some (.int .u8 (x3.toNat:Int)):=by
 have e:∀ (i:Nat) (x:UInt8),[x0,x1,x2,x3][i]?=some x→i<4→w.cell? ⟨g,i,none⟩=some (.int .u8 (x.toNat:Int)):=fun i x hx hi=>by
  have h1:l[i]?=some x:=by rw [← hx,← h4,List.getElem?_take,if_pos hi]
  exact h.atN (by rw [bytesV,List.getElem?_map,h1]; rfl)
 exact ⟨e 0 x0 rfl (by decide),e 1 x1 rfl (by decide),e 2 x2 rfl (by decide),e 3 x3 rfl (by decide)⟩
theorem lives_any (w:World) (hG:Sh.TabG w):Calls Tryz.prog 7 #[] w (BoolPost true w):=by
 have hb0:=below_new w (.cells (bytesV rk).toArray 5);have hk0:=Blk.new w 5 (bytesV rk).toArray;have CP:=zY (qdV rk (by decide) (some ⟨w.heap.size,0,none⟩) 32 _ (Rd.of_blk hk0 hk0.lt) (Nat.le_refl _) (hG.below hb0 hG.size));have CS:=zY (fun u (h:Rd u u.heap.size (some ⟨w.heap.size,0,none⟩) (bytesV rk)) (g:Sh.TabG u)=>ssign_any rk [] (by decide) (by decide) (some ⟨w.heap.size,0,none⟩) none 32 0 u h (Rd.nil _ _ _) (Nat.le_refl _) g);have R0:=zY (Rd.of_blk hk0 hk0.lt);have HB:=zY hb0;have HG:=zY (hG.below hb0 hG.size);obtain ⟨LP,hLP⟩:=eX (pubL (keyN rk));obtain ⟨LS,hLS⟩:=eX (sigB rk []);have e1:=rk_pub;have e2:=rk_sig;rw [← hLP] at CP e1;rw [← hLS] at CS e2;rw [rk_v] at CP;have E1:=zY e1;have E2:=zY e2;clear hb0 hk0 hG hLP hLS e1 e2;go_enter Tryz.func7,Tryz.ntmps7;go_wp2_with fail;refine qaa CP.out ?_;rintro e w1 ⟨o1,rfl,ho1,hk1,hb⟩;rw [← rk_v] at hb;replace HB:=zY (HB.out.trans (hb.mono HB.out.size));replace HG:=zY (HG.out.below hb HG.out.size);replace R0:=zY (qae R0.out hb);have HK1:=zY hk1;clear ho1 hk1 hb CP;go_wp2_with fail;refine qaa (CS.out _ R0.out HG.out) ?_;rintro e w2 ⟨A2,c2,rfl,ho2,hb⟩;replace HB:=zY (HB.out.trans (hb.mono HB.out.size));obtain ⟨g2,ys,rfl,hg2,hc2,_⟩:=OwnZ.blk ho2 (by decide);obtain ⟨d0,d1,d2,d3⟩:=bn4 (HK1.out.below hb HK1.out.lt) E1.out;obtain ⟨e0,e1,e2,e3⟩:=by4 ho2.x E2.out;clear ho2 hb hg2 HK1 E1 E2 CS R0 HG;simp at d0 d1 d2 d3 e0 e1 e2 e3;go_wp2_with fail;go_ret;exact ⟨rfl,HB.out⟩
theorem nil_len' {l:List UInt8} {A:Option Addr} {w:World} (hr:Rd w w.heap.size A (bytesV l)):A=none→l.length=0:=fun h=>by
 by_cases h0:0<l.length
 ·obtain ⟨ad,h1,_⟩:=hr.at_ (k:=0) (by rw [qaq]; exact h0);rw [h] at h1; cases h1
 ·omega
theorem few_any (l:List UInt8) (m:Nat) (hm:m≤1000) (A:Option Addr) (c:Nat) (w:World) (hnil:A=none→l.length=0) (hc:l.length≤c) :
  Calls Tryz.prog 4 #[.slice A l.length c,.int .i64 (m:Int)] w (fun e w'=>e=.returned (.slice A (l.take m).length c)∧w'=w):=by
 have hlt2:(l.take m).length=min m l.length:=List.length_take;rw [hlt2];generalize l.length=n at *;have hmb:(m:Int)≤1000:=by omega
 by_cases hlt:m<n
 ·obtain ⟨ad,rfl⟩:∃ ad,A=some ad:=by
   cases A with
   | none=>have:=hnil rfl; omega
   | some ad=>exact ⟨ad,rfl⟩
  have hgt:(n:Int) > (m:Int):=by omega
  have hmc:(m:Int)≤(c:Int):=by omega
  have hmin:min m n=m:=by omega
  rw [hmin];clear hlt hmin hlt2 hnil hm hc;go_enter Tryz.func4,Tryz.ntmps4;go_wp2_with fail;go_ret;exact ⟨rfl,rfl⟩
 ·have hgt:¬ (n:Int) > (m:Int):=by omega
  have hmin:min m n=n:=by omega
  rw [hmin];clear hlt hmin hlt2 hnil hm hc;go_enter Tryz.func4,Tryz.ntmps4;go_wp2_with fail;go_ret;exact ⟨rfl,rfl⟩
def wantV:List Value:=[.int .i64 0,.int .i64 11,.int .i64 10]
theorem want_cell {u:World} {g:Nat} {t:TypeId} (h:Blk u g t wantV.toArray) (p m s:List UInt8):u.cell? ⟨g,refS p m s,none⟩=some (.int .i64 (verS p m s:Int)):=by
 rw [h.cell]
 rcases ref_ver p m s with ⟨h1,h2⟩ | ⟨h1,h2⟩ | ⟨h1,h2⟩ <;> rw [h1,h2] <;> rfl
theorem ref_le (p m s:List UInt8):refS p m s<3:=by
 rcases ref_ver p m s with ⟨h1,_⟩ | ⟨h1,_⟩ | ⟨h1,_⟩ <;> rw [h1] <;> decide
theorem ver_le (p m s:List UInt8):verS p m s<12:=by
 rcases ref_ver p m s with ⟨_,h1⟩ | ⟨_,h1⟩ | ⟨_,h1⟩ <;> rw [h1] <;> decide
theorem qdt (l1 l2 l3:List UInt8) (A1 A2 A3:Option Addr) (c1 c2 c3:Nat) (w:World) (hr1:Rd w w.heap.size A1 (bytesV l1)) (hr2:Rd w w.heap.size A2 (bytesV l2)) (hr3:Rd w w.heap.size A3 (bytesV l3)) (hc1:l1.length≤c1) (hc2:l2.length≤c2) (hc3:l3.length≤c3) (hG:Sh.TabG w) :
  Calls Tryz.prog 3 #[.slice A1 l1.length c1,.slice A2 l2.length c2,.slice A3 l3.length c3] w (BoolPost true w):=by
 obtain ⟨n1,hn1⟩:=eX (l1.length);obtain ⟨n2,hn2⟩:=eX (l2.length);obtain ⟨n3,hn3⟩:=eX (l3.length);obtain ⟨p,hp⟩:=eX (l1.take 34);obtain ⟨m,hm⟩:=eX (l2.take 100);obtain ⟨s,hs⟩:=eX (l3.take 70);obtain ⟨np,hnp⟩:=eX (p.length);obtain ⟨nm,hnm⟩:=eX (m.length);obtain ⟨ns,hns⟩:=eX (s.length);have lp:p.length≤200:=by rw [hp,List.length_take]; omega
 have lm:m.length≤200:=by rw [hm,List.length_take]; omega
 have ls:s.length≤200:=by rw [hs,List.length_take]; omega
 have kp:p.length≤c1:=by rw [hp,List.length_take]; omega
 have ks:s.length≤c3:=by rw [hs,List.length_take]; omega
 have CF1:=zY (show ∀ u,Calls Tryz.prog 4 #[.slice A1 n1 c1,.int .i64 34] u (fun e w'=>e=.returned (.slice A1 np c1)∧w'=u) from fun u=>by
  rw [hnp,hp,hn1]; exact few_any l1 34 (by decide) A1 c1 u (nil_len' hr1) hc1)
 have CF2:=zY (show ∀ u,Calls Tryz.prog 4 #[.slice A2 n2 c2,.int .i64 100] u (fun e w'=>e=.returned (.slice A2 nm c2)∧w'=u) from fun u=>by
  rw [hnm,hm,hn2]; exact few_any l2 100 (by decide) A2 c2 u (nil_len' hr2) hc2)
 have CF3:=zY (show ∀ u,Calls Tryz.prog 4 #[.slice A3 n3 c3,.int .i64 70] u (fun e w'=>e=.returned (.slice A3 ns c3)∧w'=u) from fun u=>by
  rw [hns,hs,hn3]; exact few_any l3 70 (by decide) A3 c3 u (nil_len' hr3) hc3)
 obtain ⟨K,hK⟩:=eX (refS p m s);obtain ⟨V,hV⟩:=eX (verS p m s)
 have CR:=zY (show ∀ u,Rd u u.heap.size A1 (bytesV p)→Rd u u.heap.size A2 (bytesV m)→Rd u u.heap.size A3 (bytesV s)→Calls Tryz.prog 5 #[.slice A1 np c1,.slice A2 nm c2,.slice A3 ns c3] u (fun e w'=>e=.returned (.int .i64 (K:Int))∧Below u.heap.size u w') from fun u h1 h2 h3=>by
  rw [hnp,hnm,hns,hK]; exact rverify_any p m s lp lm ls A1 A2 A3 c1 c2 c3 u h1 h2 h3 kp ks)
 have CV:=zY (show ∀ u,Rd u u.heap.size A1 (bytesV p)→Rd u u.heap.size A2 (bytesV m)→Rd u u.heap.size A3 (bytesV s)→Sh.TabG u→Calls Tryz.prog 6 #[.slice A1 np c1,.slice A2 nm c2,.slice A3 ns c3] u (fun e w'=>e=.returned (.int .i64 (V:Int))∧Below u.heap.size u w') from fun u h1 h2 h3 g=>by
  rw [hnp,hnm,hns,hV]; exact sverify_any p m s lp (Nat.le_trans lm (by decide)) ls A1 A2 A3 c1 c2 c3 u h1 h2 h3 kp ks g)
 have CC:=zY (show ∀ (u:World) (g:Nat) (t:TypeId),Blk u g t wantV.toArray→u.cell? ⟨g,K,none⟩=some (.int .i64 (V:Int)) from fun u g t h=>by rw [hK,hV]; exact want_cell h p m s);have hK3:(K:Int)<3:=by have:=ref_le p m s; omega
 have hK3':K<3:=by omega
 have hV3:(V:Int)<12:=by have:=ver_le p m s; omega
 have CL:=zY (show ∀ u,Sh.TabG u→Calls Tryz.prog 7 #[] u (BoolPost true u) from fun u g=>lives_any u g);have HST:=zY (show Cs [.rd A1 (bytesV p),.rd A2 (bytesV m),.rd A3 (bytesV s)] w w from ⟨⟨by rw [hp]; exact qcT hr1,by rw [hm]; exact qcT hr2,by rw [hs]; exact qcT hr3,trivial⟩,Below.refl _ _⟩);have HG:=zY hG;rw [← hn1,← hn2,← hn3];clear hn1 hn2 hn3 hp hm hs hnp hnm hns lp lm ls kp ks hK hV hr1 hr2 hr3 hc1 hc2 hc3 hG;go_enter Tryz.func3,Tryz.ntmps3;go_wp2_with fail;refine qaa (CF1.out _) ?_;rintro e w1 ⟨rfl,rfl⟩;go_wp2_with fail;refine qaa (CF2.out _) ?_;rintro e w2 ⟨rfl,rfl⟩;go_wp2_with fail;refine qaa (CF3.out _) ?_;rintro e w3 ⟨rfl,rfl⟩;clear CF1 CF2 CF3;go_wp2_with fail;obtain ⟨w4,hw4⟩:=eX (w3.alloc (.cells wantV.toArray 24));have hb0:Below w3.heap.size w3 w4:=by rw [hw4]; exact below_new _ _
 have hk0:Blk w4 w3.heap.size 24 wantV.toArray:=by rw [hw4]; exact Blk.new _ _ _
 show Calls _ _ _ (w3.alloc (.cells wantV.toArray 24)) _;rw [← hw4];replace HST:=zY (show Cs [.box w3.heap.size 24 wantV.toArray,.rd A1 (bytesV p),.rd A2 (bytesV m),.rd A3 (bytesV s)] w3 w4 from ⟨⟨hk0,(HST.out.next hb0).1⟩,(HST.out.next hb0).2⟩);replace HG:=zY (HG.out.below hb0 HG.out.size);clear hb0 hk0 hw4;refine qaa (CR.out _ HST.out.1.2.1 HST.out.1.2.2.1 HST.out.1.2.2.2.1) ?_;rintro e w5 ⟨rfl,hb⟩;replace HST:=zY (HST.out.next hb);replace HG:=zY (HG.out.below hb HG.out.size);clear hb CR;go_wp2_with fail;have HC0:=And.intro HST.out.drew (HG.out.below (Below.refl w5.heap.size w5).drew HG.out.size);clear HST HG;refine qal (fun u=>Cs [.box w3.heap.size 24 wantV.toArray,.rd A1 (bytesV p),.rd A2 (bytesV m),.rd A3 (bytesV s)] w3 u∧Sh.TabG u) (fun u=>Cs [.box w3.heap.size 24 wantV.toArray,.rd A1 (bytesV p),.rd A2 (bytesV m),.rd A3 (bytesV s)] w3 u∧Sh.TabG u) [(0,some 20),(1,some 21),(2,some 22),(3,some 23),(4,some 24),(5,some 25),(6,some 26),(7,some 27),(8,some 28),(9,some 29),(10,some 30),(11,some 31),(12,some 6)] (by kernel_rfl) (by kernel_rfl) (by decide) (by kernel_rfl) (fun _=>rfl) HC0 ?_;apply yN_
 ·apply dP [];exact fun _=>rfl;rfl;rintro vals - w1 hC1 E hE;simp only [sP] at hE ⊢;go_wp2;exact .mk (hE _ hC1)
 apply yN_
 ·apply dP [];exact fun _=>rfl;rfl;rintro vals ⟨-,-⟩ w1 hC1 E hE;simp only [sP] at hE ⊢;go_wp2;exact .mk (hE _ hC1)
 apply yN_
 ·apply dP [];exact fun _=>rfl;rfl;intro vals vq w1 hC1 E hE;clear vq;simp only [sP] at hE ⊢;go_wp2;exact .mk (hE _ hC1)
 apply yN_
 ·apply dP [(0,some 20),(1,some 21),(2,some 22)];exact fun _=>rfl;rfl;intro vals vq w1 hC1 E hE;simp only [sP,vq] at hE ⊢;clear vq;go_wp2_with fail;refine qaa (CV.out _ hC1.1.1.2.1 hC1.1.1.2.2.1 hC1.1.1.2.2.2.1 hC1.2) ?_;rintro e w2 ⟨rfl,hb2⟩;go_wp2_with fail;exact .mk (hE _ ⟨hC1.1.next hb2,hC1.2.below hb2 hC1.2.size⟩)
 apply yN_
 ·apply dP [];exact fun _=>rfl;rfl;intro vals vq w1 hC1 E hE;clear vq;simp only [sP] at hE ⊢;go_wp2;exact .mk (hE _ hC1)
 apply yN_
 ·apply dP [];exact fun _=>rfl;rfl;intro vals vq w1 hC1 E hE;clear vq;simp only [sP] at hE ⊢;go_wp2;exact .mk (hE _ hC1)
 apply yN_
 ·apply dP [(4,some 24),(5,some 25)];exact fun _=>rfl;rfl;intro vals vq w1 hC1 E hE;simp only [sP,vq] at hE ⊢;clear vq;go_wp2;exact .mk (hE _ hC1)
 apply yN_
 ·apply dP [(6,some 26)];exact fun _=>rfl;rfl;intro vals vq w1 hC1 E hE;have d0:=CC.out _ _ _ hC1.1.1.1;simp only [sP,vq] at hE ⊢;clear vq;go_wp2;exact .mk (hE _ hC1)
 apply yN_
 ·apply dP [(3,some 23),(7,some 27)];exact fun _=>rfl;rfl;intro vals vq w1 hC1 E hE;simp only [sP,vq] at hE ⊢;clear vq;go_wp2;exact .mk (hE _ hC1)
 apply yN_
 ·apply dP [(8,some 28),(3,some 23)];exact fun _=>rfl;rfl;intro vals vq w1 hC1 E hE;simp only [sP,vq] at hE ⊢;clear vq;go_wp2;exact .mk (hE _ hC1)
 apply yN_
 ·apply dY [(9,some 29),(9,some 29)] (g:=9) (t:=29) (want:=true);exact fun _=>rfl;rfl;rfl
  ·intro vals vq;simp only [sP,vq];rfl
  intro vals vq w1 hC1 E hE;dsimp only at hE ⊢;simp only [sP,vq] at hE ⊢;clear vq;go_wp2_with fail;refine qaa (CL.out _ hC1.2) ?_;rintro e w2 ⟨rfl,hb2⟩;go_wp2_with fail;exact .mk (hE _ ⟨hC1.1.next hb2,hC1.2.below hb2 hC1.2.size⟩)
 apply yN_
 ·apply dP [(9,some 29),(10,some 30)];exact fun _=>rfl;rfl;intro vals vq w1 hC1 E hE;simp only [sP,vq] at hE ⊢;clear vq;go_wp2;exact .mk (hE _ hC1)
 apply yL_
 ·apply dP [(11,some 31),(10,some 30),(0,some 20),(1,some 21),(2,some 22),(3,some 23),(4,some 24),(5,some 25),(6,some 26),(7,some 27),(8,some 28),(9,some 29),(10,some 30),(11,some 31)];exact fun _=>rfl;rfl;intro vals vq w1 hC1 E hE;simp only [sP,vq] at hE ⊢;clear vq;go_wp2;exact .mk (hE _ hC1)
 intro vals vq w1 hC1;simp only [sP,vq];clear vq;have HF:=zY hC1.1.2;clear HC0 hC1;go_wp2_with fail;go_ret;exact ⟨rfl,HF.out⟩
end Go.Proofs.YtdgheahbafnboaaGreatDoor
namespace Go.Proofs.YtdgheahbafnboaaGreatDoor.signVerifies
set_option linter.unusedSimpArgs false
set_option linter.unusedVariables false
open Go.ChangeShapes Go.WideShapes Go.ChangeAt Go.RowKit Go.Joins Sh
set_option maxRecDepth 100000 in
theorem lifted (os:Os) (started:os.Started) (H:Type) (enc:TypeId × Value→H) :
  ReturnsInHanded {} Tryz.checked os 3 .any (fun w args=>(Rows.signVerifiesSpec.pre enc Tryz.prog Tryz.f3 [] false w args∧laidMetH Tryz.prog laidL w)∧sizedMet enc Tryz.prog Tryz.f3 (OpenSpec.ofChange Rows.signVerifiesSpec) false w args)
   (Rows.signVerifiesSpec.post enc Tryz.prog Tryz.f3 false true false false):=by
 refine returnsInHanded_of_change_and (C:=Tryz.checked) (X:=fun w _=>laidMetH Tryz.prog laidL w) (fun _ _ _ hh h=>h.of_heap hh) own started (by kernel_rfl) Tryz.func3
  (ChangeSpec.witness_shaped (enc:=enc) (C:=Tryz.checked) (os:=os) (X:=fun w _=>laidMetH Tryz.prog laidL w) false (World.doorLaid Tryz.prog 400 os) #[.slice none 0 0,.slice none 0 0,.slice none 0 0] 8 rfl (World.shaped_of_RefB (by kernel_rfl) (by kernel_rfl)) (by kernel_rfl) (by kernel_rfl) (by kernel_rfl) (door_met os _)) ?_
 intro W base args ds gs before hval0 hW _ _ hL _;have hval:∀ (j:Nat) t v,Tryz.f3.params[j]?=some t→args[j]?=some v→Value.okWide Tryz.prog W .any base t v:=hval0;have hW':=hW;obtain ⟨p,q,hA0,hV,rfl,hfz,hnd⟩:=hW;have hA:DataW.TrodAll enc Tryz.prog W 0 (fun _=>true) true Tryz.f3.params.toList args.toList ds p:=hA0;rw [Tryz.params3] at hA hval;have hG:=tab_of_laid hL;obtain ⟨v0,v1,v2,y0,y1,y2,p0,p1,p2,rfl,rfl,rfl,h0,h1,h2⟩:=trodAll_three hA;obtain ⟨rfl,rfl⟩:=trodVars_none hV;have h0k:=h0;have h1k:=h1;have h2k:=h2;obtain ⟨l1,A1,c1,rfl,rm1,qm1,okm1⟩:=qb0 (hval 0 22 v0 rfl rfl) h0;obtain ⟨l2,A2,c2,rfl,rm2,qm2,okm2⟩:=qb0 (hval 1 22 v1 rfl rfl) h1;obtain ⟨l3,A3,c3,rfl,rm3,qm3,okm3⟩:=qb0 (hval 2 22 v2 rfl rfl) h2;clear hA0 hval0;simp only [List.append_nil] at hW';refine (qdt l1 l2 l3 A1 A2 A3 c1 c2 c3 W rm1 rm2 rm3 qm1 qm2 qm3 hG).mono fun e W' ⟨he,hb⟩=>?_;subst he;have hlt:∀ x ∈ p0++p1++p2,x.block<W.heap.size:=fun x hx=>hW'.lt x (by simpa using hx)
 exact ⟨_,rfl,post_of_below (pa:=p0++(p1++p2)) (pv:=[]) hW' (fun _ _ _=>trodAll_mk1 (shut_bool Tryz.underlying4 _))
  (fun sp hsp=>trodAll_mk3 (stays laidOut (by kernel_rfl) (of_decide_eq_true (by kernel_rfl)) h0k hb (fun x hx=>hlt x (by simp [hx])) (fun x hx=>hsp x (by simp [hx])))
   (stays laidOut (by kernel_rfl) (of_decide_eq_true (by kernel_rfl)) h1k hb (fun x hx=>hlt x (by simp [hx])) (fun x hx=>hsp x (by simp [hx])))
   (stays laidOut (by kernel_rfl) (of_decide_eq_true (by kernel_rfl)) h2k hb (fun x hx=>hlt x (by simp [hx])) (fun x hx=>hsp x (by simp [hx]))))
  (fun _ _=>rfl) (by simp) hb (ok_one (by kernel_rfl) rfl (okWide_bool_mk Tryz.underlying4 _))⟩
theorem row_holds:Rows.SignVerifiesSaid :=
 OpenClaim.holds_of_wide 3 Tryz.f3 rfl rfl rfl rfl rfl rfl rfl ⟨rfl,rfl,rfl,rfl,rfl⟩ rfl rfl rfl rfl rfl (by kernel_rfl) Tryz.func3 (by kernel_rfl)
  (of_decide_eq_true (by kernel_rfl)) (by unfold Func.isWrapper; first | (rw [if_pos (by decide +kernel)]; kernel_rfl) | (rw [if_neg (by decide +kernel)]; exact ⟨rfl,rfl⟩))
  (fun os started H enc _=>lifted os started H enc)
theorem holds:Rows.SignVerifiesCardSaid :=
 Claim7.holds_tied_plain_at .later [] [.data] true (true, "bfb09c08012252549946a25f5c2dd8779c10524d1b8bfceba880b945237b85f3") false
  row_holds (fun _ h=>by cases h) (by kernel_rfl) (fun _ h=>by cases h) signVerifies_row_tie rfl ⟨rfl,rfl⟩ (by kernel_rfl) rfl
  (fun f fn hf hfn=>by
   obtain rfl:f=3:=Option.some.inj ((show Tryz.prog.funcNamed "brevet/brevetlaw06.SignVerifies" = some 3 by kernel_rfl).symm.trans hf) |>.symm;obtain rfl:fn=Tryz.f3:=(Option.some.inj (Tryz.func3.symm.trans hfn)).symm
   exact ⟨by kernel_rfl,fun j t ht=>by
    rw [Tryz.params3] at ht;have hm:t ∈ [22]:=by simpa using Array.mem_of_getElem? ht
    have hall:([22].all fun u=>!Tryz.prog.wantsStandIn u)=true:=by kernel_rfl
    exact (show Tryz.prog.wantsStandIn t=false by simpa using List.all_eq_true.1 hall t hm)⟩)
  (by kernel_rfl)
#print axioms holds
end Go.Proofs.YtdgheahbafnboaaGreatDoor.signVerifies
