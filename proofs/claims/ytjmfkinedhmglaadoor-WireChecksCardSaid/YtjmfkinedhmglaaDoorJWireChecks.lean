/-
  PROVED: 'brevetlaw12.WireChecks': for every key and every message the signature is checked as that of the message's text. The listed variable (the words of the steps) is tied to the program's text by the card.
-/
import Derived.Deep.DeepCutAuto
import Derived.Test.YtjmfkinedhmglaaDoorCards
import Derived.Test.YtjmfkinedhmglaaDoorTie
import Derived.SevenTiedAt
import Derived.ProofKit
import Derived.OpenShut
import Derived.Test.YtjmfkinedhmglaaDoorJ4
import Derived.Test.YtjmfkinedhmglaaDoorJ1
namespace Go.Proofs.YtjmfkinedhmglaaDoor.Wi
set_option linter.unusedSimpArgs false
set_option linter.unusedVariables false
set_option maxRecDepth 100000
set_option maxHeartbeats 4000000
open Go.RowKit
theorem prefix_append (l:List UInt8):(⟨#[98,114,101,118,101,116,47]⟩:ByteArray)++(⟨l.toArray⟩:ByteArray)=⟨(prefixB++l).toArray⟩:=by
 apply ByteArray.ext;rw [ByteArray.data_append];simp [prefixB]
theorem tabG_drew {w:World} (h:Sh.TabG w):Sh.TabG w.drew:=h.below (Below.refl w.heap.size w).drew h.size
theorem wireChecks_any (l:List UInt8) (m0:MsgD) (A A0:Option Addr) (ca c0:Nat) (w:World) (rp:Rd w w.heap.size A (bytesV l)) (hca:l.length≤ca) (hcm:ca≤9223372036854775807) (hr:Rd w w.heap.size A0 (strsV m0.fields)) (hc:m0.fields.length≤c0) (ok:MsgOk m0) (hG:Sh.TabG w) :
  Calls Tryd.prog 3 #[.slice A l.length ca,.agg (msgCells m0 A0 c0)] w (fun e w'=>e=.returned (.bool true)∧Below w.heap.size w w'):=by
 have hu:=Tryd.underlying25;have hus:=Tryd.underlying9;have hub:=Tryd.underlying22;have hu8:=Tryd.underlying5;obtain ⟨W0,hW0⟩:=eX (w.alloc (.cells (msgCells m0 A0 c0) 25));have hb0:Below w.heap.size w W0:=by rw [hW0]; exact below_new _ _
 have hbm:Blk W0 w.heap.size 25 (msgCells m0 A0 c0):=by rw [hW0]; exact Blk.new _ _ _
 have hbm0:=hbm;rw [hW0] at hbm0;obtain ⟨n,hn⟩:=eX (l.length);obtain ⟨p,hp⟩:=eX (l.take 40);obtain ⟨np,hnp⟩:=eX (p.length);have hnp2:np=min 40 n:=by rw [hnp,hp,List.length_take,hn]
 have lp:p.length≤200:=by rw [← hnp]; omega
 have hpc:p.length≤ca:=by rw [← hnp]; omega
 have CC:=zY (cut_any m0 A0 c0 w.heap.size W0 (hr.below hb0) hb0.size hc ok);have okm:=cut_ok ok;obtain ⟨m,hm0⟩:=eX (cutM m0);unfold CutPost at CC;rw [← hm0] at CC okm
 have CK:=zY (show ∀ u C c,Rd u u.heap.size A (bytesV p)→Rd u u.heap.size C (strsV m.fields)→m.fields.length≤c→Sh.TabG u→Calls Tryd.prog 7 #[.slice A np ca,.agg (msgCells m C c)] u (fun e w'=>e=.returned (.int .i64 (chkS p m:Int))∧Below u.heap.size u w') from fun u C c h1 h2 h3 g=>by
  rw [hnp]; exact qci p m lp A C ca c u h1 hpc h2 h3 okm g)
 have RP0:=zY (show Rd w w.heap.size A (bytesV p) by rw [hp]; exact rd_takeB rp);have HB0:=zY hb0;have HG0:=zY hG;have HBM:=zY hbm;have HW0:=zY hW0;have HOK:=zY okm;have HNP:=zY hnp;have HLP:=zY lp;have HPC:=zY hpc;have CL:=zY (show ∀ u,Calls Tryd.prog 8 #[] u (fun e w'=>e=.returned (.bool true)∧Below u.heap.size u w') from fun u=>lives_any u);rw [← hn];rw [← hn] at hca;clear hn hp hnp lp hpc hm0 okm hb0 hbm hW0 rp hr hc ok hG;have hn63:(n:Int)≤9223372036854775807:=by omega
 go_enter Tryd.func3,Tryd.ntmps3;go_wp2_with (refine qac hbm0 rfl rfl rfl hu rfl qas ?_);rw [← HW0.out];clear hbm0;refine qab CC.out ?_;rintro e w1 ⟨C1,c1,rfl,hcc,hown1,hb1⟩;have hbm1:=HBM.out.below hb1 HBM.out.lt;have HB1:=zY (HB0.out.trans (hb1.mono HB0.out.size));have HO1:=zY hown1;have HNE:=zY (qaD (t:=25) hown1 hbm1 (by decide));clear CC hb1 hown1 HBM
 go_upto_if 10 with (refine qae (x:=.tmp 3) (cells:=msgCells m C1 c1) hbm1 rfl rfl rfl rfl qas rfl (by simp [msgCells,Value.oneCell']) ?_; intro w2 hb2 hw2; have HB2:=zY hb2; have HW2:=zY hw2; clear hb2 hw2)
 have hbel2:Below w.heap.size w w2:=HW2.out.below HB1.out (Nat.le_refl _) HB1.out.size;have HST:=zY (show Cs [.box w.heap.size 25 (msgCells m C1 c1),.rd A (bytesV p),.rd C1 (strsV m.fields)] w w2 from ⟨⟨HB2.out,qan RP0.out hbel2,Rd.of_own (HW2.out.own HO1.out HNE.out) (Nat.le_refl _),trivial⟩,hbel2⟩);have HG:=zY (HG0.out.below hbel2 HG0.out.size);clear hbm1 HB1 HO1 HNE HB2 HW2 hbel2 RP0 HB0 HG0;have hca40:40<n→(40:Int)≤(ca:Int):=fun h=>by omega
 clear hn63 hcm hca
 go_cut [0] (fun s wx=>s=.slice A np ca∧w2=wx)
 case first =>
  by_cases h40:40<n
  ·have h40':(40:Int)<n:=by omega
   have hc40:=hca40 h40;obtain rfl:np=40:=by omega
   clear hca40 h40 hnp2;go_wp2_with fail
   go_meet
   exact ⟨rfl,rfl⟩
  ·have h40':¬ (40:Int)<n:=by omega
   obtain rfl:np=n:=by omega
   clear hca40 h40 hnp2;go_wp2_with fail
   go_meet
   exact ⟨rfl,rfl⟩
 case rest =>
 obtain ⟨rfl,rfl⟩:=hcut;clear hnp2 hca40;go_wp2_with (refine qac HST.out.1.1 rfl rfl rfl hu rfl qas ?_);refine qab (rmay_any m C1 c1 w2.heap.size w2 HST.out.1.2.2.1 (Nat.le_refl _) hcc HOK.out) ?_;rintro e w5 ⟨rfl,hw5⟩;have hb5:Below w2.heap.size w2 w5:=by rw [hw5]; exact (Below.refl _ _).alloc (Nat.le_refl _) _
 replace HST:=zY (HST.out.next hb5);replace HG:=zY (HG.out.below hb5 HG.out.size);clear hb5 hw5
 by_cases hm:mayB m=true
 ·obtain ⟨f1,f2,f3,f4,f5,f6,f7,f8,f9⟩:=qbd hm;have lt:=qcA hm;have lbd:=qa6 hm;obtain ⟨T,hT⟩:=eX (textB m);obtain ⟨S,hS⟩:=eX (m.sig.data.toList);have lS:S.length=m.sig.size:=by rw [hS,Array.length_toList]; rfl
  obtain ⟨V,hV⟩:=eX (chkS p m);have hVV:V=verS p T S:=by rw [hV,chkS,if_pos hm,hT,hS]
  obtain ⟨nt,hnt⟩:=eX (T.length);obtain ⟨nb,hnb⟩:=eX ((bodyB m).length);obtain ⟨sg,hsg⟩:=eX (m.sig);obtain ⟨SB,hSB⟩:∃ b:ByteArray,b=⟨(bodyB m).toArray⟩:=⟨_,rfl⟩;obtain ⟨ST,hST⟩:∃ b:ByteArray,b=⟨T.toArray⟩:=⟨_,rfl⟩;have HAB:=zY (show (⟨#[98,114,101,118,101,116,47]⟩:ByteArray)++SB=ST by rw [hST,hSB,hT,textB]; exact prefix_append _);have HSZ:=zY (show SB.size≤12000 by rw [hSB]; simpa [ByteArray.size] using lbd);have HNT:=zY (show ST.size=nt by rw [hST,hnt]; rfl);have HTB:=zY (show bytesV ST.data.toList=bytesV T by rw [hST]);have HSD:=zY (show bytesV sg.data.toList=bytesV S by rw [hS,hsg]);have HCE:=zY (show (msgCells m C1 c1)[5]?=some (.string sg) by rw [hsg]; rfl);have HSB:=zY hSB;have HNB:=zY hnb;have HMM:=zY hm
  have CV:=zY (show ∀ u A1 c1 A2 c2,Rd u u.heap.size A (bytesV p)→Rd u u.heap.size A1 (bytesV T)→Rd u u.heap.size A2 (bytesV S)→sg.size≤c2→Sh.TabG u→Calls Tryd.prog 9 #[.slice A np ca,.slice A1 nt c1,.slice A2 sg.size c2] u (fun e w'=>e=.returned (.int .i64 (V:Int))∧Below u.heap.size u w') from fun u A1 c1 A2 c2 h1 h2 h3 h4 g=>by
   have h:=qcO p T S HLP.out (by rw [hT]; exact lt) (by rw [lS]; omega) A A1 A2 ca c1 c2 u h1 h2 h3 HPC.out (by rw [lS,← hsg]; exact h4) g;rw [← HNP.out,← hnt,lS,← hsg,← hVV] at h;exact h)
  rw [← hV] at CK;rw [hm];clear f1 f2 f3 f4 f5 f6 f7 f8 f9 lt lbd hT hS lS hV hVV hnt hnb hsg hSB hST hm;go_wp2_with fail;have HC0:=And.intro HST.out.drew (tabG_drew HG.out);have HCC:=zY hcc;clear HST HG
  refine qak (fun u=>Cs [.box w.heap.size 25 (msgCells m C1 c1),.rd A (bytesV p),.rd C1 (strsV m.fields)] w u∧Sh.TabG u) (fun | false=>(fun _=>True) | true=>(fun _=>True)) (fun | false,_=>false | true,_=>false)
   [fun z _=>z 0=.slice A np ca,
    fun z _=>z 1=.agg (msgCells m C1 c1),
    fun z _=>z 2=.int .i64 (V:Int),
    fun z _=>z 3=.slice A np ca,
    fun z _=>z 4=.agg (msgCells m C1 c1),
    fun z u=>(fun v u=>∃ A c,v=.slice A nb c∧Rd u u.heap.size A (bytesV (bodyB m))) (z 5) u,
    fun z _=>z 6=.string SB,
    fun z _=>z 7=.string ST,
    fun z u=>(fun v u=>∃ A c,v=.slice A nt c∧Rd u u.heap.size A (bytesV T)) (z 8) u,
    fun z _=>z 9=.pointer (some ⟨w.heap.size,5,none⟩),
    fun z _=>z 10=.string sg,
    fun z u=>(fun v u=>∃ A c,v=.slice A sg.size c∧sg.size≤c∧Rd u u.heap.size A (bytesV S)) (z 11) u,
    fun z _=>z 12=.int .i64 (V:Int),
    fun z _=>z 13=.bool true,
    fun z _=>z 14=.bool true,
    fun z _=>z 15=.bool true,
    fun z _=>z 16=.bool true,
    fun z _=>z 17=.bool true]
   [Eq,Eq,fun u u'=>Below u.heap.size u u',Eq,Eq,fun u u'=>Below u.heap.size u u',Eq,Eq,fun u u'=>Below u.heap.size u u',Eq,Eq,fun u u'=>Below u.heap.size u u',fun u u'=>Below u.heap.size u u',Eq,Eq,fun u u'=>Below u.heap.size u u',Eq,Eq]
   (fun _ _=>false) [(0,some 24),(1,some 25),(2,some 26),(3,some 27),(4,some 28),(5,some 29),(6,some 30),(7,some 31),(8,some 32),(9,some 33),(10,some 34),(11,some 35),(12,some 36),(13,some 37),(14,some 38),(15,some 39),(16,some 40),(17,some 4)] (by kernel_rfl) (by kernel_rfl) rfl (fun _=>rfl) ?_ ?_ ?_ ?_ ?_ ?_
  ·exact HC0
  ·intro m; cases m; exact trivial; exact trivial
  ·intro m; cases m
   ·refine ⟨?_,?_,?_,?_,?_,?_,?_,?_,?_,?_,?_,?_,?_,?_,?_,?_,?_,?_,trivial⟩ <;> first | exact .inr fun _ _ h h0=>h▸h0 | exact .inr fun _ _ _ h=>h
   ·refine ⟨?_,?_,?_,?_,?_,?_,?_,?_,?_,?_,?_,?_,?_,?_,?_,?_,?_,?_,trivial⟩ <;> first | exact .inr fun _ _ h h0=>h▸h0 | exact .inr fun _ _ _ h=>h
  ·refine ⟨⟨.inl rfl,?_,?_,?_,?_,?_,?_,?_,?_,?_,?_,?_,?_,?_,?_,?_,?_,?_,trivial⟩,⟨?_,.inl rfl,?_,?_,?_,?_,?_,?_,?_,?_,?_,?_,?_,?_,?_,?_,?_,?_,trivial⟩,⟨?_,?_,.inl rfl,?_,?_,?_,?_,?_,.inr (.inr (.inr (fun _ _ _ _ h ⟨a,b,e,o⟩=>⟨a,b,e,qan o h⟩))),?_,?_,.inr (.inr (.inr (fun _ _ _ _ h ⟨a,b,e,l,o⟩=>⟨a,b,e,l,qan o h⟩))),?_,?_,?_,?_,?_,?_,trivial⟩,⟨?_,?_,?_,.inl rfl,?_,?_,?_,?_,?_,?_,?_,?_,?_,?_,?_,?_,?_,?_,trivial⟩,⟨?_,?_,?_,?_,.inl rfl,?_,?_,?_,?_,?_,?_,?_,?_,?_,?_,?_,?_,?_,trivial⟩,⟨?_,?_,?_,?_,?_,.inl rfl,?_,?_,?_,?_,?_,.inr (.inr (.inr (fun _ _ _ _ h ⟨a,b,e,l,o⟩=>⟨a,b,e,l,qan o h⟩))),?_,?_,?_,?_,?_,?_,trivial⟩,⟨?_,?_,?_,?_,?_,?_,.inl rfl,?_,?_,?_,?_,?_,?_,?_,?_,?_,?_,?_,trivial⟩,⟨?_,?_,?_,?_,?_,?_,?_,.inl rfl,?_,?_,?_,?_,?_,?_,?_,?_,?_,?_,trivial⟩,⟨?_,?_,?_,?_,?_,.inr (.inr (.inr (fun _ _ _ _ h ⟨a,b,e,o⟩=>⟨a,b,e,qan o h⟩))),?_,?_,.inl rfl,?_,?_,.inr (.inr (.inr (fun _ _ _ _ h ⟨a,b,e,l,o⟩=>⟨a,b,e,l,qan o h⟩))),?_,?_,?_,?_,?_,?_,trivial⟩,⟨?_,?_,?_,?_,?_,?_,?_,?_,?_,.inl rfl,?_,?_,?_,?_,?_,?_,?_,?_,trivial⟩,⟨?_,?_,?_,?_,?_,?_,?_,?_,?_,?_,.inl rfl,?_,?_,?_,?_,?_,?_,?_,trivial⟩,⟨?_,?_,?_,?_,?_,.inr (.inr (.inr (fun _ _ _ _ h ⟨a,b,e,o⟩=>⟨a,b,e,qan o h⟩))),?_,?_,.inr (.inr (.inr (fun _ _ _ _ h ⟨a,b,e,o⟩=>⟨a,b,e,qan o h⟩))),?_,?_,.inl rfl,?_,?_,?_,?_,?_,?_,trivial⟩,⟨?_,?_,?_,?_,?_,.inr (.inr (.inr (fun _ _ _ _ h ⟨a,b,e,o⟩=>⟨a,b,e,qan o h⟩))),?_,?_,.inr (.inr (.inr (fun _ _ _ _ h ⟨a,b,e,o⟩=>⟨a,b,e,qan o h⟩))),?_,?_,.inr (.inr (.inr (fun _ _ _ _ h ⟨a,b,e,l,o⟩=>⟨a,b,e,l,qan o h⟩))),.inl rfl,?_,?_,?_,?_,?_,trivial⟩,⟨?_,?_,?_,?_,?_,?_,?_,?_,?_,?_,?_,?_,?_,.inl rfl,?_,?_,?_,?_,trivial⟩,⟨?_,?_,?_,?_,?_,?_,?_,?_,?_,?_,?_,?_,?_,?_,.inl rfl,?_,?_,?_,trivial⟩,⟨?_,?_,?_,?_,?_,.inr (.inr (.inr (fun _ _ _ _ h ⟨a,b,e,o⟩=>⟨a,b,e,qan o h⟩))),?_,?_,.inr (.inr (.inr (fun _ _ _ _ h ⟨a,b,e,o⟩=>⟨a,b,e,qan o h⟩))),?_,?_,.inr (.inr (.inr (fun _ _ _ _ h ⟨a,b,e,l,o⟩=>⟨a,b,e,l,qan o h⟩))),?_,?_,?_,.inl rfl,?_,?_,trivial⟩,⟨?_,?_,?_,?_,?_,?_,?_,?_,?_,?_,?_,?_,?_,?_,?_,?_,.inl rfl,?_,trivial⟩,⟨?_,?_,?_,?_,?_,?_,?_,?_,?_,?_,?_,?_,?_,?_,?_,?_,?_,.inl rfl,trivial⟩,trivial⟩ <;> first | exact .inr (.inr (.inl rfl)) | exact .inr (.inr (.inr fun _ _ _ _ _ h=>h)) | exact .inr (.inr (.inr fun _ _ _ _ h h0=>by cases h; exact h0))
  ·refine ⟨?_,?_,?_,?_,?_,?_,?_,?_,?_,?_,?_,?_,?_,?_,?_,?_,?_,?_,trivial⟩
   ·refine qaa [] (fun _=>rfl) rfl ?_;intro w1 vals hC1 hi0 hf E hE;clear hi0;clear hf;simp only [sP] at hE ⊢;go_wp2;exact .mk (hE _ _ rfl hC1 rfl)
   ·refine qaa [] (fun _=>rfl) rfl ?_;intro w1 vals hC1 hi0 hf E hE;clear hi0;clear hf;simp only [sP] at hE ⊢;refine qac (hC1.1.1.1) rfl rfl rfl hu rfl qas ?_;go_wp2_with fail;exact .mk (hE _ _ rfl hC1 rfl)
   ·refine qaa [(0,some 24),(1,some 25)] (fun _=>rfl) rfl ?_;intro w1 vals hC1 hi0 hf E hE;clear hi0;have f0:vals 0=_:=hf 0 rfl;have f1:vals 1=_:=hf 1 rfl
    try dsimp only at f0 f1
    clear hf;simp only [sP,f0,f1] at hE ⊢;clear f0 f1;go_wp2_with fail;refine qab (CK.out _ _ _ hC1.1.1.2.1 hC1.1.1.2.2.1 HCC.out hC1.2) ?_;rintro e w2 ⟨rfl,hb2⟩;go_wp2_with fail;exact .mk (hE _ _ rfl ⟨hC1.1.next hb2,hC1.2.below hb2 hC1.2.size⟩ hb2)
   ·refine qaa [] (fun _=>rfl) rfl ?_;intro w1 vals hC1 hi0 hf E hE;clear hi0;clear hf;simp only [sP] at hE ⊢;go_wp2;exact .mk (hE _ _ rfl hC1 rfl)
   ·refine qaa [] (fun _=>rfl) rfl ?_;intro w1 vals hC1 hi0 hf E hE;clear hi0;clear hf;simp only [sP] at hE ⊢;refine qac (hC1.1.1.1) rfl rfl rfl hu rfl qas ?_;go_wp2_with fail;exact .mk (hE _ _ rfl hC1 rfl)
   ·refine qaa [(4,some 28),(2,some 26)] (fun _=>rfl) rfl ?_;intro w1 vals hC1 hi0 hf E hE;clear hi0;have f2:vals 2=_:=hf 2 rfl;have f4:vals 4=_:=hf 4 rfl
    try dsimp only at f2 f4
    clear hf;simp only [sP,f2,f4] at hE ⊢;clear f2 f4;go_wp2_with fail;refine qab (rbody_any m C1 c1 w1.heap.size w1 hC1.1.1.2.2.1 (Nat.le_refl _) HCC.out HMM.out) ?_;rintro e w2 ⟨A3,c3,rfl,o3,hg3,-⟩;have hb2:Below w1.heap.size w1 w2:=qbb hg3 (Nat.le_refl _) (fun k hk=>by simp [Value.ownBlock] at hk);have hr3:=Rd.of_own o3 (Nat.le_refl _);rw [← HNB.out];go_wp2_with fail;exact .mk (hE _ _ ⟨A3,c3,rfl,hr3⟩ ⟨hC1.1.next hb2,hC1.2.below hb2 hC1.2.size⟩ hb2)
   ·refine qaa [(5,some 29)] (fun _=>rfl) rfl ?_;intro w1 vals hC1 hi0 hf E hE;clear hi0;have f5:(fun v u=>∃ A c,v=.slice A nb c∧Rd u u.heap.size A (bytesV (bodyB m))) (vals 5) w1:=hf 5 rfl
    try dsimp only at f5
    clear hf;obtain ⟨A3,c3,hx3,hr3⟩:=f5;simp only [sP,hx3] at hE ⊢;clear hx3;refine qaw hr3 Tryd.underlying22 Tryd.underlying5 Tryd.underlying9 rfl rfl (by rw [← HNB.out]; rfl) ?_;rw [← HSB.out];go_wp2_with fail;exact .mk (hE _ _ rfl hC1 rfl)
   ·refine qaa [(6,some 30)] (fun _=>rfl) rfl ?_;intro w1 vals hC1 hi0 hf E hE;clear hi0;have f6:vals 6=_:=hf 6 rfl
    try dsimp only at f6
    clear hf;have hsz:=HSZ.out;simp only [sP,f6] at hE ⊢;clear f6;go_wp2_with fail;rw [HAB.out];exact .mk (hE _ _ rfl hC1 rfl)
   ·refine qaa [(7,some 31)] (fun _=>rfl) rfl ?_;intro w1 vals hC1 hi0 hf E hE;clear hi0;have f7:vals 7=_:=hf 7 rfl
    try dsimp only at f7
    clear hf;simp only [sP,f7] at hE ⊢;clear f7;refine qa5 (s:=ST) hus hub hu8 rfl rfl rfl ?_;intro A2 c2 w2 hr2 hc2 hb2;rw [HTB.out] at hr2;rw [HNT.out];go_wp2_with fail;exact .mk (hE _ _ ⟨A2,c2,rfl,hr2⟩ ⟨hC1.1.next hb2,hC1.2.below hb2 hC1.2.size⟩ hb2)
   ·refine qaa [] (fun _=>rfl) rfl ?_;intro w1 vals hC1 hi0 hf E hE;clear hi0;clear hf;simp only [sP] at hE ⊢;go_wp2;exact .mk (hE _ _ rfl hC1 rfl)
   ·refine qaa [(9,some 33)] (fun _=>rfl) rfl ?_;intro w1 vals hC1 hi0 hf E hE;clear hi0;have f9:vals 9=_:=hf 9 rfl
    try dsimp only at f9
    clear hf;have d0:=(Blk.cell hC1.1.1.1 5).trans HCE.out;simp only [sP,f9] at hE ⊢;clear f9;go_wp2;exact .mk (hE _ _ rfl hC1 rfl)
   ·refine qaa [(10,some 34)] (fun _=>rfl) rfl ?_;intro w1 vals hC1 hi0 hf E hE;clear hi0;have f10:vals 10=_:=hf 10 rfl
    try dsimp only at f10
    clear hf;simp only [sP,f10] at hE ⊢;clear f10;refine qa5 (s:=sg) hus hub hu8 rfl rfl rfl ?_;intro A2 c2 w2 hr2 hc2 hb2;rw [HSD.out] at hr2;go_wp2_with fail;exact .mk (hE _ _ ⟨A2,c2,rfl,hc2,hr2⟩ ⟨hC1.1.next hb2,hC1.2.below hb2 hC1.2.size⟩ hb2)
   ·refine qaa [(3,some 27),(8,some 32),(11,some 35),(5,some 29)] (fun _=>rfl) rfl ?_;intro w1 vals hC1 hi0 hf E hE;clear hi0;have f3:vals 3=_:=hf 3 rfl;have f5:(fun v u=>∃ A c,v=.slice A nb c∧Rd u u.heap.size A (bytesV (bodyB m))) (vals 5) w1:=hf 5 rfl;have f8:(fun v u=>∃ A c,v=.slice A nt c∧Rd u u.heap.size A (bytesV T)) (vals 8) w1:=hf 8 rfl;have f11:(fun v u=>∃ A c,v=.slice A sg.size c∧sg.size≤c∧Rd u u.heap.size A (bytesV S)) (vals 11) w1:=hf 11 rfl
    try dsimp only at f3 f5 f8 f11
    clear hf;obtain ⟨A2,c2,hx2,hr2⟩:=f8;obtain ⟨A3,c3,hx3,hc3,hr3⟩:=f11;simp only [sP,f3,hx2,hx3] at hE ⊢;clear f3;clear hx2 hx3;go_wp2_with fail;refine qab (CV.out _ _ _ _ _ hC1.1.1.2.1 hr2 hr3 hc3 hC1.2) ?_;rintro e w2 ⟨rfl,hb2⟩;go_wp2_with fail;exact .mk (hE _ _ rfl ⟨hC1.1.next hb2,hC1.2.below hb2 hC1.2.size⟩ hb2)
   ·refine qaa [(2,some 26),(12,some 36)] (fun _=>rfl) rfl ?_;intro w1 vals hC1 hi0 hf E hE;clear hi0;have f2:vals 2=_:=hf 2 rfl;have f12:vals 12=_:=hf 12 rfl
    try dsimp only at f2 f12
    clear hf;simp only [sP,f2,f12] at hE ⊢;clear f2 f12;go_wp2;exact .mk (hE _ _ rfl hC1 rfl)
   ·refine qaa [(13,some 37),(12,some 36)] (fun _=>rfl) rfl ?_;intro w1 vals hC1 hi0 hf E hE;clear hi0;have f12:vals 12=_:=hf 12 rfl;have f13:vals 13=_:=hf 13 rfl
    try dsimp only at f12 f13
    clear hf;simp only [sP,f12,f13] at hE ⊢;clear f12 f13;go_wp2;exact .mk (hE _ _ rfl hC1 rfl)
   ·refine qa8 [(14,some 38),(14,some 38)] (fun _=>rfl) 14 38 true rfl rfl ?_ ?_
    ·intro w1 vals hC1 hi0 hf hy E hE;dsimp only at hE ⊢;clear hi0;have f14:vals 14=_:=hf 14 rfl
     try dsimp only at f14
     clear hf;clear hy;simp only [sP,f14] at hE ⊢;clear f14;go_wp2_with fail;refine qab (CL.out _) ?_;rintro e w2 ⟨rfl,hb2⟩;go_wp2_with fail;exact .mk (hE _ _ rfl ⟨hC1.1.next hb2,hC1.2.below hb2 hC1.2.size⟩ hb2)
    ·intro w1 vals hC1 hi0 hf hy;clear hi0;have f14:vals 14=_:=hf 14 rfl
     try dsimp only at f14
     clear hf;exact absurd (by simp only [sP,f14]; rfl) hy
   ·refine qaa [(14,some 38),(15,some 39)] (fun _=>rfl) rfl ?_;intro w1 vals hC1 hi0 hf E hE;clear hi0;have f14:vals 14=_:=hf 14 rfl;have f15:vals 15=_:=hf 15 rfl
    try dsimp only at f14 f15
    clear hf;simp only [sP,f14,f15] at hE ⊢;clear f14 f15;go_wp2;exact .mk (hE _ _ rfl hC1 rfl)
   ·refine qaa [(16,some 40),(15,some 39),(0,some 24),(1,some 25),(2,some 26),(3,some 27),(4,some 28),(5,some 29),(6,some 30),(7,some 31),(8,some 32),(9,some 33),(10,some 34),(11,some 35),(12,some 36),(13,some 37),(14,some 38),(15,some 39),(16,some 40)] (fun _=>rfl) rfl ?_;intro w1 vals hC1 hi0 hf E hE;clear hi0;have f0:vals 0=_:=hf 0 rfl;have f1:vals 1=_:=hf 1 rfl;have f2:vals 2=_:=hf 2 rfl;have f3:vals 3=_:=hf 3 rfl;have f4:vals 4=_:=hf 4 rfl;have f5:(fun v u=>∃ A c,v=.slice A nb c∧Rd u u.heap.size A (bytesV (bodyB m))) (vals 5) w1:=hf 5 rfl;have f6:vals 6=_:=hf 6 rfl;have f7:vals 7=_:=hf 7 rfl;have f8:(fun v u=>∃ A c,v=.slice A nt c∧Rd u u.heap.size A (bytesV T)) (vals 8) w1:=hf 8 rfl;have f9:vals 9=_:=hf 9 rfl;have f10:vals 10=_:=hf 10 rfl;have f11:(fun v u=>∃ A c,v=.slice A sg.size c∧sg.size≤c∧Rd u u.heap.size A (bytesV S)) (vals 11) w1:=hf 11 rfl;have f12:vals 12=_:=hf 12 rfl;have f13:vals 13=_:=hf 13 rfl;have f14:vals 14=_:=hf 14 rfl;have f15:vals 15=_:=hf 15 rfl;have f16:vals 16=_:=hf 16 rfl
    try dsimp only at f0 f1 f2 f3 f4 f5 f6 f7 f8 f9 f10 f11 f12 f13 f14 f15 f16
    clear hf;simp only [sP,f0,f1,f2,f3,f4,f6,f7,f9,f10,f12,f13,f14,f15,f16] at hE ⊢;clear f0 f1 f2 f3 f4 f6 f7 f9 f10 f12 f13 f14 f15 f16;go_wp2;exact .mk (hE _ _ rfl hC1 rfl)
  intro w1 vals hC1 hf;have f0:vals 0=_:=hf 0 (by decide) rfl;have f1:vals 1=_:=hf 1 (by decide) rfl;have f2:vals 2=_:=hf 2 (by decide) rfl;have f3:vals 3=_:=hf 3 (by decide) rfl;have f4:vals 4=_:=hf 4 (by decide) rfl;have f5:(fun v u=>∃ A c,v=.slice A nb c∧Rd u u.heap.size A (bytesV (bodyB m))) (vals 5) w1:=hf 5 (by decide) rfl;have f6:vals 6=_:=hf 6 (by decide) rfl;have f7:vals 7=_:=hf 7 (by decide) rfl;have f8:(fun v u=>∃ A c,v=.slice A nt c∧Rd u u.heap.size A (bytesV T)) (vals 8) w1:=hf 8 (by decide) rfl;have f9:vals 9=_:=hf 9 (by decide) rfl;have f10:vals 10=_:=hf 10 (by decide) rfl;have f11:(fun v u=>∃ A c,v=.slice A sg.size c∧sg.size≤c∧Rd u u.heap.size A (bytesV S)) (vals 11) w1:=hf 11 (by decide) rfl;have f12:vals 12=_:=hf 12 (by decide) rfl;have f13:vals 13=_:=hf 13 (by decide) rfl;have f14:vals 14=_:=hf 14 (by decide) rfl;have f15:vals 15=_:=hf 15 (by decide) rfl;have f16:vals 16=_:=hf 16 (by decide) rfl;have f17:vals 17=_:=hf 17 (by decide) rfl
  try dsimp only at f0 f1 f2 f3 f4 f5 f6 f7 f8 f9 f10 f11 f12 f13 f14 f15 f16 f17
  clear hf;simp only [sP,f0,f1,f2,f3,f4,f6,f7,f9,f10,f12,f13,f14,f15,f16,f17];clear f0 f1 f2 f3 f4 f6 f7 f9 f10 f12 f13 f14 f15 f16 f17;generalize vals 5=x5 at *;generalize vals 8=x8 at *;generalize vals 11=x11 at *;have HF:=zY hC1.1.2;clear hC1 HC0 f5 f8 f11;go_wp2_with fail;go_ret;exact ⟨rfl,HF.out⟩
 ·have hmb:mayB m=false:=by simpa using hm
  rw [hmb]
  have CK2:=zY (show ∀ u C c,Rd u u.heap.size A (bytesV p)→Rd u u.heap.size C (strsV m.fields)→m.fields.length≤c→Sh.TabG u→Calls Tryd.prog 7 #[.slice A np ca,.agg (msgCells m C c)] u (fun e w'=>e=.returned (.int .i64 1)∧Below u.heap.size u w') from fun u C c h1 h2 h3 g=>by
   have h:=CK.out u C c h1 h2 h3 g;rw [chkS,if_neg hm] at h;exact h)
  clear hm hmb CK;go_wp2_with (refine qac HST.out.1.1 rfl rfl rfl hu rfl qas ?_);refine qab (CK2.out _ _ _ HST.out.1.2.1 HST.out.1.2.2.1 hcc HG.out) ?_;rintro e w6 ⟨rfl,hb6⟩;replace HST:=zY (HST.out.next hb6);clear hb6;go_wp2_with fail;refine qab (CL.out _) ?_;rintro e w7 ⟨rfl,hb7⟩;have HF:=zY (HST.out.next hb7).2;clear hb7;go_wp2_with fail;go_ret;exact ⟨rfl,HF.out⟩
end Go.Proofs.YtjmfkinedhmglaaDoor.Wi
namespace Go.Proofs.YtjmfkinedhmglaaDoor.wireChecks
set_option linter.unusedSimpArgs false
set_option linter.unusedVariables false
open Go.ChangeShapes Go.WideShapes Go.ChangeAt Go.RowKit Go.Joins Sh Wi
set_option maxRecDepth 100000 in
theorem lifted (os:Os) (started:os.Started) (H:Type) (enc:TypeId × Value→H) :
  ReturnsInHanded {} Tryd.checked os 3 .any (fun w args=>(Rows.wireChecksSpec.pre enc Tryd.prog Tryd.f3 [] false w args∧laidMetH Tryd.prog laidL w)∧sizedMet enc Tryd.prog Tryd.f3 (OpenSpec.ofChange Rows.wireChecksSpec) false w args)
   (Rows.wireChecksSpec.post enc Tryd.prog Tryd.f3 false true false false):=by
 refine returnsInHanded_of_change_and (C:=Tryd.checked) (X:=fun w _=>laidMetH Tryd.prog laidL w) (fun _ _ _ hh h=>h.of_heap hh) own started (by kernel_rfl) Tryd.func3
  (ChangeSpec.witness_shaped (enc:=enc) (C:=Tryd.checked) (os:=os) (X:=fun w _=>laidMetH Tryd.prog laidL w) false (World.doorLaid Tryd.prog 400 os) #[.slice none 0 0,.agg #[.int .i64 0,.string .empty,.string .empty,.int .i64 0,.slice none 0 0,.string .empty]] 8 rfl (World.shaped_of_RefB (by kernel_rfl) (by kernel_rfl)) (by kernel_rfl) (by kernel_rfl) (by kernel_rfl) (door_met os _)) ?_
 intro W base args ds gs before hval0 hW _ _ hL _;have hval:∀ (j:Nat) t v,Tryd.f3.params[j]?=some t→args[j]?=some v→Value.okWide Tryd.prog W .any base t v:=hval0;have hW':=hW;obtain ⟨p,q,hA0,hV,rfl,hfz,hnd⟩:=hW;have hA:DataW.TrodAll enc Tryd.prog W 0 (fun _=>true) true Tryd.f3.params.toList args.toList ds p:=hA0;rw [Tryd.params3] at hA hval;have hG:=qcN hL;obtain ⟨v0,v1,y0,y1,p0,p1,rfl,rfl,rfl,h0,h1⟩:=trodAll_two hA;obtain ⟨rfl,rfl⟩:=trodVars_none hV;have h0k:=h0;have h1k:=h1;obtain ⟨l1,A1,c1,rfl,rm1,qm1,okm1⟩:=qbV (hval 0 22 v0 rfl rfl) h0;obtain ⟨m2,A2,c2,rfl,rm2,qm2,okm2⟩:=open_msg (hval 1 25 v1 rfl rfl) h1;clear hA0 hval0;simp only [List.append_nil] at hW';refine (wireChecks_any l1 m2 A1 A2 c1 c2 W rm1 qm1 okm1 rm2 qm2 okm2 hG).mono fun e W' ⟨he,hb⟩=>?_;subst he;have hlt:∀ x ∈ p0++p1,x.block<W.heap.size:=fun x hx=>hW'.lt x (by simpa using hx)
 exact ⟨_,rfl,qb7 (pa:=p0++p1) (pv:=[]) hW' (fun _ _ _=>trodAll_mk1 (shut_bool Tryd.underlying4 _))
  (fun sp hsp=>trodAll_mk2 (stays laidOut (by kernel_rfl) (of_decide_eq_true (by kernel_rfl)) h0k hb (fun x hx=>hlt x (List.mem_append_left _ hx)) (fun x hx=>hsp x (by simp [hx]))) (stays laidOut (by kernel_rfl) (of_decide_eq_true (by kernel_rfl)) h1k hb (fun x hx=>hlt x (List.mem_append_right _ hx)) (fun x hx=>hsp x (by simp [hx]))))
  (fun _ _=>rfl) (by simp) hb (ok_one (by kernel_rfl) rfl (okWide_bool_mk Tryd.underlying4 _))⟩
theorem row_holds:Rows.WireChecksSaid :=
 OpenClaim.holds_of_wide 3 Tryd.f3 rfl rfl rfl rfl rfl rfl rfl ⟨rfl,rfl,rfl,rfl,rfl⟩ rfl rfl rfl rfl rfl (by kernel_rfl) Tryd.func3 (by kernel_rfl)
  (of_decide_eq_true (by kernel_rfl)) (by unfold Func.isWrapper; first | (rw [if_pos (by decide +kernel)]; kernel_rfl) | (rw [if_neg (by decide +kernel)]; exact ⟨rfl,rfl⟩))
  (fun os started H enc _=>lifted os started H enc)
theorem holds:Rows.WireChecksCardSaid :=
 Claim7.holds_tied_plain_at .later [] [.data] true (true, "9af6ed4c055c7f93735f68cf44f20d2d2a2806192a3b95abb8fd58fc27c4a1c7") false
  row_holds (fun _ h=>by cases h) (by kernel_rfl) (fun _ h=>by cases h) wireChecks_row_tie rfl ⟨rfl,rfl⟩ (by kernel_rfl) rfl
  (fun f fn hf hfn=>by
   obtain rfl:f=3:=Option.some.inj ((show Tryd.prog.funcNamed "brevet/brevetlaw12.WireChecks" = some 3 by kernel_rfl).symm.trans hf) |>.symm;obtain rfl:fn=Tryd.f3:=(Option.some.inj (Tryd.func3.symm.trans hfn)).symm
   exact ⟨by kernel_rfl,fun j t ht=>by
    rw [Tryd.params3] at ht;have hm:t ∈ [22,25]:=by simpa using Array.mem_of_getElem? ht
    have hall:([22,25].all fun u=>!Tryd.prog.wantsStandIn u)=true:=by kernel_rfl
    exact (show Tryd.prog.wantsStandIn t=false by simpa using List.all_eq_true.1 hall t hm)⟩)
  (by kernel_rfl)
#print axioms holds
end Go.Proofs.YtjmfkinedhmglaaDoor.wireChecks
