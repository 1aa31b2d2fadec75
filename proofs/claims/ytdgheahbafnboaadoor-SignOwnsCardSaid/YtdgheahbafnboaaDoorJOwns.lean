/-
  PROVED: 'brevetlaw06.SignOwns': for every seed and message signing changes nothing, and what it tells is new. The listed variable (the words of the steps) is tied to the program's text by the card.
-/
import Derived.Test.YtdgheahbafnboaaDoorCards
import Derived.Test.YtdgheahbafnboaaDoorTie
import Derived.SevenTiedAt
import Derived.ProofKit
import Derived.OpenShut
import Derived.Test.YtdgheahbafnboaaDoorJ5
import Derived.Test.YtdgheahbafnboaaDoorJ4
import Derived.Test.YtdgheahbafnboaaDoorJ1
/-
  Walk: the law SignOwns.
-/
namespace Go.Proofs.YtdgheahbafnboaaDoor
set_option linter.unusedSimpArgs false
set_option linter.unusedVariables false
open Go.RowKit
set_option maxRecDepth 100000 in
set_option maxHeartbeats 4000000 in
theorem signOwns_any (l m0:List UInt8) (A M:Option Addr) (c cm:Nat) (w:World) (hr:Rd w w.heap.size A (bytesV l)) (hs:Rd w w.heap.size M (bytesV m0)) (hc:l.length≤c) (hcm:c≤9223372036854775807) (hd:m0.length≤cm) (hdm:cm≤9223372036854775807) (hG:Sh.TabG w) :
  Calls Tryd.prog 7 #[.slice A l.length c,.slice M m0.length cm] w (BoolPost true w):=by
 have hu:=Tryd.underlying22;obtain ⟨n1,hn1⟩:∃ n,n=l.length:=⟨_,rfl⟩;obtain ⟨n2,hn2⟩:∃ n,n=m0.length:=⟨_,rfl⟩;obtain ⟨m,hm⟩:∃ m,m=m0.take 60:=⟨_,rfl⟩;obtain ⟨nm,hnm⟩:∃ n,n=m.length:=⟨_,rfl⟩;obtain ⟨sd,hsd⟩:∃ s,s=seedB l:=⟨_,rfl⟩;have lsd:sd.length=32:=by rw [hsd]; exact seedB_len l
 have lm:m.length≤60:=by rw [hm,List.length_take]; omega
 have lm2:nm≤cm:=by rw [hnm,hm,List.length_take]; omega
 have rm:Rd w w.heap.size M (bytesV m):=by rw [hm]; exact rd_takeB hs
 obtain ⟨U,hU⟩:∃ U,U=ptB (keyN sd):=⟨_,rfl⟩;obtain ⟨G,hGs⟩:∃ G,G=sigB sd m:=⟨_,rfl⟩;have lU:U.length=32:=by rw [hU,ptB_len]
 have lG:G.length=64:=by rw [hGs,sigB_len]
 have hUb:bnV (pubL (keyN sd))=bytesV U:=by rw [hU,ptB,bnV_bsN (pubL_dg _)]
 have CF:=zY (show ∀ u,Calls Tryd.prog 8 #[.slice M n2 cm,.int .i64 60] u (fun e w'=>e=.returned (.slice M nm cm)∧w'=u) from fun u=>by
  rw [hnm,hm,hn2]; exact few_any m0 60 (by decide) M cm u (nil_len' hs) hd)
 have CSD:=zY (show ∀ u,Rd u u.heap.size A (bytesV l)→Calls Tryd.prog 13 #[.slice A n1 c] u (SeedPost sd u) from fun u h=>by
  rw [hsd,hn1]; exact seed_any l A c u h hc hcm)
 have CP:=zY (show ∀ u o,Rd u u.heap.size (some ⟨o,0,none⟩) (bytesV sd)→Sh.TabG u→Calls Tryd.prog 9 #[.slice (some ⟨o,0,none⟩) 32 32] u (fun e w'=>∃ o,e=.returned (.tuple #[.slice (some ⟨o,0,none⟩) 32 32,.int .i64 0])∧u.heap.size≤o∧Blk w' o 5 (bytesV U).toArray∧Below u.heap.size u w') from fun u o h g=>by
  rw [← hUb]; exact spublic_any sd lsd _ 32 u h (Nat.le_refl _) g)
 have CS:=zY (show ∀ u o,Rd u u.heap.size (some ⟨o,0,none⟩) (bytesV sd)→Rd u u.heap.size M (bytesV m)→Sh.TabG u→Calls Tryd.prog 10 #[.slice (some ⟨o,0,none⟩) 32 32,.slice M nm cm] u (SsgPost G u) from fun u o h1 h2 g=>by
  rw [hGs,hnm]; exact ssign_any sd m lsd (by omega) _ M 32 cm u h1 h2 (Nat.le_refl _) g)
 have CV:=zY (show ∀ u Ap cp As cs,Rd u u.heap.size Ap (bytesV U)→Rd u u.heap.size M (bytesV m)→Rd u u.heap.size As (bytesV G)→Sh.TabG u→32≤cp→64≤cs→Calls Tryd.prog 15 #[.slice Ap 32 cp,.slice M nm cm,.slice As 64 cs] u (fun e w'=>e=.returned (.int .i64 0)∧Below u.heap.size u w') from fun u Ap cp As cs h1 h2 h3 g h4 h5=>by
  have h:=sverify_any U m G (by omega) (by omega) (by omega) Ap M As cp cm cs u h1 h2 h3 (by omega) (by omega) g;rw [lU,lG,← hnm,show verS U m G=0 by rw [hU,hGs]; exact ver_sign sd m] at h;exact h)
 obtain ⟨SK,hSK⟩:∃ s:ByteArray,s=⟨sd.toArray⟩:=⟨_,rfl⟩
 have CK:=zY (show ∀ (u:World) (A:Option Addr) (c:Nat),Rd u u.heap.size A (bytesV sd)→(convert 22 9 (.slice A 32 c)).run Tryd.prog u=.ok (.string SK) u from fun u A c h=>by
  have e:=run_str_of (P:=Tryd.prog) Tryd.underlying22 Tryd.underlying5 Tryd.underlying9 h c;rw [lsd,← hSK] at e;exact e)
 obtain ⟨SM,hSM⟩:∃ s:ByteArray,s=⟨m.toArray⟩:=⟨_,rfl⟩
 have CMS:=zY (show ∀ (u:World) (A:Option Addr) (c:Nat),Rd u u.heap.size A (bytesV m)→(convert 22 9 (.slice A nm c)).run Tryd.prog u=.ok (.string SM) u from fun u A c h=>by
  have e:=run_str_of (P:=Tryd.prog) Tryd.underlying22 Tryd.underlying5 Tryd.underlying9 h c;rw [← hnm,← hSM] at e;exact e)
 obtain ⟨SG,hSG⟩:∃ s:ByteArray,s=⟨G.toArray⟩:=⟨_,rfl⟩
 have CG:=zY (show ∀ (u:World) (A:Option Addr) (c:Nat),Rd u u.heap.size A (bytesV G)→(convert 22 9 (.slice A 64 c)).run Tryd.prog u=.ok (.string SG) u from fun u A c h=>by
  have e:=run_str_of (P:=Tryd.prog) Tryd.underlying22 Tryd.underlying5 Tryd.underlying9 h c;rw [lG,← hSG] at e;exact e)
 have CL:=zY (show ∀ u,Sh.TabG u→Calls Tryd.prog 11 #[] u (BoolPost true u) from fun u g=>lives_any u g);have HST:=zY (show Cs [.rd A (bytesV l),.rd M (bytesV m)] w w from ⟨⟨hr,rm,trivial⟩,Below.refl _ _⟩);have HG:=zY hG;have HLU:=zY lU;have HLG:=zY lG;have HLM:=zY hnm;have HLS:=zY lsd;have nm63:(nm:Int)≤200:=by omega
 rw [← hn1,← hn2];clear hr hs hc hcm hd hdm hG hn1 hn2 hm hnm hsd lsd lm rm hU hGs lU lG hUb hSK hSM hSG;go_enter Tryd.func7,Tryd.ntmps7;go_wp2_with fail;refine calls_then (CSD.out _ HST.out.1.1) ?_;rintro e w1 ⟨os1,rfl,hos,hks,hb⟩;replace HST:=zY (HST.out.next hb);replace HG:=zY (HG.out.below hb HG.out.size);have RS:=zY (Rd.of_blk hks hks.lt);clear hos hks hb;go_wp2_with fail;refine calls_then (CF.out _) ?_;rintro e w0 ⟨rfl,rfl⟩;clear CF;have ck:=CK.out _ _ 32 RS.out;have cm':=CMS.out _ M cm HST.out.1.2.1;go_wp2_with fail;clear ck cm';refine calls_then (CS.out _ _ RS.out HST.out.1.2.1 HG.out) ?_;rintro e w3 ⟨Ag3,cg3,rfl,hog,hb⟩;have cg:=CG.out _ Ag3 cg3 (Rd.of_own hog.x (Nat.le_refl _));have hcap:=own_cap hog.x;obtain ⟨g,ys,rfl,hg,_,hblk⟩:=OwnZ.blk hog (by decide);have HBK:=zY hblk;have HBB:=zY hb;have HGG:=zY hg;clear hog hblk hb hg;go_wp2_with fail;clear cg
 go_loopw [11] (fun i wr=>∃ (k:Nat) (L:List UInt8),k≤64∧L.length=64∧i=.int .i64 (k:Int)∧Blk wr g 5 (bytesV L++ys).toArray∧Below w0.heap.size w0 wr) (fun i _=>64 - (intOf i).toNat)
 case atStart=>exact ⟨0,G,by omega,HLG.out,rfl,HBK.out,HBB.out⟩
 case round =>
  clear HBK HBB;obtain ⟨k,L,hk,hL,rfl,hblk,hbel⟩:=hrel
  by_cases hlt:k<64
  ·have hlt':(k:Int)<64:=by omega
   have hq:wr.frozen? ⟨g,k,none⟩=false:=hblk.free k;have hkL:k<L.length:=by omega
   obtain ⟨y,hcl⟩:∃ y:Nat,wr.cell? ⟨g,k,none⟩=some (.int .u8 (y:Int)) :=
    ⟨(L[k]'hkL).toNat,by
     rw [hblk.cell,List.getElem?_toArray,List.getElem?_append_left (by rw [bytesV_length]; exact hkL),bytesV,List.getElem?_map,List.getElem?_eq_getElem hkL]
     rfl⟩
   have hset:Blk (wr.setCell ⟨g,k,none⟩ (.int .u8 5)) g 5 (bytesV (L.set k 5)++ys).toArray:=by
    have h:=blk_setCell_at (i:=k) hblk (.int .u8 5)
    rw [set_front (by rw [bytesV_length]; exact hkL),show (bytesV L).set k (.int .u8 5)=bytesV (L.set k 5) by
     rw [bytesV,bytesV,List.map_set]
     rfl] at h
    exact h
   have hset2:Below w0.heap.size w0 (wr.setCell ⟨g,k,none⟩ (.int .u8 5)):=(wrote_setCell_at wr g k (.int .u8 5)).below hbel HGG.out hbel.size;have hL2:(L.set k 5).length=64:=by rw [List.length_set,hL]
   have HSET:=zY (And.intro hset hset2);have HL2:=zY hL2;clear hblk hbel hset hset2 hL2 hL hkL;go_wp2_with fail;exact ⟨⟨k+1,L.set k 5,by omega,HL2.out,by go_num,HSET.out⟩,by simp [intOf]; omega⟩
  ·have hk64:k=64:=by omega
   have hlt':¬ (k:Int)<64:=by omega
   clear hblk hL;have hb:=hbel;clear hbel;replace HST:=zY (HST.out.next hb);replace HG:=zY (HG.out.below hb HG.out.size);replace RS:=zY (rd_next RS.out hb);clear hb;go_wp2_with fail;refine calls_then (CS.out _ _ RS.out HST.out.1.2.1 HG.out) ?_;rintro e w4 ⟨Ag4,cg4,rfl,hog,hb⟩;have HOW4:=zY (And.intro hog HST.out.2.size);replace HST:=zY (HST.out.next hb);replace HG:=zY (HG.out.below hb HG.out.size);replace RS:=zY (rd_next RS.out hb);have RG:=zY (Rd.of_own hog.x (Nat.le_refl _));have hcg4:=(own_cap hog.x).1;clear hog hb;go_wp2_with fail;refine calls_then (CP.out _ _ RS.out HG.out) ?_;rintro e w5 ⟨op5,rfl,hop,hkp,hb⟩;replace HST:=zY (HST.out.next hb);replace HG:=zY (HG.out.below hb HG.out.size);replace RS:=zY (rd_next RS.out hb);replace RG:=zY (rd_next RG.out hb);have RU:=zY (Rd.of_blk hkp hkp.lt);clear hop hkp hb;go_wp2_with fail;refine calls_then (CV.out _ _ _ _ _ RU.out HST.out.1.2.1 RG.out HG.out (Nat.le_refl _) (by omega)) ?_;rintro e w6 ⟨rfl,hb⟩;replace HST:=zY (HST.out.next hb);replace HG:=zY (HG.out.below hb HG.out.size);replace RS:=zY (rd_next RS.out hb);replace RG:=zY (rd_next RG.out hb);clear hb;have ck:=CK.out _ _ 32 RS.out;have cm':=CMS.out _ M cm HST.out.1.2.1;have cg:=CG.out _ Ag4 cg4 RG.out;go_wp2_with fail;clear ck cm' cg;refine calls_then (CL.out _ HG.out) ?_;rintro e w7 ⟨rfl,hb⟩;have HF:=zY (HST.out.2.trans (hb.mono HST.out.2.size));clear hb;go_wp2_with fail;go_ret;exact ⟨rfl,HF.out⟩
end Go.Proofs.YtdgheahbafnboaaDoor
namespace Go.Proofs.YtdgheahbafnboaaDoor.signOwns
set_option linter.unusedSimpArgs false
set_option linter.unusedVariables false
open Go.ChangeShapes Go.WideShapes Go.ChangeAt Go.RowKit Go.Joins Sh
set_option maxRecDepth 100000 in
theorem lifted (os:Os) (started:os.Started) (H:Type) (enc:TypeId × Value→H) :
  ReturnsInHanded {} Tryd.checked os 7 .any (fun w args=>(Rows.signOwnsSpec.pre enc Tryd.prog Tryd.f7 [] false w args∧laidMetH Tryd.prog laidL w)∧sizedMet enc Tryd.prog Tryd.f7 (OpenSpec.ofChange Rows.signOwnsSpec) false w args)
   (Rows.signOwnsSpec.post enc Tryd.prog Tryd.f7 false true false false):=by
 refine returnsInHanded_of_change_and (C:=Tryd.checked) (X:=fun w _=>laidMetH Tryd.prog laidL w) (fun _ _ _ hh h=>h.of_heap hh) own started (by kernel_rfl) Tryd.func7
  (ChangeSpec.witness_shaped (enc:=enc) (C:=Tryd.checked) (os:=os) (X:=fun w _=>laidMetH Tryd.prog laidL w) false (World.doorLaid Tryd.prog 400 os) #[.slice none 0 0,.slice none 0 0] 8 rfl (World.shaped_of_RefB (by kernel_rfl) (by kernel_rfl)) (by kernel_rfl) (by kernel_rfl) (by kernel_rfl) (door_met os _)) ?_
 intro W base args ds gs before hval0 hW _ _ hL _;have hval:∀ (j:Nat) t v,Tryd.f7.params[j]?=some t→args[j]?=some v→Value.okWide Tryd.prog W .any base t v:=hval0;have hW':=hW;obtain ⟨p,q,hA0,hV,rfl,hfz,hnd⟩:=hW;have hA:DataW.TrodAll enc Tryd.prog W 0 (fun _=>true) true Tryd.f7.params.toList args.toList ds p:=hA0;rw [Tryd.params7] at hA hval;have hG:=tab_of_laid hL;obtain ⟨v0,v1,y0,y1,p0,p1,rfl,rfl,rfl,h0,h1⟩:=trodAll_two hA;obtain ⟨rfl,rfl⟩:=trodVars_none hV;have h0k:=h0;have h1k:=h1;obtain ⟨l1,A1,c1,rfl,rm1,qm1,okm1⟩:=open_bytes_cap (hval 0 22 v0 rfl rfl) h0;obtain ⟨l2,A2,c2,rfl,rm2,qm2,okm2⟩:=open_bytes_cap (hval 1 22 v1 rfl rfl) h1;clear hA0 hval0;simp only [List.append_nil] at hW';refine (signOwns_any l1 l2 A1 A2 c1 c2 W rm1 rm2 qm1 okm1 qm2 okm2 hG).mono fun e W' ⟨he,hb⟩=>?_;subst he;have hlt:∀ x ∈ p0++p1,x.block<W.heap.size:=fun x hx=>hW'.lt x (by simpa using hx)
 exact ⟨_,rfl,post_of_below (pa:=p0++p1) (pv:=[]) hW' (fun _ _ _=>trodAll_mk1 (shut_bool Tryd.underlying4 _))
  (fun sp hsp=>trodAll_mk2 (stays laidOut (by kernel_rfl) (of_decide_eq_true (by kernel_rfl)) h0k hb (fun x hx=>hlt x (List.mem_append_left _ hx)) (fun x hx=>hsp x (by simp [hx]))) (stays laidOut (by kernel_rfl) (of_decide_eq_true (by kernel_rfl)) h1k hb (fun x hx=>hlt x (List.mem_append_right _ hx)) (fun x hx=>hsp x (by simp [hx]))))
  (fun _ _=>rfl) (by simp) hb (ok_one (by kernel_rfl) rfl (okWide_bool_mk Tryd.underlying4 _))⟩
theorem row_holds:Rows.SignOwnsSaid :=
 OpenClaim.holds_of_wide 7 Tryd.f7 rfl rfl rfl rfl rfl rfl rfl ⟨rfl,rfl,rfl,rfl,rfl⟩ rfl rfl rfl rfl rfl (by kernel_rfl) Tryd.func7 (by kernel_rfl)
  (of_decide_eq_true (by kernel_rfl)) (by unfold Func.isWrapper; first | (rw [if_pos (by decide +kernel)]; kernel_rfl) | (rw [if_neg (by decide +kernel)]; exact ⟨rfl,rfl⟩))
  (fun os started H enc _=>lifted os started H enc)
theorem holds:Rows.SignOwnsCardSaid :=
 Claim7.holds_tied_plain_at .later [] [.data] true (true, "0784ad3089ade6ce65c23d6f7e779087f08751140f5f821148598f103a639288") false
  row_holds (fun _ h=>by cases h) (by kernel_rfl) (fun _ h=>by cases h) signOwns_row_tie rfl ⟨rfl,rfl⟩ (by kernel_rfl) rfl
  (fun f fn hf hfn=>by
   obtain rfl:f=7:=Option.some.inj ((show Tryd.prog.funcNamed "brevet/brevetlaw06.SignOwns" = some 7 by kernel_rfl).symm.trans hf) |>.symm;obtain rfl:fn=Tryd.f7:=(Option.some.inj (Tryd.func7.symm.trans hfn)).symm
   exact ⟨by kernel_rfl,fun j t ht=>by
    rw [Tryd.params7] at ht;have hm:t ∈ [22]:=by simpa using Array.mem_of_getElem? ht
    have hall:([22].all fun u=>!Tryd.prog.wantsStandIn u)=true:=by kernel_rfl
    exact (show Tryd.prog.wantsStandIn t=false by simpa using List.all_eq_true.1 hall t hm)⟩)
  (by kernel_rfl)
#print axioms holds
end Go.Proofs.YtdgheahbafnboaaDoor.signOwns
