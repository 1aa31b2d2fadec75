/-
  PROVED: 'brevetlaw06.SignGreat': for every seed and message a signature whose number is L more is refused. The listed variable (the words of the steps) is tied to the program's text by the card.
-/
import Derived.Test.YtdgheahbafnboaaDoorCards
import Derived.Test.YtdgheahbafnboaaDoorTie
import Derived.SevenTiedAt
import Derived.ProofKit
import Derived.OpenShut
import Derived.Test.YtdgheahbafnboaaDoorJ5
import Derived.Test.YtdgheahbafnboaaDoorJ4
import Derived.Test.YtdgheahbafnboaaDoorJ1
/-
  Plain: L more, digit by digit.
-/
namespace Go.Proofs.YtdgheahbafnboaaDoor
set_option linter.unusedSimpArgs false
set_option linter.unusedVariables false
open Go.RowKit
def mixL (N k:Nat):List Nat:=(List.range 32).map fun j=>if j<k then (N+LN)/256^j%256 else N/256^j%256
def carN (N k:Nat):Nat:=(N%256^k+LN%256^k)/256^k
def lnL:List Nat:=byN LN
theorem mixL_len (N k:Nat):(mixL N k).length=32:=by simp [mixL]
theorem mixL_zero (N:Nat):mixL N 0=byN N:=by simp [mixL,byN]
theorem mixL_end (N:Nat):mixL N 32=byN (N+LN):=by
 apply List.ext_getElem
 ·rw [mixL_len,byN_length]
 ·intro i h1 h2;rw [mixL_len] at h1;simp [mixL,byN,h1]
theorem mixL_at {N k j:Nat} (h:k<32) (hj:k≤j) (hj2:j<32):(mixL N k).getD j 0=N/256^j%256:=by
 have h3:¬ j<k:=by omega
 simp [mixL,List.getD_eq_getElem?_getD,hj2,h3]
theorem mixL_set {N k:Nat} (h:k<32):(mixL N k).set k ((N+LN)/256^k%256)=mixL N (k+1):=by
 apply List.ext_getElem
 ·rw [List.length_set,mixL_len,mixL_len]
 ·intro i h1 h2;rw [mixL_len] at h2;rw [List.getElem_set]
  by_cases e:k=i
  ·subst e;simp [mixL]
  ·rw [if_neg e];simp only [mixL,List.getElem_map,List.getElem_range];have:(i<k)↔(i<k+1):=by omega
   simp only [this]
theorem lnL_at {k:Nat} (h:k<32):lnL.getD k 0=LN/256^k%256:=by simp [lnL,byN,List.getD_eq_getElem?_getD,h]
theorem add_dig (P a b:Nat) (hP:0<P):(a/P%256+b/P%256+(a%P+b%P)/P)%256=(a+b)/P%256∧(a/P%256+b/P%256+(a%P+b%P)/P)/256=(a%(P*256)+b%(P*256))/(P*256):=by
 have ha:=Nat.div_add_mod a P;have hb:=Nat.div_add_mod b P
 have h1:(a+b)/P=a/P+b/P+(a%P+b%P)/P:=by
  conv=>lhs; rw [← ha,← hb,show P*(a/P)+a%P+(P*(b/P)+b%P)=(a%P+b%P)+P*(a/P+b/P) by rw [Nat.mul_add]; omega,Nat.add_mul_div_left _ _ hP]
  omega
 constructor
 ·rw [h1]; omega
 ·rw [← Nat.div_div_eq_div_mul];have e:∀ x,x%(P*256)=x%P+P*(x/P%256):=fun x=>Nat.mod_mul;rw [e a,e b,show a%P+P*(a/P%256)+(b%P+P*(b/P%256))=(a%P+b%P)+P*(a/P%256+b/P%256) by rw [Nat.mul_add]; omega,Nat.add_mul_div_left _ _ hP]
  congr 1
  omega
theorem car_next (N k:Nat):(N/256^k%256+LN/256^k%256+carN N k)%256=(N+LN)/256^k%256∧(N/256^k%256+LN/256^k%256+carN N k)/256=carN N (k+1):=by
 have h:=add_dig (256^k) N LN (Nat.pow_pos (by decide));rw [carN,carN,Nat.pow_succ];exact h
theorem car_zero (N:Nat):carN N 0=0:=by rw [carN,Nat.pow_zero,Nat.mod_one,Nat.mod_one]
theorem car_lt (N k:Nat):carN N k<2:=by
 have hP:0<256^k:=Nat.pow_pos (by decide);have h1:=Nat.mod_lt N hP;have h2:=Nat.mod_lt LN hP;rw [carN,Nat.div_lt_iff_lt_mul hP];omega
def greatB (b m:List UInt8):List UInt8:=bsN (digs (ptB (secN b m))++byN (sigN b m+LN))
theorem great_dg (b m:List UInt8) (k:Nat):Dg (digs (ptB (secN b m))++mixL (sigN b m) k):=by
 intro d hd
 rcases List.mem_append.1 hd with h | h
 ·exact digs_dg _ d h
 ·simp only [mixL,List.mem_map] at h;obtain ⟨j,_,rfl⟩:=h
  split <;> exact Nat.mod_lt _ (by decide)
theorem great_len (b m:List UInt8) (k:Nat):(digs (ptB (secN b m))++mixL (sigN b m) k).length=64:=by
 rw [List.length_append,mixL_len,digs,List.length_map,ptB_len]
theorem great_first (b m:List UInt8):bytesV (sigB b m)=bnV (digs (ptB (secN b m))++mixL (sigN b m) 0):=by
 rw [← bnV_digs',sigB,digs,List.map_append,mixL_zero,← digs_byB];rfl
theorem great_last (b m:List UInt8):bnV (digs (ptB (secN b m))++mixL (sigN b m) 32)=bytesV (greatB b m):=by
 rw [bnV_bsN (great_dg b m 32),mixL_end,greatB]
theorem greatB_len (b m:List UInt8):(greatB b m).length=64:=by
 have h:=great_len b m 32;rw [mixL_end] at h;rw [greatB,bsN,List.length_map,h]
theorem greatB_num (b m:List UInt8):LN≤leV (digs ((greatB b m).drop 32)):=by
 have h1:(greatB b m).drop 32=byB (sigN b m+LN):=by
  rw [greatB,bsN,List.map_append,List.drop_left' (by rw [List.length_map,digs,List.length_map,ptB_len])];rfl
 have h2:sigN b m+LN<256^32:=Nat.lt_of_lt_of_le (Nat.add_lt_add_right (sigN_lt b m) LN) (by decide);rw [h1,digs_byB,leV_byN _ h2];exact Nat.le_add_left _ _
theorem great_cell {b m:List UInt8} {k:Nat} (h:k<32):(digs (ptB (secN b m))++mixL (sigN b m) k).getD (32+k) 0=sigN b m/256^k%256:=by
 have hl:(digs (ptB (secN b m))).length=32:=by rw [digs,List.length_map,ptB_len]
 rw [List.getD_eq_getElem?_getD,List.getElem?_append_right (by omega),hl,show 32+k - 32=k by omega,← List.getD_eq_getElem?_getD,mixL_at h (Nat.le_refl _) h]
theorem great_set {b m:List UInt8} {k:Nat} (h:k<32):(digs (ptB (secN b m))++mixL (sigN b m) k).set (32+k) ((sigN b m+LN)/256^k%256)=digs (ptB (secN b m))++mixL (sigN b m) (k+1):=by
 have hl:(digs (ptB (secN b m))).length=32:=by rw [digs,List.length_map,ptB_len]
 rw [List.set_append_right _ _ (by omega),hl,show 32+k - 32=k by omega,mixL_set h]
end Go.Proofs.YtdgheahbafnboaaDoor
/-
  Walk: the law SignGreat.
-/
namespace Go.Proofs.YtdgheahbafnboaaDoor
set_option linter.unusedSimpArgs false
set_option linter.unusedVariables false
open Go.RowKit
structure GrW (w0:World) (g gl:Nat) (ys:List Value) (L:List Nat) (u:World):Prop where
 bel:Below w0.heap.size w0 u
 x:Blk u g 5 (bnV L++ys).toArray
 y:Blk u gl 5 (bnV lnL).toArray
 lo:w0.heap.size≤g
 ne:gl≠g
theorem GrW.put {w0 u u':World} {g gl:Nat} {ys:List Value} {L L':List Nat} (k:GrW w0 g gl ys L u) (hw:Wrote g u u') (hb:Blk u' g 5 (bnV L'++ys).toArray):GrW w0 g gl ys L' u' :=
 ⟨hw.below k.bel k.lo k.bel.size,hb,hw.blk k.y k.ne,k.lo,k.ne⟩
theorem GrW.drew {w0 u:World} {g gl:Nat} {ys:List Value} {L:List Nat} (k:GrW w0 g gl ys L u):GrW w0 g gl ys L u.drew:=⟨k.bel.drew,k.x,k.y,k.lo,k.ne⟩
theorem lnL_cell {u:World} {gl k:Nat} (h:Blk u gl 5 (bnV lnL).toArray) (hk:k<32):u.cell? ⟨gl,k,none⟩=some (.int .u8 ((LN/256^k%256:Nat):Int)):=by
 have hl:k<lnL.length:=by rw [lnL,byN_length]; exact hk
 rw [h.cell,List.getElem?_toArray,bnV,List.getElem?_map,List.getElem?_eq_getElem hl,← lnL_at hk,List.getD_eq_getElem?_getD,List.getElem?_eq_getElem hl];rfl
theorem lnL_d:lnL=[237,211,245,92,26,99,18,88,214,156,247,162,222,249,222,20,0,0,0,0,0,0,0,0,0,0,0,0,0,0,0,16]:=by decide +kernel
theorem lnL_v:(bnV lnL).toArray=#[.int .u8 237,.int .u8 211,.int .u8 245,.int .u8 92,.int .u8 26,.int .u8 99,.int .u8 18,.int .u8 88,.int .u8 214,.int .u8 156,.int .u8 247,.int .u8 162,.int .u8 222,.int .u8 249,.int .u8 222,.int .u8 20,.int .u8 0,.int .u8 0,.int .u8 0,.int .u8 0,.int .u8 0,.int .u8 0,.int .u8 0,.int .u8 0,.int .u8 0,.int .u8 0,.int .u8 0,.int .u8 0,.int .u8 0,.int .u8 0,.int .u8 0,.int .u8 16]:=by
 rw [lnL_d];rfl
set_option maxRecDepth 100000 in
set_option maxHeartbeats 4000000 in
theorem signGreat_any (l m0:List UInt8) (A M:Option Addr) (c cm:Nat) (w:World) (hr:Rd w w.heap.size A (bytesV l)) (hs:Rd w w.heap.size M (bytesV m0)) (hc:l.length≤c) (hcm:c≤9223372036854775807) (hd:m0.length≤cm) (hdm:cm≤9223372036854775807) (hG:Sh.TabG w) :
  Calls Tryd.prog 6 #[.slice A l.length c,.slice M m0.length cm] w (BoolPost true w):=by
 have hu:=Tryd.underlying22;obtain ⟨n1,hn1⟩:∃ n,n=l.length:=⟨_,rfl⟩;obtain ⟨n2,hn2⟩:∃ n,n=m0.length:=⟨_,rfl⟩;obtain ⟨m,hm⟩:∃ m,m=m0.take 60:=⟨_,rfl⟩;obtain ⟨nm,hnm⟩:∃ n,n=m.length:=⟨_,rfl⟩;obtain ⟨sd,hsd⟩:∃ s,s=seedB l:=⟨_,rfl⟩;have lsd:sd.length=32:=by rw [hsd]; exact seedB_len l
 have lm:m.length≤60:=by rw [hm,List.length_take]; omega
 have lm2:nm≤cm:=by rw [hnm,hm,List.length_take]; omega
 have rm:Rd w w.heap.size M (bytesV m):=by rw [hm]; exact rd_takeB hs
 obtain ⟨U,hU⟩:∃ U,U=ptB (keyN sd):=⟨_,rfl⟩;obtain ⟨G,hGs⟩:∃ G,G=sigB sd m:=⟨_,rfl⟩;have lU:U.length=32:=by rw [hU,ptB_len]
 have lG:G.length=64:=by rw [hGs,sigB_len]
 have hUb:bnV (pubL (keyN sd))=bytesV U:=by rw [hU,ptB,bnV_bsN (pubL_dg _)]
 have CF:=zY (show ∀ u,Calls Tryd.prog 8 #[.slice M n2 cm,.int .i64 60] u (fun e w'=>e=.returned (.slice M nm cm)∧w'=u) from fun u=>by
  rw [hnm,hm,hn2]; exact few_any m0 60 (by decide) M cm u (nil_len' hs) hd)
 have CSD:=zY (show ∀ u,Rd u u.heap.size A (bytesV l)→Calls Tryd.prog 13 #[.slice A n1 c] u (SeedPost sd u) from fun u h=>by
  rw [hsd,hn1]; exact seed_any l A c u h hc hcm)
 have CP:=zY (show ∀ u o,Rd u u.heap.size (some ⟨o,0,none⟩) (bytesV sd)→Sh.TabG u→Calls Tryd.prog 9 #[.slice (some ⟨o,0,none⟩) 32 32] u (fun e w'=>∃ o,e=.returned (.tuple #[.slice (some ⟨o,0,none⟩) 32 32,.int .i64 0])∧u.heap.size≤o∧Blk w' o 5 (bytesV U).toArray∧Below u.heap.size u w') from fun u o h g=>by
  rw [← hUb]; exact spublic_any sd lsd _ 32 u h (Nat.le_refl _) g)
 have CS:=zY (show ∀ u o,Rd u u.heap.size (some ⟨o,0,none⟩) (bytesV sd)→Rd u u.heap.size M (bytesV m)→Sh.TabG u→Calls Tryd.prog 10 #[.slice (some ⟨o,0,none⟩) 32 32,.slice M nm cm] u (SsgPost G u) from fun u o h1 h2 g=>by
  rw [hGs,hnm]; exact ssign_any sd m lsd (by omega) _ M 32 cm u h1 h2 (Nat.le_refl _) g)
 obtain ⟨GG,hGG⟩:∃ G,G=greatB sd m:=⟨_,rfl⟩
 have CV:=zY (show ∀ u Ap cp As cs,Rd u u.heap.size Ap (bytesV U)→Rd u u.heap.size M (bytesV m)→Rd u u.heap.size As (bytesV GG)→Sh.TabG u→32≤cp→64≤cs→Calls Tryd.prog 15 #[.slice Ap 32 cp,.slice M nm cm,.slice As 64 cs] u (fun e w'=>e=.returned (.int .i64 10)∧Below u.heap.size u w') from fun u Ap cp As cs h1 h2 h3 g h4 h5=>by
  have lGG:GG.length=64:=by rw [hGG]; exact greatB_len sd m
  have h:=sverify_any U m GG (by omega) (by omega) (by omega) Ap M As cp cm cs u h1 h2 h3 (by omega) (by omega) g;rw [lU,lGG,← hnm,show verS U m GG=10 by rw [hU,hGG]; exact ver_great sd m _ (greatB_len sd m) (greatB_num sd m)] at h;exact h)
 obtain ⟨TD,hTD⟩:∃ T,T=digs (ptB (secN sd m)):=⟨_,rfl⟩;obtain ⟨N,hN⟩:∃ N,N=sigN sd m:=⟨_,rfl⟩;have HZ:=zY (show bytesV G=bnV (TD++mixL N 0) by rw [hGs,hTD,hN]; exact great_first sd m);have HE:=zY (show bnV (TD++mixL N 32)=bytesV GG by rw [hGG,hTD,hN]; exact great_last sd m);have HLEN:=zY (show ∀ k,(TD++mixL N k).length=64 from fun k=>by rw [hTD,hN]; exact great_len sd m k);have HCELL:=zY (show ∀ k,k<32→(TD++mixL N k).getD (32+k) 0=N/256^k%256 from fun k hk=>by rw [hTD,hN]; exact great_cell hk);have HSETL:=zY (show ∀ k,k<32→(TD++mixL N k).set (32+k) ((N+LN)/256^k%256)=TD++mixL N (k+1) from fun k hk=>by rw [hTD,hN]; exact great_set hk);have CL:=zY (show ∀ u,Sh.TabG u→Calls Tryd.prog 11 #[] u (BoolPost true u) from fun u g=>lives_any u g);have HST:=zY (show Cs [.rd A (bytesV l),.rd M (bytesV m)] w w from ⟨⟨hr,rm,trivial⟩,Below.refl _ _⟩);have HG:=zY hG;have HLU:=zY lU;have HLG:=zY lG;have HLM:=zY hnm;have HLS:=zY lsd;have nm63:(nm:Int)≤200:=by omega
 rw [← hn1,← hn2];clear hr hs hc hcm hd hdm hG hn1 hn2 hm hnm hsd lsd lm rm hU hGs lU lG hUb hGG hTD hN;go_enter Tryd.func6,Tryd.ntmps6;go_wp2_with fail;refine calls_then (CF.out _) ?_;rintro e w0 ⟨rfl,rfl⟩;clear CF;go_wp2_with fail;refine calls_then (CSD.out _ HST.out.1.1) ?_;rintro e w1 ⟨os1,rfl,hos,hks,hb⟩;replace HST:=zY (HST.out.next hb);replace HG:=zY (HG.out.below hb HG.out.size);have RS:=zY (Rd.of_blk hks hks.lt);clear hos hks hb;go_wp2_with fail;refine calls_then (CP.out _ _ RS.out HG.out) ?_;rintro e w2 ⟨op2,rfl,hop,hkp,hb⟩;replace HST:=zY (HST.out.next hb);replace HG:=zY (HG.out.below hb HG.out.size);replace RS:=zY (rd_next RS.out hb);have RU:=zY (Rd.of_blk hkp hkp.lt);clear hop hkp hb RS;go_wp2_with fail;refine calls_then (CSD.out _ HST.out.1.1) ?_;rintro e w3 ⟨os3,rfl,hos,hks,hb⟩;replace HST:=zY (HST.out.next hb);replace HG:=zY (HG.out.below hb HG.out.size);replace RU:=zY (rd_next RU.out hb);have RS3:=zY (Rd.of_blk hks hks.lt);clear hos hks hb;go_wp2_with fail;obtain ⟨w3',hw3⟩:∃ x,x=w3:=⟨_,rfl⟩;refine calls_then (CS.out _ _ RS3.out HST.out.1.2.1 HG.out) ?_;rintro e w4 ⟨Ag,cg,rfl,hog,hb⟩;have hcap:=own_cap hog.x;obtain ⟨g,ys,rfl,hg,_,hblk⟩:=OwnZ.blk hog (by decide);rw [HZ.out] at hblk;have hb5:Below w3.heap.size w3 (w4.alloc (.cells (bnV lnL).toArray 5)):=hb.trans ((below_new w4 _).mono hb.size)
 have hgr:GrW w3 g w4.heap.size ys (TD++mixL N 0) (w4.alloc (.cells (bnV lnL).toArray 5)) :=
  ⟨hb5,hblk.below (below_new w4 _) hblk.lt,Blk.new w4 _ _,hg,by have:=hblk.lt; omega⟩
 rw [lnL_v] at hgr;have HGR:=zY hgr;clear hog hblk hb hg hb5 hgr hw3 RS3;go_wp2_with fail;generalize w4.heap.size=gl at *
 go_loopw [10,11] (fun cr i wr=>∃ k:Nat,k≤32∧i=.int .i64 (k:Int)∧cr=.int .i64 ((carN N k:Nat):Int)∧GrW w3 g gl ys (TD++mixL N k) wr) (fun _ i _=>32 - (intOf i).toNat)
 case atStart=>exact ⟨0,by omega,rfl,by rw [car_zero]; rfl,HGR.out⟩
 case round =>
  clear HGR;obtain ⟨k,hk,rfl,rfl,hst⟩:=hrel
  by_cases hlt:k<32
  ·have hlt':(k:Int)<32:=by omega
   obtain ⟨x,hx⟩:∃ x,x=N/256^k%256:=⟨_,rfl⟩;obtain ⟨y,hy⟩:∃ x,x=LN/256^k%256:=⟨_,rfl⟩;obtain ⟨q,hq⟩:∃ x,x=carN N k:=⟨_,rfl⟩;obtain ⟨cn,hcn⟩:∃ x,x=carN N (k+1):=⟨_,rfl⟩;obtain ⟨z,hz⟩:∃ x,x=(N+LN)/256^k%256:=⟨_,rfl⟩;obtain ⟨j,hj⟩:∃ j,j=32+k:=⟨_,rfl⟩;obtain ⟨xy,hxy⟩:∃ v,v=x+y:=⟨_,rfl⟩;obtain ⟨v,hv⟩:∃ v,v=xy+q:=⟨_,rfl⟩;have hxl:x<256:=by rw [hx]; exact Nat.mod_lt _ (by decide)
   have hyl:y<256:=by rw [hy]; exact Nat.mod_lt _ (by decide)
   have hql:q<2:=by rw [hq]; exact car_lt N k
   have hcl:cn<2:=by rw [hcn]; exact car_lt N (k+1)
   have hzl:z<256:=by rw [hz]; exact Nat.mod_lt _ (by decide)
   obtain ⟨c1,c2⟩:=car_next N k;rw [← hx,← hy,← hq,← hxy,← hv] at c1 c2;rw [← hz] at c1;rw [← hcn] at c2;have hji:(32:Int)+(k:Int)=(j:Int):=by omega
   have hxyi:(x:Int)+(y:Int)=(xy:Int):=by omega
   have hvi:(xy:Int)+(q:Int)=(v:Int):=by omega
   have hzi:(v:Int)%256=(z:Int):=by omega
   have hci:(v:Int)/256=(cn:Int):=by omega
   have hxl':(x:Int)<256:=by omega
   have hyl':(y:Int)<256:=by omega
   have hql':(q:Int)<2:=by omega
   have hxyl':(xy:Int)<512:=by omega
   have hvl':(v:Int)<514:=by omega
   have hzl':(z:Int)<256:=by omega
   have hjl':(j:Int)<64:=by omega
   have hj64:j<64:=by omega
   have d0:∀ u,GrW w3 g gl ys (TD++mixL N k) u→u.cell? ⟨g,j,none⟩=some (.int .u8 (x:Int)):=fun u h=>by
    rw [h.x.cell,sec_cell (by rw [HLEN.out]; exact hj64),hj,HCELL.out k hlt,hx]
   have d1:∀ u,GrW w3 g gl ys (TD++mixL N k) u→u.cell? ⟨gl,k,none⟩=some (.int .u8 (y:Int)):=fun u h=>by
    rw [lnL_cell h.y hlt,hy]
   have hput:∀ u,GrW w3 g gl ys (TD++mixL N k) u→GrW w3 g gl ys (TD++mixL N (k+1)) (u.setCell ⟨g,j,none⟩ (.int .u8 (z:Int))):=fun u hh=>by
    refine hh.put (wrote_setCell_at _ _ _ _) ?_;have h:=blk_setCell_at (i:=j) hh.x (.int .u8 (z:Int));rw [sec_set (by rw [HLEN.out]; exact hj64),hj,hz,HSETL.out k hlt] at h;exact hj▸hz▸h
   have D0:=zY d0;have D1:=zY d1;have HPUT:=zY hput;have HCN:=zY hcn;have HC0:=hst.drew;rw [← hq];clear d0 d1 hput hst hx hy hq hcn hz hj hxy hv hxl hyl hql hcl hzl c1 c2 hk;go_wp2_with fail;refine wp_region_det (fun u=>GrW w3 g gl ys (TD++mixL N k) u) (fun u=>GrW w3 g gl ys (TD++mixL N k) u) [(0,some 40),(1,some 41),(2,some 42),(3,some 43),(4,some 44),(5,some 45),(6,some 46),(7,some 47),(8,some 48),(9,some 49),(10,some 50),(11,some 51),(12,some 52),(13,some 53),(14,some 12)] (by kernel_rfl) (by kernel_rfl) (by decide) (by kernel_rfl) (fun _=>rfl) HC0 ?_;apply DetL.next
   ·apply dP [];exact fun _=>rfl;rfl;rintro vals - w1 hC1 E hE;simp only [sP] at hE ⊢;go_wp2;exact .mk (hE _ hC1)
   apply DetL.next
   ·apply dP [];exact fun _=>rfl;rfl;rintro vals ⟨-,-⟩ w1 hC1 E hE;simp only [sP] at hE ⊢;go_wp2;exact .mk (hE _ hC1)
   apply DetL.next
   ·apply dP [(1,some 41)];exact fun _=>rfl;rfl;rintro vals ⟨⟨-,-⟩,f1⟩ w1 hC1 E hE;simp only [sP,f1] at hE ⊢;clear f1;go_wp2;exact .mk (hE _ hC1)
   apply DetL.next
   ·apply dP [(0,some 40),(2,some 42)];exact fun _=>rfl;rfl;rintro vals ⟨⟨⟨-,f0⟩,-⟩,f2⟩ w1 hC1 E hE;simp only [sP,f0,f2] at hE ⊢;clear f0 f2;go_wp2;exact .mk (hE _ hC1)
   apply DetL.next
   ·apply dP [(3,some 43)];exact fun _=>rfl;rfl;intro vals vq w1 hC1 E hE;have f3:=vq.2;clear vq;have d0:=D0.out _ hC1;simp only [sP,f3] at hE ⊢;clear f3;go_wp2;exact .mk (hE _ hC1)
   apply DetL.next
   ·apply dP [(4,some 44)];exact fun _=>rfl;rfl;intro vals vq w1 hC1 E hE;have f4:=vq.2;clear vq;simp only [sP,f4] at hE ⊢;clear f4;go_wp2;exact .mk (hE _ hC1)
   apply DetL.next
   ·apply dP [];exact fun _=>rfl;rfl;intro vals vq w1 hC1 E hE;clear vq;simp only [sP] at hE ⊢;go_wp2;exact .mk (hE _ hC1)
   apply DetL.next
   ·apply dP [];exact fun _=>rfl;rfl;intro vals vq w1 hC1 E hE;clear vq;simp only [sP] at hE ⊢;go_wp2;exact .mk (hE _ hC1)
   apply DetL.next
   ·apply dP [(6,some 46),(7,some 47)];exact fun _=>rfl;rfl;intro vals vq w1 hC1 E hE;have f6:=vq.1.2;have f7:=vq.2;clear vq;simp only [sP,f6,f7] at hE ⊢;clear f6 f7;go_wp2;exact .mk (hE _ hC1)
   apply DetL.next
   ·apply dP [(8,some 48)];exact fun _=>rfl;rfl;intro vals vq w1 hC1 E hE;have f8:=vq.2;clear vq;have d1:=D1.out _ hC1;simp only [sP,f8] at hE ⊢;clear f8;go_wp2;exact .mk (hE _ hC1)
   apply DetL.next
   ·apply dP [(9,some 49)];exact fun _=>rfl;rfl;intro vals vq w1 hC1 E hE;have f9:=vq.2;clear vq;simp only [sP,f9] at hE ⊢;clear f9;go_wp2;exact .mk (hE _ hC1)
   apply DetL.next
   ·apply dP [(5,some 45),(10,some 50)];exact fun _=>rfl;rfl;intro vals vq w1 hC1 E hE;have f5:=vq.1.1.1.1.1.2;have f10:=vq.2;clear vq;simp only [sP,f5,f10] at hE ⊢;clear f5 f10;go_wp2;exact .mk (hE _ hC1)
   apply DetL.next
   ·apply dP [];exact fun _=>rfl;rfl;intro vals vq w1 hC1 E hE;clear vq;simp only [sP] at hE ⊢;go_wp2;exact .mk (hE _ hC1)
   apply DetL.next
   ·apply dP [(11,some 51),(12,some 52)];exact fun _=>rfl;rfl;intro vals vq w1 hC1 E hE;have f11:=vq.1.2;have f12:=vq.2;clear vq;simp only [sP,f11,f12] at hE ⊢;clear f11 f12;go_wp2;exact .mk (hE _ hC1)
   apply DetL.last
   ·apply dP [(13,some 53),(0,some 40),(1,some 41),(2,some 42),(3,some 43),(4,some 44),(5,some 45),(6,some 46),(7,some 47),(8,some 48),(9,some 49),(10,some 50),(11,some 51),(12,some 52),(13,some 53)];exact fun _=>rfl;rfl;rintro vals ⟨⟨⟨⟨⟨⟨⟨⟨⟨⟨⟨⟨⟨⟨-,f0⟩,f1⟩,f2⟩,f3⟩,f4⟩,f5⟩,f6⟩,f7⟩,f8⟩,f9⟩,f10⟩,f11⟩,f12⟩,f13⟩ w1 hC1 E hE;simp only [sP,f0,f1,f2,f3,f4,f5,f6,f7,f8,f9,f10,f11,f12,f13] at hE ⊢;clear f0 f1 f2 f3 f4 f5 f6 f7 f8 f9 f10 f11 f12 f13;go_wp2;exact .mk (hE _ hC1)
   rintro vals ⟨⟨⟨⟨⟨⟨⟨⟨⟨⟨⟨⟨⟨⟨⟨-,f0⟩,f1⟩,f2⟩,f3⟩,f4⟩,f5⟩,f6⟩,f7⟩,f8⟩,f9⟩,f10⟩,f11⟩,f12⟩,f13⟩,f14⟩ w1 hC1;simp only [sP,f0,f1,f2,f3,f4,f5,f6,f7,f8,f9,f10,f11,f12,f13,f14];clear f0 f1 f2 f3 f4 f5 f6 f7 f8 f9 f10 f11 f12 f13 f14;have hq0:=hC1.x.free j;have hcl0:=D0.out _ hC1;have HSET:=zY (HPUT.out _ hC1);clear HC0 hC1;go_wp2_with fail;exact ⟨⟨k+1,by omega,by go_num,by rw [← HCN.out],HSET.out⟩,by simp [intOf]; omega⟩
  ·have hk32:k=32:=by omega
   have hlt':¬ (k:Int)<32:=by omega
   subst hk32;have hb:=hst.bel;have hr:=(Rd.of_blk hst.x hst.x.lt).front;rw [HE.out] at hr;have RG:=zY hr;clear hr hst;replace HST:=zY (HST.out.next hb);replace HG:=zY (HG.out.below hb HG.out.size);replace RU:=zY (rd_next RU.out hb);clear hb;go_wp2_with fail;refine calls_then (CV.out _ _ _ _ _ RU.out HST.out.1.2.1 RG.out HG.out (Nat.le_refl _) (by omega)) ?_;rintro e w6 ⟨rfl,hb⟩;replace HST:=zY (HST.out.next hb);replace HG:=zY (HG.out.below hb HG.out.size);clear hb;go_wp2_with fail;refine calls_then (CL.out _ HG.out) ?_;rintro e w7 ⟨rfl,hb⟩;have HF:=zY (HST.out.2.trans (hb.mono HST.out.2.size));clear hb;go_wp2_with fail;go_ret;exact ⟨rfl,HF.out⟩
end Go.Proofs.YtdgheahbafnboaaDoor
namespace Go.Proofs.YtdgheahbafnboaaDoor.signGreat
set_option linter.unusedSimpArgs false
set_option linter.unusedVariables false
open Go.ChangeShapes Go.WideShapes Go.ChangeAt Go.RowKit Go.Joins Sh
set_option maxRecDepth 100000 in
theorem lifted (os:Os) (started:os.Started) (H:Type) (enc:TypeId × Value→H) :
  ReturnsInHanded {} Tryd.checked os 6 .any (fun w args=>(Rows.signGreatSpec.pre enc Tryd.prog Tryd.f6 [] false w args∧laidMetH Tryd.prog laidL w)∧sizedMet enc Tryd.prog Tryd.f6 (OpenSpec.ofChange Rows.signGreatSpec) false w args)
   (Rows.signGreatSpec.post enc Tryd.prog Tryd.f6 false true false false):=by
 refine returnsInHanded_of_change_and (C:=Tryd.checked) (X:=fun w _=>laidMetH Tryd.prog laidL w) (fun _ _ _ hh h=>h.of_heap hh) own started (by kernel_rfl) Tryd.func6
  (ChangeSpec.witness_shaped (enc:=enc) (C:=Tryd.checked) (os:=os) (X:=fun w _=>laidMetH Tryd.prog laidL w) false (World.doorLaid Tryd.prog 400 os) #[.slice none 0 0,.slice none 0 0] 8 rfl (World.shaped_of_RefB (by kernel_rfl) (by kernel_rfl)) (by kernel_rfl) (by kernel_rfl) (by kernel_rfl) (door_met os _)) ?_
 intro W base args ds gs before hval0 hW _ _ hL _;have hval:∀ (j:Nat) t v,Tryd.f6.params[j]?=some t→args[j]?=some v→Value.okWide Tryd.prog W .any base t v:=hval0;have hW':=hW;obtain ⟨p,q,hA0,hV,rfl,hfz,hnd⟩:=hW;have hA:DataW.TrodAll enc Tryd.prog W 0 (fun _=>true) true Tryd.f6.params.toList args.toList ds p:=hA0;rw [Tryd.params6] at hA hval;have hG:=tab_of_laid hL;obtain ⟨v0,v1,y0,y1,p0,p1,rfl,rfl,rfl,h0,h1⟩:=trodAll_two hA;obtain ⟨rfl,rfl⟩:=trodVars_none hV;have h0k:=h0;have h1k:=h1;obtain ⟨l1,A1,c1,rfl,rm1,qm1,okm1⟩:=open_bytes_cap (hval 0 22 v0 rfl rfl) h0;obtain ⟨l2,A2,c2,rfl,rm2,qm2,okm2⟩:=open_bytes_cap (hval 1 22 v1 rfl rfl) h1;clear hA0 hval0;simp only [List.append_nil] at hW';refine (signGreat_any l1 l2 A1 A2 c1 c2 W rm1 rm2 qm1 okm1 qm2 okm2 hG).mono fun e W' ⟨he,hb⟩=>?_;subst he;have hlt:∀ x ∈ p0++p1,x.block<W.heap.size:=fun x hx=>hW'.lt x (by simpa using hx)
 exact ⟨_,rfl,post_of_below (pa:=p0++p1) (pv:=[]) hW' (fun _ _ _=>trodAll_mk1 (shut_bool Tryd.underlying4 _))
  (fun sp hsp=>trodAll_mk2 (stays laidOut (by kernel_rfl) (of_decide_eq_true (by kernel_rfl)) h0k hb (fun x hx=>hlt x (List.mem_append_left _ hx)) (fun x hx=>hsp x (by simp [hx]))) (stays laidOut (by kernel_rfl) (of_decide_eq_true (by kernel_rfl)) h1k hb (fun x hx=>hlt x (List.mem_append_right _ hx)) (fun x hx=>hsp x (by simp [hx]))))
  (fun _ _=>rfl) (by simp) hb (ok_one (by kernel_rfl) rfl (okWide_bool_mk Tryd.underlying4 _))⟩
theorem row_holds:Rows.SignGreatSaid :=
 OpenClaim.holds_of_wide 6 Tryd.f6 rfl rfl rfl rfl rfl rfl rfl ⟨rfl,rfl,rfl,rfl,rfl⟩ rfl rfl rfl rfl rfl (by kernel_rfl) Tryd.func6 (by kernel_rfl)
  (of_decide_eq_true (by kernel_rfl)) (by unfold Func.isWrapper; first | (rw [if_pos (by decide +kernel)]; kernel_rfl) | (rw [if_neg (by decide +kernel)]; exact ⟨rfl,rfl⟩))
  (fun os started H enc _=>lifted os started H enc)
theorem holds:Rows.SignGreatCardSaid :=
 Claim7.holds_tied_plain_at .later [] [.data] true (true, "0784ad3089ade6ce65c23d6f7e779087f08751140f5f821148598f103a639288") false
  row_holds (fun _ h=>by cases h) (by kernel_rfl) (fun _ h=>by cases h) signGreat_row_tie rfl ⟨rfl,rfl⟩ (by kernel_rfl) rfl
  (fun f fn hf hfn=>by
   obtain rfl:f=6:=Option.some.inj ((show Tryd.prog.funcNamed "brevet/brevetlaw06.SignGreat" = some 6 by kernel_rfl).symm.trans hf) |>.symm;obtain rfl:fn=Tryd.f6:=(Option.some.inj (Tryd.func6.symm.trans hfn)).symm
   exact ⟨by kernel_rfl,fun j t ht=>by
    rw [Tryd.params6] at ht;have hm:t ∈ [22]:=by simpa using Array.mem_of_getElem? ht
    have hall:([22].all fun u=>!Tryd.prog.wantsStandIn u)=true:=by kernel_rfl
    exact (show Tryd.prog.wantsStandIn t=false by simpa using List.all_eq_true.1 hall t hm)⟩)
  (by kernel_rfl)
#print axioms holds
end Go.Proofs.YtdgheahbafnboaaDoor.signGreat
