/-
  PROVED: 'brevetlaw12.WireSeals': for every seed and every message what is sealed has just the signature of its text, and is right. The listed variable (the words of the steps) is tied to the program's text by the card.
-/
import Derived.Test.YtjmfkinedhmglaaDoorCards
import Derived.Test.YtjmfkinedhmglaaDoorTie
import Derived.SevenTiedAt
import Derived.ProofKit
import Derived.OpenShut
import Derived.Test.YtjmfkinedhmglaaDoorJ4
import Derived.Test.YtjmfkinedhmglaaDoorJ2
import Derived.Test.YtjmfkinedhmglaaDoorJ3
import Derived.Test.YtjmfkinedhmglaaDoorJ1
namespace Go.Proofs.YtjmfkinedhmglaaDoor.Wi
set_option linter.unusedSimpArgs false
set_option linter.unusedVariables false
set_option maxRecDepth 100000
set_option maxHeartbeats 4000000
open Go.RowKit
theorem strsV_one (l:List ByteArray):∀ u ∈ strsV l,u.oneCell'=true:=fun u h=>by
 rw [strsV] at h;obtain ⟨x,_,rfl⟩:=List.mem_map.1 h;rfl
def SclPostS (l:List ByteArray) (w:World) (e:Ending) (w':World):Prop :=
 ∃ A c,e=.returned (.slice A l.length c)∧l.length≤c∧OwnX w' w.heap.size 9 1 (.slice A l.length c) l.length (strsV l)∧Below w.heap.size w w'
theorem sclone_any (l:List ByteArray) (h8:l.length≤100) (A:Option Addr) (c:Nat) (w:World) (hr:Rd w w.heap.size A (strsV l)) :
  Calls Tryd.prog 30 #[.slice A l.length c] w (SclPostS l w):=by
 unfold SclPostS;obtain ⟨n,hn⟩:=eX (l.length);rw [← hn] at h8 ⊢;have HR:=zY hr
 cases A with
 | none =>
  have hl:l=[]:=by
   rcases l with _ | ⟨x,r⟩
   ·rfl
   ·obtain ⟨ad,h,-⟩:=hr 0 (.string x) rfl
    cases h
  have hn0:n=0:=by rw [hn,hl]; rfl
  have he:∀ u:World,(binOp .eql 23 (.slice none n c) (.slice none 0 0)).run Tryd.prog u=.ok (.bool true) u:=fun _=>by kernel_rfl
  have HN:=zY hn0;have HL:=zY hl;clear hr hn hl hn0 h8;go_enter Tryd.func30,Tryd.ntmps30;go_wp2_with fail;go_ret;exact ⟨none,0,by rw [HN.out]; rfl,by rw [HN.out]; exact Nat.le_refl _,by rw [HN.out,HL.out]; exact OwnX.nil _ _ _ _,Below.refl _ _⟩
 | some ad =>
  have hne:∀ u:World,(binOp .eql 23 (.slice (some ad) n c) (.slice none 0 0)).run Tryd.prog u=.ok (.bool false) u:=fun _=>by kernel_rfl
  have HL:=zY (show (strsV l).length=n*1 by rw [qa2,← hn,Nat.mul_one]);have H8:=zY h8;clear hr hn h8;go_enter Tryd.func30,Tryd.ntmps30;have HO:=zY (ownZ_nil w 9);have HB:=zY (below_new w (.cells #[] 9));go_wp2_with (refine qaX sl_strs rfl rfl HO.out.x rfl rfl HL.out ((HR.out.below HB.out).mono HB.out.size) (strsV_one l) (by have:=H8.out; unfold maxLen; omega) (by have:=H8.out; omega) (by simp) ?_; intro A1 c1 w1 hown hg hnx; have HOWN:=zY hown; have HG:=zY hg; clear hown hg hnx);go_ret;have ho:=HOWN.out;rw [Nat.zero_add,List.nil_append] at ho;exact ⟨A1,c1,rfl,ho.le_cap,ho,qbT HB.out HO.out.x HB.out.size HG.out⟩
def zMsg:MsgD:=⟨0,⟨#[]⟩,⟨#[]⟩,0,[],⟨#[]⟩⟩
def sealM (b:List UInt8) (m:MsgD):MsgD:=if mayB m=true then ⟨m.kind,m.src,m.dst,m.seq,m.fields,⟨(sigB b (textB m)).toArray⟩⟩ else zMsg
def sealE (m:MsgD):Nat:=if mayB m=true then 0 else 1
def SealPost (R:MsgD) (E:Nat) (w:World) (e:Ending) (w':World):Prop :=
 ∃ A c,e=.returned (.tuple #[.agg (msgCells R A c),.int .i64 (E:Int)])∧R.fields.length≤c∧OwnX w' w.heap.size 9 1 (.slice A R.fields.length c) R.fields.length (strsV R.fields)∧Below w.heap.size w w'
structure SeaC (w:World) (g1:Nat) (A1:Option Addr) (c1:Nat) (G:List UInt8) (u:World):Prop where
 below:Below w.heap.size w u
 zero:Blk u g1 25 (msgCells zMsg none 0)
 own:OwnX u w.heap.size 5 1 (.slice A1 64 c1) 64 (bytesV G)
section
variable {w u u':World} {g1 c1:Nat} {A1:Option Addr} {G:List UInt8}
theorem SeaC.next (h:SeaC w g1 A1 c1 G u) (hb:Below u.heap.size u u'):SeaC w g1 A1 c1 G u' :=
 ⟨h.below.trans (hb.mono h.below.size),h.zero.below hb h.zero.lt,h.own.below hb (Nat.le_refl _)⟩
theorem SeaC.drew (h:SeaC w g1 A1 c1 G u):SeaC w g1 A1 c1 G u.drew:=⟨h.below.drew,h.zero,h.own⟩
theorem SeaC.put {old:Array Value} (h:SeaC w g1 A1 c1 G u) (hw:Wrote w.heap.size u u') (hb:Blk u w.heap.size 25 old) (hne:g1≠w.heap.size):SeaC w g1 A1 c1 G u' :=
 ⟨hw.below h.below (Nat.le_refl _) h.below.size,hw.blk h.zero hne,hw.own h.own (qaD h.own hb (by decide))⟩
end
theorem seal_any (b:List UInt8) (m:MsgD) (lb:b.length=32) (A C:Option Addr) (ca c:Nat) (w:World) (rb:Rd w w.heap.size A (bytesV b)) (hca:32≤ca) (hr:Rd w w.heap.size C (strsV m.fields)) (hc:m.fields.length≤c) (ok:MsgOk m) (hG:Sh.TabG w) :
  Calls Tryd.prog 11 #[.slice A 32 ca,.agg (msgCells m C c)] w (SealPost (sealM b m) (sealE m) w):=by
 have hu:=Tryd.underlying25;have hus:=Tryd.underlying9;have hub:=Tryd.underlying22;have hu8:=Tryd.underlying5;obtain ⟨W0,hW0⟩:∃ W0,W0=(w.alloc (.cells (msgCells m C c) 25)).alloc (.cells #[.int .i64 0,.string ⟨#[]⟩,.string ⟨#[]⟩,.int .i64 0,.slice none 0 0,.string ⟨#[]⟩] 25):=⟨_,rfl⟩;have hb0:Below w.heap.size w W0:=by rw [hW0]; exact ((Below.refl _ _).alloc (Nat.le_refl _) _).alloc (by simp) _
 have hbm:Blk W0 w.heap.size 25 (msgCells m C c):=by rw [hW0]; exact (Blk.new _ _ _).alloc _
 have hbz:Blk W0 (w.heap.size+1) 25 (msgCells zMsg none 0):=by
  have:=Blk.new (w.alloc (.cells (msgCells m C c) 25)) 25 #[.int .i64 0,.string ⟨#[]⟩,.string ⟨#[]⟩,.int .i64 0,.slice none 0 0,.string ⟨#[]⟩];rw [hW0]; simpa [msgCells,zMsg] using this
 have hbm0:=hbm;rw [hW0] at hbm0;obtain ⟨g1,hg1⟩:=eX (w.heap.size+1);have HG1:=zY (show w.heap.size≤g1∧g1≠w.heap.size by omega);have CT:=zY (text_any m C c w.heap.size W0 (hr.below hb0) hb0.size hc ok);have HST:=zY (show Cs [.box w.heap.size 25 (msgCells m C c),.box g1 25 (msgCells zMsg none 0),.rd A (bytesV b)] w W0 from ⟨⟨hbm,by rw [hg1]; exact hbz,qan rb hb0,trivial⟩,hb0⟩);have HG:=zY (hG.below hb0 hG.size);have HW0:=zY hW0;have hgp:w.heap.size+1=g1:=hg1.symm;obtain ⟨E,hE⟩:=eX (sealE m);obtain ⟨R,hR⟩:=eX (sealM b m);rw [← hE,← hR]
 by_cases hm:mayB m=true
 ·obtain ⟨f1,f2,f3,f4,f5,f6,f7,f8,f9⟩:=qbd hm;have lt:=qcA hm;obtain ⟨T,hT⟩:=eX (textB m);obtain ⟨nt,hnt⟩:=eX (T.length);obtain ⟨n,hn⟩:=eX (m.fields.length);obtain ⟨F,hF⟩:=eX (m.fields);obtain ⟨G,hGG⟩:=eX (sigB b T);have lG:G.length=64:=by rw [hGG,qcB]
  obtain ⟨sg,hsg⟩:∃ s:ByteArray,s=⟨G.toArray⟩:=⟨_,rfl⟩;have hRR:R=⟨m.kind,m.src,m.dst,m.seq,m.fields,sg⟩:=by rw [hR,sealM,if_pos hm,hsg,hGG,hT]
  have CC:=zY (show ∀ u,Below w.heap.size w u→Calls Tryd.prog 30 #[.slice C n c] u (fun e w'=>∃ A c,e=.returned (.slice A n c)∧n≤c∧OwnX w' w.heap.size 9 1 (.slice A n c) n (strsV F)∧Below u.heap.size u w') from fun u hb=>by
   rw [hn,hF];refine (sclone_any m.fields (by omega) C c u ((hr.below hb).mono hb.size)).mono ?_;rintro e w' ⟨A,c,h1,h2,h3,h4⟩;exact ⟨A,c,h1,h2,h3.mono hb.size,h4⟩)
  have CS:=zY (show ∀ u A1 c1,Rd u u.heap.size A (bytesV b)→Rd u u.heap.size A1 (bytesV T)→Sh.TabG u→Calls Tryd.prog 13 #[.slice A 32 ca,.slice A1 nt c1] u (SsgPost G u) from fun u A1 c1 h1 h2 g=>by
   rw [hGG,hnt]; exact ssign_any b T lb (by rw [hT]; exact lt) A A1 ca c1 u h1 h2 hca g)
  have ct:=CT.out;unfold TextPost at ct;rw [hm,← hT,← hnt] at ct;have CT2:=zY ct;have HCE:=zY (show (msgCells m C c)[4]?=some (.slice C n c) by rw [hn]; rfl);have HS4:=zY (show ∀ A2 c2,(msgCells m C c).setIfInBounds 4 (.slice A2 n c2)=msgCells m A2 c2 by rw [hn]; intro A2 c2; rfl);have HS5:=zY (show ∀ A2 c2,(msgCells m A2 c2).setIfInBounds 5 (.string sg)=msgCells R A2 c2 by rw [hRR]; intro A2 c2; rfl);have HLG:=zY lG;have HSG:=zY hsg;have HFR:=zY (show R.fields.length=n∧strsV R.fields=strsV F by rw [hRR,hn,hF]; exact ⟨rfl,rfl⟩);have HE0:=zY (show (E:Int)=0 by rw [hE,sealE,if_pos hm]; rfl);clear CT ct hm f1 f2 f3 f4 f5 f6 f7 f8 f9 lt hT hnt hn hF hGG lG hsg hRR hE hR hW0 hb0 hbm hbz rb hca hr hc ok hG lb hg1;go_enter Tryd.func11,Tryd.ntmps11;go_wp2_with (refine qac hbm0 rfl rfl rfl hu rfl qas ?_);rw [← HW0.out];clear hbm0;refine qab CT2.out ?_;rintro e w1 ⟨hb,h⟩;rw [if_pos trivial] at h;obtain ⟨A1,c1,rfl,ho⟩:=h;replace HST:=zY (HST.out.next hb);replace HG:=zY (HG.out.below hb HG.out.size);have RT:=zY (Rd.of_own ho (Nat.le_refl _));clear ho hb CT2;go_wp2_with fail;refine qab (CS.out _ _ _ HST.out.1.2.2.1 RT.out HG.out) ?_;rintro e w2 ⟨A3,c3,rfl,ho3,hb3⟩;have HO3:=zY (ho3.x.mono HST.out.2.size);replace HST:=zY (HST.out.next hb3);clear ho3 hb3 RT HG CS;go_wp2_with fail;have HC0:SeaC w g1 A3 c3 G w2.drew:=SeaC.drew ⟨HST.out.2,HST.out.1.2.1,HO3.out⟩;have HI0:Blk w2.drew w.heap.size 25 (msgCells m C c):=HST.out.1.1;clear HST HO3
  refine qak (SeaC w g1 A3 c3 G) (fun | false=>(fun u=>Blk u w.heap.size 25 (msgCells m C c)) | true=>(fun _=>True)) (fun | false,i=>i == 6 || i == 8 | true,_=>false)
   [fun z _=>z 0=.pointer (some ⟨w.heap.size,4,none⟩),
    fun z _=>z 1=.slice C n c,
    fun z u=>(fun v u=>∃ A c,v=.slice A n c∧n≤c∧OwnX u w.heap.size 9 1 (.slice A n c) n (strsV F)) (z 2) u,
    fun z _=>z 3=.slice A3 64 c3,
    fun z _=>z 4=.string sg,
    fun z _=>z 5=.pointer (some ⟨w.heap.size,4,none⟩),
    fun z u=>∃ A c,n≤c∧OwnX u w.heap.size 9 1 (.slice A n c) n (strsV F)∧Blk u w.heap.size 25 (msgCells m A c),
    fun z _=>z 7=.pointer (some ⟨w.heap.size,5,none⟩),
    fun z u=>∃ A c,n≤c∧OwnX u w.heap.size 9 1 (.slice A n c) n (strsV F)∧Blk u w.heap.size 25 (msgCells R A c)]
   [Eq,Eq,fun u u'=>Below u.heap.size u u',Eq,Eq,Eq,fun _ _=>True,Eq,fun _ _=>True]
   (fun i k=>(i == 6 && k == 2) || (i == 8 && k == 2) || (i == 8 && k == 6)) [(0,some 28),(1,some 29),(2,some 30),(3,some 31),(4,some 32),(5,some 33),(6,none),(7,some 34),(8,none)] (by kernel_rfl) (by kernel_rfl) rfl (fun _=>rfl) ?_ ?_ ?_ ?_ ?_ ?_
  ·exact HC0
  ·intro m; cases m; exact HI0; exact trivial
  ·intro m; cases m
   ·refine ⟨?_,?_,.inr (fun _ _ h h0=>h0.below h h0.lt),?_,?_,?_,.inl rfl,?_,.inl rfl,trivial⟩ <;> exact .inr fun _ _ h h0=>h▸h0
   ·refine ⟨?_,?_,?_,?_,?_,?_,?_,?_,?_,trivial⟩ <;> first | exact .inr fun _ _ h h0=>h▸h0 | exact .inr fun _ _ _ h=>h
  ·refine ⟨⟨.inl rfl,?_,?_,?_,?_,?_,?_,?_,?_,trivial⟩,⟨?_,.inl rfl,?_,?_,?_,?_,?_,?_,?_,trivial⟩,⟨?_,?_,.inl rfl,?_,?_,?_,?_,?_,?_,trivial⟩,⟨?_,?_,?_,.inl rfl,?_,?_,?_,?_,?_,trivial⟩,⟨?_,?_,?_,?_,.inl rfl,?_,?_,?_,?_,trivial⟩,⟨?_,?_,?_,?_,?_,.inl rfl,?_,?_,?_,trivial⟩,⟨?_,?_,.inr (.inl rfl),?_,?_,?_,.inl rfl,?_,?_,trivial⟩,⟨?_,?_,?_,?_,?_,?_,?_,.inl rfl,?_,trivial⟩,⟨?_,?_,.inr (.inl rfl),?_,?_,?_,.inr (.inl rfl),?_,.inl rfl,trivial⟩,trivial⟩ <;> first | exact .inr (.inr (.inl rfl)) | exact .inr (.inr (.inr fun _ _ _ _ _ h=>h)) | exact .inr (.inr (.inr fun _ _ _ _ h h0=>by cases h; exact h0))
  ·refine ⟨?_,?_,?_,?_,?_,?_,?_,?_,?_,trivial⟩
   ·refine qaa [] (fun _=>rfl) rfl ?_;intro w1 vals hC1 hi0 hf E hE;have hI1:(fun u=>Blk u w.heap.size 25 (msgCells m C c)) w1:=hi0 false rfl
    try dsimp only at hI1
    clear hi0;clear hf;simp only [sP] at hE ⊢;go_wp2;exact .mk (hE _ _ rfl hC1 rfl)
   ·refine qaa [(0,some 28)] (fun _=>rfl) rfl ?_;intro w1 vals hC1 hi0 hf E hE;have hI1:(fun u=>Blk u w.heap.size 25 (msgCells m C c)) w1:=hi0 false rfl
    try dsimp only at hI1
    clear hi0;have f0:vals 0=_:=hf 0 rfl
    try dsimp only at f0
    clear hf;have d0:=(hI1.cell 4).trans HCE.out;simp only [sP,f0] at hE ⊢;clear f0;go_wp2;exact .mk (hE _ _ rfl hC1 rfl)
   ·refine qaa [(1,some 29)] (fun _=>rfl) rfl ?_;intro w1 vals hC1 hi0 hf E hE;have hI1:(fun u=>Blk u w.heap.size 25 (msgCells m C c)) w1:=hi0 false rfl
    try dsimp only at hI1
    clear hi0;have f1:vals 1=_:=hf 1 rfl
    try dsimp only at f1
    clear hf;simp only [sP,f1] at hE ⊢;clear f1;go_wp2_with fail;refine qab (CC.out _ hC1.below) ?_;rintro e w2 ⟨A2,c2,rfl,hn2,ho2,hb2⟩;go_wp2_with fail;exact .mk (hE _ _ ⟨A2,c2,rfl,hn2,ho2⟩ (hC1.next hb2) hb2)
   ·refine qaa [] (fun _=>rfl) rfl ?_;intro w1 vals hC1 hi0 hf E hE;clear hi0;clear hf;simp only [sP] at hE ⊢;go_wp2;exact .mk (hE _ _ rfl hC1 rfl)
   ·refine qaa [(3,some 31)] (fun _=>rfl) rfl ?_;intro w1 vals hC1 hi0 hf E hE;clear hi0;have f3:vals 3=_:=hf 3 rfl
    try dsimp only at f3
    clear hf;simp only [sP,f3] at hE ⊢;clear f3;refine qaw (Rd.of_own hC1.own (Nat.le_refl _)) hub hu8 hus rfl rfl (by rw [← HLG.out]; rfl) ?_;rw [← HSG.out];go_wp2_with fail;exact .mk (hE _ _ rfl hC1 rfl)
   ·refine qaa [(0,some 28),(1,some 29),(2,some 30)] (fun _=>rfl) rfl ?_;intro w1 vals hC1 hi0 hf E hE;have hI1:(fun u=>Blk u w.heap.size 25 (msgCells m C c)) w1:=hi0 false rfl
    try dsimp only at hI1
    clear hi0;have f0:vals 0=_:=hf 0 rfl;have f1:vals 1=_:=hf 1 rfl;have f2:(fun v u=>∃ A c,v=.slice A n c∧n≤c∧OwnX u w.heap.size 9 1 (.slice A n c) n (strsV F)) (vals 2) w1:=hf 2 rfl
    try dsimp only at f0 f1 f2
    clear hf;simp only [sP,f0,f1] at hE ⊢;clear f0 f1;go_wp2;exact .mk (hE _ _ rfl hC1 rfl)
   ·refine qaa [(5,some 33),(2,some 30),(2,some 30),(0,some 28),(1,some 29),(2,some 30)] (fun _=>rfl) rfl ?_;intro w1 vals hC1 hi0 hf E hE;have hI1:(fun u=>Blk u w.heap.size 25 (msgCells m C c)) w1:=hi0 false rfl
    try dsimp only at hI1
    clear hi0;have f0:vals 0=_:=hf 0 rfl;have f1:vals 1=_:=hf 1 rfl;have f2:(fun v u=>∃ A c,v=.slice A n c∧n≤c∧OwnX u w.heap.size 9 1 (.slice A n c) n (strsV F)) (vals 2) w1:=hf 2 rfl;have f5:vals 5=_:=hf 5 rfl
    try dsimp only at f0 f1 f2 f5
    clear hf;obtain ⟨A2,c2,hx2,hn2,ho2⟩:=f2;simp only [sP,f0,f1,f5,hx2] at hE ⊢;clear f0 f1 f5;clear hx2;refine qao (i:=4) (v:=.slice A2 n c2) hI1 rfl rfl rfl rfl (by kernel_rfl) (by simp [msgCells]) rfl ?_;intro w3 hb3 hw3;rw [HS4.out] at hb3;go_wp2_with fail;exact .mk (hE undef _ ⟨A2,c2,hn2,hw3.own ho2 (qaD ho2 hI1 (by decide)),hb3⟩ (hC1.put hw3 hI1 HG1.out.2) trivial)
   ·refine qaa [(0,some 28),(1,some 29),(2,some 30),(3,some 31),(4,some 32),(5,some 33),(6,none)] (fun _=>rfl) rfl ?_;intro w1 vals hC1 hi0 hf E hE;clear hi0;have f0:vals 0=_:=hf 0 rfl;have f1:vals 1=_:=hf 1 rfl;have f3:vals 3=_:=hf 3 rfl;have f4:vals 4=_:=hf 4 rfl;have f5:vals 5=_:=hf 5 rfl;have f6:(fun z u=>∃ A c,n≤c∧OwnX u w.heap.size 9 1 (.slice A n c) n (strsV F)∧Blk u w.heap.size 25 (msgCells m A c)) vals w1:=hf 6 rfl
    try dsimp only at f0 f1 f3 f4 f5 f6
    clear hf;simp only [sP,f0,f1,f3,f4,f5] at hE ⊢;clear f0 f1 f3 f4 f5;go_wp2;exact .mk (hE _ _ rfl hC1 rfl)
   ·refine qaa [(7,some 34),(4,some 32),(6,none),(0,some 28),(1,some 29),(2,some 30),(3,some 31),(4,some 32),(5,some 33),(6,none)] (fun _=>rfl) rfl ?_;intro w1 vals hC1 hi0 hf E hE;clear hi0;have f0:vals 0=_:=hf 0 rfl;have f1:vals 1=_:=hf 1 rfl;have f3:vals 3=_:=hf 3 rfl;have f4:vals 4=_:=hf 4 rfl;have f5:vals 5=_:=hf 5 rfl;have f6:(fun z u=>∃ A c,n≤c∧OwnX u w.heap.size 9 1 (.slice A n c) n (strsV F)∧Blk u w.heap.size 25 (msgCells m A c)) vals w1:=hf 6 rfl;have f7:vals 7=_:=hf 7 rfl
    try dsimp only at f0 f1 f3 f4 f5 f6 f7
    clear hf;obtain ⟨A2,c2,hn2,ho2,hI2⟩:=f6;simp only [sP,f0,f1,f3,f4,f5,f7] at hE ⊢;clear f0 f1 f3 f4 f5 f7;refine qao (i:=5) (v:=.string sg) hI2 rfl rfl rfl rfl (by kernel_rfl) (by simp [msgCells]) rfl ?_;intro w3 hb3 hw3;rw [HS5.out] at hb3;go_wp2_with fail;exact .mk (hE undef _ ⟨A2,c2,hn2,hw3.own ho2 (qaD ho2 hI2 (by decide)),hb3⟩ (hC1.put hw3 hI2 HG1.out.2) trivial)
  intro w1 vals hC1 hf;have f0:vals 0=_:=hf 0 (by decide) rfl;have f1:vals 1=_:=hf 1 (by decide) rfl;have f3:vals 3=_:=hf 3 (by decide) rfl;have f4:vals 4=_:=hf 4 (by decide) rfl;have f5:vals 5=_:=hf 5 (by decide) rfl;have f7:vals 7=_:=hf 7 (by decide) rfl;have f8:(fun z u=>∃ A c,n≤c∧OwnX u w.heap.size 9 1 (.slice A n c) n (strsV F)∧Blk u w.heap.size 25 (msgCells R A c)) vals w1:=hf 8 (by decide) rfl
  try dsimp only at f0 f1 f3 f4 f5 f7 f8
  clear hf;simp only [sP,f0,f1,f3,f4,f5,f7];clear f0 f1 f3 f4 f5 f7;generalize vals 2=x2 at *;obtain ⟨A4,c4,hn4,ho4,hk4⟩:=f8;have HO4:=zY ho4;have HC1:=zY hC1;have hz1:=hC1.zero;have HK4:=zY hk4;clear HC0 HI0 hC1 ho4
  go_wp2_with (first
   | (refine qac hk4 rfl rfl rfl hu rfl qas ?_)
   | (refine qae hz1 rfl rfl rfl rfl qas rfl (by simp [msgCells,Value.oneCell']) ?_; intro w5 hb5 hw5; have HB5:=zY hb5; have HW5:=zY hw5; clear hb5 hw5))
  have ho:=HW5.out.own HO4.out (qaD HO4.out hz1 (by decide));have hb:=HW5.out.below HC1.out.below HG1.out.1 HC1.out.below.size;refine bodyPost_ret (qal (P:=Tryd.prog) rfl rfl HB5.out hu rfl qas) rfl ?_;refine ⟨A4,c4,by rw [HE0.out]; rfl,by rw [HFR.out.1]; exact hn4,by rw [HFR.out.1,HFR.out.2]; exact ho,hb⟩
 ·have hmb:mayB m=false:=by simpa using hm
  have ct:=CT.out;unfold TextPost at ct;rw [hmb] at ct;have CT2:=zY ct;have HE0:=zY (show (E:Int)=1 by rw [hE,sealE,if_neg hm]; rfl);have HR0:=zY (show R=zMsg by rw [hR,sealM,if_neg hm]);clear CT ct hm hmb hE hR hW0 hb0 hbm hbz rb hca hr hc ok hG lb hg1;go_enter Tryd.func11,Tryd.ntmps11;go_wp2_with (refine qac hbm0 rfl rfl rfl hu rfl qas ?_);rw [← HW0.out];clear hbm0;refine qab CT2.out ?_;rintro e w1 ⟨hb,h⟩;rw [if_neg (by simp)] at h;subst h;replace HST:=zY (HST.out.next hb);have hz1:=HST.out.1.2.1;clear hb CT2;go_wp2_with (refine qae hz1 rfl rfl rfl rfl qas rfl (by simp [Value.oneCell']) ?_; intro w5 hb5 hw5; have HB5:=zY hb5; have HW5:=zY hw5; clear hb5 hw5);have hb:=HW5.out.below HST.out.2 HG1.out.1 HST.out.2.size;refine bodyPost_ret (qal (P:=Tryd.prog) rfl rfl HB5.out hu rfl qas) rfl ?_;rw [HR0.out];refine ⟨none,0,by rw [HE0.out]; rfl,Nat.zero_le _,OwnX.nil _ _ _ _,hb⟩
end Go.Proofs.YtjmfkinedhmglaaDoor.Wi
namespace Go.Proofs.YtjmfkinedhmglaaDoor
set_option linter.unusedSimpArgs false
set_option linter.unusedVariables false
set_option maxRecDepth 100000
set_option maxHeartbeats 4000000
open Go.RowKit
def seedK (b:List UInt8) (k:Nat):List UInt8:=b.take k++List.replicate (32 - k) 0
def seedB (b:List UInt8):List UInt8:=seedK b (min 32 b.length)
theorem qcR {b:List UInt8} {k:Nat} (h:k≤b.length) (h2:k≤32):(seedK b k).length=32:=by
 rw [seedK,List.length_append,List.length_take,List.length_replicate];omega
theorem seedB_len (b:List UInt8):(seedB b).length=32:=qcR (Nat.min_le_right _ _) (Nat.min_le_left _ _)
theorem seedK_set {b:List UInt8} {k:Nat} (h:k<b.length) (h2:k<32):(seedK b k).set k b[k]=seedK b (k+1):=by
 have e:List.replicate (32 - k) (0:UInt8)=0 :: List.replicate (32 - (k+1)) 0:=by
  rw [show 32 - k=(32 - (k+1))+1 by omega,List.replicate_succ]
 rw [seedK,seedK,List.set_append_right _ _ (by rw [List.length_take]; omega),List.length_take,show k - min k b.length=0 by omega,e,List.set_cons_zero,List.take_succ_eq_append_getElem h,List.append_assoc];rfl
def SeedPost (L:List UInt8) (w:World) (e:Ending) (w':World):Prop :=
 ∃ o,e=.returned (.slice (some ⟨o,0,none⟩) 32 32)∧w.heap.size≤o∧Blk w' o 5 (bytesV L).toArray∧Below w.heap.size w w'
theorem seed_any (b:List UInt8) (A:Option Addr) (c:Nat) (w:World) (hr:Rd w w.heap.size A (bytesV b)) (hc:b.length≤c) (hcm:c≤9223372036854775807) :
  Calls Tryd.prog 12 #[.slice A b.length c] w (SeedPost (seedB b) w):=by
 have hmk:∀ u:World,(Instr.makeSlice 22 (.int .i64 32) (.int .i64 32)).run Tryd.prog u=.ok (.slice (some ⟨u.heap.size,0,none⟩) 32 32) (u.alloc (.cells (bytesV (List.replicate 32 0)).toArray 5)):=fun _=>by kernel_rfl
 obtain ⟨n,hn⟩:=eX (b.length);rw [← hn] at hc ⊢;have HR:=zY hr;have HN:=zY hn;have hn63:(n:Int)≤9223372036854775807:=by omega
 clear hr hn hcm;go_enter Tryd.func12,Tryd.ntmps12;go_wp2_with fail;have hb0:=below_new w (.cells (bytesV (List.replicate 32 0)).toArray 5);have hk0:=Blk.new w 5 (bytesV (List.replicate 32 0)).toArray;generalize ho:w.heap.size=o at hk0 ⊢;have HB0:=zY hb0;have HK0:=zY hk0;have HO:=zY ho;clear hb0 hk0 ho hmk
 go_loopw [4] (fun i wr=>∃ k:Nat,k≤32∧k≤n∧i=.int .i64 (k:Int)∧Blk wr o 5 (bytesV (seedK b k)).toArray∧Below w.heap.size w wr) (fun i _=>32 - (intOf i).toNat)
 case atStart=>exact ⟨0,by omega,by omega,rfl,HK0.out,HB0.out⟩
 case round =>
  clear HB0 HK0;obtain ⟨k,hk,hkn,rfl,hblk,hbel⟩:=hrel
  by_cases hlt:k<32
  ·have hlt':(k:Int)<32:=by omega
   by_cases hln:k<n
   ·have hln':(k:Int)<(n:Int):=by omega
    have hkl:k<b.length:=by rw [← HN.out]; exact hln
    obtain ⟨ad,rfl,hadl,hcell⟩:=(HR.out.below hbel).at_ (k:=k) (by rw [qam]; exact hkl);obtain ⟨x,hx⟩:=eX (b[k].toNat);have hxl:(x:Int)<256:=by have:=b[k].toNat_lt; omega
    have hbv:(bytesV b)[k]'(by rw [qam]; exact hkl)=.int .u8 (x:Int):=by
     rw [hx]; simp [bytesV,byteV]
    rw [hbv] at hcell;have hq:wr.frozen? ⟨o,k,none⟩=false:=hblk.free k
    obtain ⟨y,hcl⟩:∃ y:Nat,wr.cell? ⟨o,k,none⟩=some (.int .u8 (y:Int)) :=
     ⟨((seedK b k)[k]'(by rw [qcR (by omega) hk]; exact hlt)).toNat,by
      rw [hblk.cell,List.getElem?_toArray,bytesV,List.getElem?_map,List.getElem?_eq_getElem (by rw [qcR (by omega) hk]; exact hlt)]
      rfl⟩
    have hset:Blk (wr.setCell ⟨o,k,none⟩ (.int .u8 (x:Int))) o 5 (bytesV (seedK b (k+1))).toArray:=by
     have h:=qag (i:=k) hblk (.int .u8 (x:Int))
     rw [List.setIfInBounds_toArray,show (bytesV (seedK b k)).set k (.int .u8 (x:Int))=bytesV (seedK b (k+1)) by
      rw [← seedK_set hkl hlt,hx,bytesV,bytesV,List.map_set]
      rfl] at h
     exact h
    have hset2:Below w.heap.size w (wr.setCell ⟨o,k,none⟩ (.int .u8 (x:Int))):=(qaf wr o k (.int .u8 (x:Int))).below hbel (Nat.le_of_eq HO.out) hbel.size;have HSET:=zY (And.intro hset hset2);clear hx hbv hkl hblk hbel hset hset2 hadl;go_wp2_with fail;exact ⟨⟨k+1,by omega,by omega,by go_num,HSET.out⟩,by simp [intOf]; omega⟩
   ·have hln':¬ (k:Int)<(n:Int):=by omega
    have hkn2:k=n:=by omega
    have HF:=zY (show w.heap.size≤o∧Blk wr o 5 (bytesV (seedB b)).toArray∧Below w.heap.size w wr from ⟨Nat.le_of_eq HO.out,by rw [seedB,← HN.out,show min 32 n=k by omega]; exact hblk,hbel⟩);clear hblk hbel;go_wp2_with fail;go_ret;exact ⟨o,rfl,HF.out⟩
  ·have hk32:k=32:=by omega
   have hlt':¬ (k:Int)<32:=by omega
   have HF:=zY (show w.heap.size≤o∧Blk wr o 5 (bytesV (seedB b)).toArray∧Below w.heap.size w wr from ⟨Nat.le_of_eq HO.out,by rw [seedB,← HN.out,show min 32 n=k by omega]; exact hblk,hbel⟩);clear hblk hbel;go_wp2_with fail;go_ret;exact ⟨o,rfl,HF.out⟩
set_option maxRecDepth 100000
theorem bmL_x:(bmP (byB LN)).x.val%PN=0:=by decide +kernel
theorem bmL_y:(bmP (byB LN)).y.val%PN=(bmP (byB LN)).z.val%PN:=by decide +kernel
theorem byB_LN:leV (digs (byB LN))=LN:=by decide +kernel
theorem base_order:∀ n,n=LN→times baseF n=zeroF:=by
 intro n hn
 have h:Is (bmP (byB LN)) (times baseF n):=by
  have h:=bmP_is (kb:=byB LN) (qaU _);rw [byB_LN] at h;rw [hn];exact h
 clear hn;generalize times baseF n=P at h ⊢;have hx:fv (bmP (byB LN)).x=0:=by rw [fv,← fn_zero,fn_eq,bmL_x]; rfl
 have hy:fv (bmP (byB LN)).y=fv (bmP (byB LN)).z:=by rw [fv,fv,fn_eq,bmL_y]
 have h1:P.x=0:=Ed.fac FF (by rw [← h.x,hx]) h.z;have h2:P.y=1:=Ed.cancel FF h.z (by rw [← h.y,hy]; generalize fv (bmP (byB LN)).z=z; grind -lia);exact Ed.Pn.eq h1 h2
section
open Ed
variable {n:Nat} [NeZero n] {d:Fin n} {iv:Fin n→Fin n}
theorem neg_add (F:Ed.Fld n d iv) (A P:Ed.Pn n d):Ed.add F (Ed.neg A) (Ed.neg P)=Ed.neg (Ed.add F A P):=by
 apply Ed.neg_eq F;rw [Ed.add_assoc F (Ed.neg A) (Ed.neg P) (Ed.add F A P),← Ed.add_assoc F (Ed.neg P) A P,Ed.add_comm F (Ed.neg P) A,Ed.add_assoc F A (Ed.neg P) P,Ed.add_comm F (Ed.neg P) P,Ed.add_neg F P,Ed.add_zero F A,Ed.add_comm F (Ed.neg A) A,Ed.add_neg]
theorem neg_zero (F:Ed.Fld n d iv):Ed.neg (Ed.zero d)=Ed.zero d:=by
 have h:=Ed.add_neg F (Ed.zero d)
 rwa [Ed.zero_add] at h
theorem mul_neg (F:Ed.Fld n d iv) (P:Ed.Pn n d):∀ k,Ed.mul F (Ed.neg P) k=Ed.neg (Ed.mul F P k)
 | 0=>(neg_zero F).symm
 | k+1=>by
  show Ed.add F (Ed.mul F (Ed.neg P) k) (Ed.neg P)=Ed.neg (Ed.add F (Ed.mul F P k) P);rw [mul_neg F P k,neg_add]
end
theorem times_mod {l:Nat} (hl:times baseF l=zeroF) (N:Nat):times baseF (N%l)=times baseF N:=by
 have e:times baseF N=plus (times baseF (l*(N/l))) (times baseF (N%l)):=by
  have h:=Ed.mul_add FF baseF (l*(N/l)) (N%l);rw [Nat.div_add_mod] at h;exact h
 have e2:times baseF (l*(N/l))=zeroF:=by
  have h:=Ed.mul_mul FF baseF l (N/l);rw [show Ed.mul FF baseF l=Ed.zero dF from hl,Ed.mul_zero] at h;exact h
 rw [e,e2];exact (Ed.zero_add FF _).symm
theorem round_plain {l:Nat} (hl:times baseF l=zeroF) (h k r:Nat):plus (times baseF ((h*k+r)%l)) (times (Ed.neg (times baseF k)) h)=times baseF r:=by
 have e1:times baseF ((h*k+r)%l)=plus (times baseF (h*k)) (times baseF r):=by
  rw [times_mod hl];exact Ed.mul_add FF baseF (h*k) r
 have e2:times (Ed.neg (times baseF k)) h=Ed.neg (times baseF (h*k)):=by
  have h1:=mul_neg FF (times baseF k) h;rw [show Ed.mul FF (times baseF k) h=times baseF (h*k) by rw [Nat.mul_comm h k]; exact (Ed.mul_mul FF baseF k h).symm] at h1;exact h1
 rw [e1,e2];generalize times baseF (h*k)=X;generalize times baseF r=R;rw [plus,plus,Ed.add_comm FF X R,Ed.add_assoc,Ed.add_neg,Ed.add_zero]
theorem ptB_digs (n:Nat):digs (ptB n)=byF (times baseF n):=by rw [ptB,qce (pubL_dg n),pubL]
theorem ver_sign (b m:List UInt8):verS (ptB (keyN b)) m (sigB b m)=0:=by
 obtain ⟨h0,hok,his⟩:=crd_is (ptB_digs (keyN b))
 have hib:isB ((sigB b m).drop 32)=true:=by
  rw [sigB_drop,isB,qaU,qbe (sigN_lt b m),decide_eq_true (sigN_lt b m)];rfl
 rw [verS,if_pos h0,if_pos (qcB b m),if_pos hib,if_pos];obtain ⟨hR,hI⟩:=verR_is (m:=m) hok his (qcB b m);rw [sigB_drop,sigB_take,qbe (sigN_lt b m)] at hI;obtain ⟨l,hl⟩:=eX LN;have hs:sigN b m=(hshN (ptB (secN b m)++ptB (keyN b)++m)*keyN b+secN b m)%l:=by rw [hl]; rfl
 rw [hs,round_plain (base_order l hl)] at hI;rw [sigB_take,bytP_is hR hI,ptB,pubL]
theorem ver_great (b m s:List UInt8) (hs:s.length=64) (hg:LN≤leV (digs (s.drop 32))):verS (ptB (keyN b)) m s=10:=by
 obtain ⟨h0,hok,his⟩:=crd_is (ptB_digs (keyN b))
 have hib:¬ isB (s.drop 32)=true:=by
  rw [isB,decide_eq_false (Nat.not_lt.mpr hg),Bool.and_false]
  decide
 rw [verS,if_pos h0,if_pos hs,if_neg hib]
end Go.Proofs.YtjmfkinedhmglaaDoor
namespace Go.Proofs.YtjmfkinedhmglaaDoor.Wi
set_option linter.unusedSimpArgs false
set_option linter.unusedVariables false
set_option maxRecDepth 100000
set_option maxHeartbeats 4000000
open Go.RowKit
theorem prefix_app (l:List UInt8):(⟨#[98,114,101,118,101,116,47]⟩:ByteArray)++(⟨l.toArray⟩:ByteArray)=⟨(prefixB++l).toArray⟩:=by
 apply ByteArray.ext;rw [ByteArray.data_append];simp [prefixB]
theorem sameM_self (m:MsgD):sameM m m=true:=by simp [sameM,sameB]
structure SlsC (w:World) (m:MsgD) (C1:Option Addr) (c1:Nat) (u:World):Prop where
 below:Below w.heap.size w u
 box:Blk u w.heap.size 25 (msgCells m C1 c1)
 own:OwnX u w.heap.size 9 1 (.slice C1 m.fields.length c1) m.fields.length (strsV m.fields)
section
variable {w u u':World} {m:MsgD} {C1:Option Addr} {c1 g:Nat}
theorem SlsC.next (h:SlsC w m C1 c1 u) (hb:Below u.heap.size u u'):SlsC w m C1 c1 u' :=
 ⟨h.below.trans (hb.mono h.below.size),h.box.below hb h.box.lt,h.own.below hb (Nat.le_refl _)⟩
theorem SlsC.drew (h:SlsC w m C1 c1 u):SlsC w m C1 c1 u.drew:=⟨h.below.drew,h.box,h.own⟩
theorem SlsC.put {old:Array Value} (h:SlsC w m C1 c1 u) (hw:Wrote g u u') (hb:Blk u g 25 old) (hg:w.heap.size<g):SlsC w m C1 c1 u' :=
 ⟨hw.below h.below (Nat.le_of_lt hg) h.below.size,hw.blk h.box (Nat.ne_of_lt hg),hw.own h.own (qaD h.own hb (by decide))⟩
theorem SlsC.rd (h:SlsC w m C1 c1 u):Rd u u.heap.size C1 (strsV m.fields):=Rd.of_own h.own (Nat.le_refl _)
end
structure SlsD (w:World) (g:Nat) (m R:MsgD) (C1:Option Addr) (c1:Nat) (A2:Option Addr) (c2:Nat) (u:World):Prop where
 base:SlsC w m C1 c1 u
 gt:w.heap.size<g
 box:Blk u g 25 (msgCells R A2 c2)
 own:OwnX u w.heap.size 9 1 (.slice A2 R.fields.length c2) R.fields.length (strsV R.fields)
section
variable {w u u':World} {m R:MsgD} {C1 A2:Option Addr} {c1 c2 g:Nat}
theorem SlsD.next (h:SlsD w g m R C1 c1 A2 c2 u) (hb:Below u.heap.size u u'):SlsD w g m R C1 c1 A2 c2 u' :=
 ⟨h.base.next hb,h.gt,h.box.below hb h.box.lt,h.own.below hb (Nat.le_refl _)⟩
theorem SlsD.drew (h:SlsD w g m R C1 c1 A2 c2 u):SlsD w g m R C1 c1 A2 c2 u.drew:=⟨h.base.drew,h.gt,h.box,h.own⟩
theorem SlsD.rd (h:SlsD w g m R C1 c1 A2 c2 u):Rd u u.heap.size A2 (strsV R.fields):=Rd.of_own h.own (Nat.le_refl _)
end
set_option maxHeartbeats 8000000 in
theorem wireSeals_any (l:List UInt8) (m0:MsgD) (A A0:Option Addr) (ca c0:Nat) (w:World) (rp:Rd w w.heap.size A (bytesV l)) (hca:l.length≤ca) (hcm:ca≤9223372036854775807) (hr:Rd w w.heap.size A0 (strsV m0.fields)) (hc:m0.fields.length≤c0) (ok:MsgOk m0) (hG:Sh.TabG w) :
  Calls Tryd.prog 4 #[.slice A l.length ca,.agg (msgCells m0 A0 c0)] w (fun e w'=>e=.returned (.bool true)∧Below w.heap.size w w'):=by
 have hu:=Tryd.underlying25;have hus:=Tryd.underlying9;have hub:=Tryd.underlying22;have hu8:=Tryd.underlying5;obtain ⟨W0,hW0⟩:=eX (w.alloc (.cells (msgCells m0 A0 c0) 25));have hb0:Below w.heap.size w W0:=by rw [hW0]; exact below_new _ _
 have hbm:Blk W0 w.heap.size 25 (msgCells m0 A0 c0):=by rw [hW0]; exact Blk.new _ _ _
 have hbm0:=hbm;rw [hW0] at hbm0;obtain ⟨n,hn⟩:=eX (l.length);obtain ⟨sd,hsd⟩:=eX (seedB l);have lsd:sd.length=32:=by rw [hsd]; exact seedB_len l
 have CC:=zY (cut_any m0 A0 c0 w.heap.size W0 (hr.below hb0) hb0.size hc ok);have okm:=cut_ok ok;obtain ⟨m,hm0⟩:=eX (cutM m0);unfold CutPost at CC;rw [← hm0] at CC okm;obtain ⟨R,hR⟩:=eX (sealM sd m);obtain ⟨er,her⟩:=eX (sealE m);obtain ⟨nR,hnR⟩:=eX (R.fields.length);have GT:=zY (show ∀ u,Below w.heap.size w u→Sh.TabG u from fun u hb=>hG.below hb hG.size)
 have CSD:=zY (show ∀ u,Below w.heap.size w u→Calls Tryd.prog 12 #[.slice A n ca] u (SeedPost sd u) from fun u hb=>by
  rw [hsd,hn]; exact seed_any l A ca u ((rp.below hb).mono hb.size) hca hcm)
 have CSE:=zY (show ∀ u o C c,Rd u u.heap.size (some ⟨o,0,none⟩) (bytesV sd)→Rd u u.heap.size C (strsV m.fields)→m.fields.length≤c→Sh.TabG u→Calls Tryd.prog 11 #[.slice (some ⟨o,0,none⟩) 32 32,.agg (msgCells m C c)] u (SealPost R er u) from fun u o C c h1 h2 h3 g=>by
  rw [hR,her]; exact seal_any sd m lsd _ C 32 c u h1 (Nat.le_refl _) h2 h3 okm g)
 have CL:=zY (show ∀ u,Calls Tryd.prog 8 #[] u (fun e w'=>e=.returned (.bool true)∧Below u.heap.size u w') from fun u=>lives_any u);have HB0:=zY hb0;have HBM:=zY hbm;have HW0:=zY hW0;have HOK:=zY okm;have HNR:=zY hnR;have HR:=zY hR;have HER:=zY her;have HLS:=zY lsd;rw [← hn];clear hn hsd lsd hm0 okm hb0 hbm hW0 rp hr hc ok hG hca hcm hR her hnR;go_enter Tryd.func4,Tryd.ntmps4;go_wp2_with (refine qac hbm0 rfl rfl rfl hu rfl qas ?_);rw [← HW0.out];clear hbm0;refine qab CC.out ?_;rintro e w1 ⟨C1,c1,rfl,hcc,hown1,hb1⟩;have hbm1:=HBM.out.below hb1 HBM.out.lt;have HB1:=zY (HB0.out.trans (hb1.mono HB0.out.size));have HO1:=zY (hown1.mono HB0.out.size);have HNE:=zY (qaD (t:=25) hown1 hbm1 (by decide));have HCC:=zY hcc;clear CC hb1 hown1 HBM hcc;go_wp2_with (refine qae (x:=.tmp 3) (cells:=msgCells m C1 c1) hbm1 rfl rfl rfl rfl qas rfl (by simp [msgCells,Value.oneCell']) ?_; intro w2 hb2 hw2; have HB2:=zY hb2; have HW2:=zY hw2; clear hb2 hw2);have HC0:SlsC w m C1 c1 w2.drew:=SlsC.drew ⟨HW2.out.below HB1.out (Nat.le_refl _) HB1.out.size,HB2.out,HW2.out.own HO1.out HNE.out⟩;clear HB1 HO1 HNE HB2 HW2 hbm1 HB0
 refine qak (SlsC w m C1 c1) (fun | false=>(fun _=>True) | true=>(fun _=>True)) (fun | false,_=>false | true,_=>false)
  [fun z _=>z 0=.slice A n ca,
   fun z u=>(fun v u=>∃ o,v=.slice (some ⟨o,0,none⟩) 32 32∧Blk u o 5 (bytesV sd).toArray) (z 1) u,
   fun z _=>z 2=.agg (msgCells m C1 c1),
   fun z u=>(fun v u=>∃ A c,v=.tuple #[.agg (msgCells R A c),.int .i64 (er:Int)]∧nR≤c∧OwnX u w.heap.size 9 1 (.slice A nR c) nR (strsV R.fields)) (z 3) u,
   fun z u=>(fun v u=>∃ A c,v=.tuple #[.agg (msgCells R A c),.int .i64 (er:Int)]∧nR≤c∧OwnX u w.heap.size 9 1 (.slice A nR c) nR (strsV R.fields)) (z 4) u,
   fun z u=>(fun v u=>∃ A c,v=.agg (msgCells R A c)∧nR≤c∧OwnX u w.heap.size 9 1 (.slice A nR c) nR (strsV R.fields)) (z 5) u,
   fun z _=>z 6=.int .i64 (er:Int),
   fun z u=>∃ g,z 7=.pointer (some ⟨g,0,none⟩)∧w.heap.size<g∧Blk u g 25 (msgCells zMsg none 0),
   fun z u=>∃ g A c,z 7=.pointer (some ⟨g,0,none⟩)∧w.heap.size<g∧Blk u g 25 (msgCells R A c)∧nR≤c∧OwnX u w.heap.size 9 1 (.slice A nR c) nR (strsV R.fields),
   fun z _=>z 9=.int .i64 (er:Int)]
  [Eq,fun u u'=>Below u.heap.size u u',Eq,fun u u'=>Below u.heap.size u u',Eq,Eq,Eq,fun u u'=>Below u.heap.size u u',fun u u'=>∃ g old,Wrote g u u'∧Blk u g 25 old,Eq]
  (fun i k=>(i == 8 && k == 1) || (i == 8 && k == 3) || (i == 8 && k == 5) || (i == 8 && k == 7)) [(0,some 16),(1,some 17),(2,some 18),(3,some 19),(4,some 15),(5,some 20),(6,some 21),(7,some 5),(8,none),(9,some 6)] (by kernel_rfl) (by kernel_rfl) rfl (fun _=>rfl) ?_ ?_ ?_ ?_ ?_ ?_
 ·exact HC0
 ·intro m; cases m; exact trivial; exact trivial
 ·intro m; cases m
  ·refine ⟨?_,?_,?_,?_,?_,?_,?_,?_,?_,?_,trivial⟩ <;> first | exact .inr fun _ _ h h0=>h▸h0 | exact .inr fun _ _ _ h=>h
  ·refine ⟨?_,?_,?_,?_,?_,?_,?_,?_,?_,?_,trivial⟩ <;> first | exact .inr fun _ _ h h0=>h▸h0 | exact .inr fun _ _ _ h=>h
 ·refine ⟨⟨.inl rfl,?_,?_,?_,?_,?_,?_,?_,?_,?_,trivial⟩,⟨?_,.inl rfl,?_,?_,?_,?_,?_,.inr (.inr (.inr (fun _ _ _ _ h ⟨g,e,l,k⟩=>⟨g,e,l,k.below h k.lt⟩))),?_,?_,trivial⟩,⟨?_,?_,.inl rfl,?_,?_,?_,?_,?_,?_,?_,trivial⟩,⟨?_,.inr (.inr (.inr (fun _ _ _ _ h ⟨o,e,k⟩=>⟨o,e,k.below h k.lt⟩))),?_,.inl rfl,?_,?_,?_,.inr (.inr (.inr (fun _ _ _ _ h ⟨g,e,l,k⟩=>⟨g,e,l,k.below h k.lt⟩))),?_,?_,trivial⟩,⟨?_,?_,?_,?_,.inl rfl,?_,?_,?_,?_,?_,trivial⟩,⟨?_,?_,?_,?_,?_,.inl rfl,?_,?_,?_,?_,trivial⟩,⟨?_,?_,?_,?_,?_,?_,.inl rfl,?_,?_,?_,trivial⟩,⟨?_,.inr (.inr (.inr (fun _ _ _ _ h ⟨o,e,k⟩=>⟨o,e,k.below h k.lt⟩))),?_,.inr (.inr (.inr (fun _ _ _ _ h ⟨A,c,e,l,o⟩=>⟨A,c,e,l,o.below h (Nat.le_refl _)⟩))),.inr (.inr (.inr (fun _ _ _ _ h ⟨A,c,e,l,o⟩=>⟨A,c,e,l,o.below h (Nat.le_refl _)⟩))),.inr (.inr (.inr (fun _ _ _ _ h ⟨A,c,e,l,o⟩=>⟨A,c,e,l,o.below h (Nat.le_refl _)⟩))),?_,.inl rfl,?_,?_,trivial⟩,⟨?_,.inr (.inl rfl),?_,.inr (.inl rfl),.inr (.inr (.inr (fun _ _ _ _ ⟨g,old,hw,hb⟩ ⟨A,c,e,l,o⟩=>⟨A,c,e,l,hw.own o (qaD o hb (by decide))⟩))),.inr (.inl rfl),?_,.inr (.inl rfl),.inl rfl,?_,trivial⟩,⟨?_,?_,?_,?_,?_,?_,?_,?_,?_,.inl rfl,trivial⟩,trivial⟩ <;> first | exact .inr (.inr (.inl rfl)) | exact .inr (.inr (.inr fun _ _ _ _ _ h=>h)) | exact .inr (.inr (.inr fun _ _ _ _ h h0=>by cases h; exact h0))
 ·refine ⟨?_,?_,?_,?_,?_,?_,?_,?_,?_,?_,trivial⟩
  ·refine qaa [] (fun _=>rfl) rfl ?_;intro w1 vals hC1 hi0 hf E hE;clear hi0;clear hf;simp only [sP] at hE ⊢;go_wp2;exact .mk (hE _ _ rfl hC1 rfl)
  ·refine qaa [(0,some 16)] (fun _=>rfl) rfl ?_;intro w1 vals hC1 hi0 hf E hE;clear hi0;have f0:vals 0=_:=hf 0 rfl
   try dsimp only at f0
   clear hf;simp only [sP,f0] at hE ⊢;clear f0;go_wp2_with fail;refine qab (CSD.out _ hC1.below) ?_;rintro e w2 ⟨o,rfl,ho,hk,hb2⟩;go_wp2_with fail;exact .mk (hE _ _ ⟨o,rfl,hk⟩ (hC1.next hb2) hb2)
  ·refine qaa [] (fun _=>rfl) rfl ?_;intro w1 vals hC1 hi0 hf E hE;clear hi0;clear hf;simp only [sP] at hE ⊢;refine qac hC1.box rfl rfl rfl hu rfl qas ?_;go_wp2_with fail;exact .mk (hE _ _ rfl hC1 rfl)
  ·refine qaa [(1,some 17),(2,some 18),(1,some 17)] (fun _=>rfl) rfl ?_;intro w1 vals hC1 hi0 hf E hE;clear hi0;have f1:(fun v u=>∃ o,v=.slice (some ⟨o,0,none⟩) 32 32∧Blk u o 5 (bytesV sd).toArray) (vals 1) w1:=hf 1 rfl;have f2:vals 2=_:=hf 2 rfl
   try dsimp only at f1 f2
   clear hf;obtain ⟨o,hx1,hk1⟩:=f1;simp only [sP,f2,hx1] at hE ⊢;clear f2;clear hx1;go_wp2_with fail;refine qab (CSE.out _ _ _ _ (Rd.of_blk hk1 hk1.lt) hC1.rd HCC.out (GT.out _ hC1.below)) ?_;rintro e w2 ⟨A2,c2,rfl,hc2,ho2,hb2⟩;rw [← HNR.out] at hc2 ho2;go_wp2_with fail;exact .mk (hE _ _ ⟨A2,c2,rfl,hc2,ho2.mono hC1.below.size⟩ (hC1.next hb2) hb2)
  ·refine qaa [(3,some 19)] (fun _=>rfl) rfl ?_;intro w1 vals hC1 hi0 hf E hE;clear hi0;have f3:(fun v u=>∃ A c,v=.tuple #[.agg (msgCells R A c),.int .i64 (er:Int)]∧nR≤c∧OwnX u w.heap.size 9 1 (.slice A nR c) nR (strsV R.fields)) (vals 3) w1:=hf 3 rfl
   try dsimp only at f3
   clear hf;obtain ⟨A2,c2,hx3,hc2,ho2⟩:=f3;simp only [sP,hx3] at hE ⊢;clear hx3;go_wp2_with fail;exact .mk (hE _ _ ⟨A2,c2,rfl,hc2,ho2⟩ hC1 rfl)
  ·refine qaa [(4,some 15)] (fun _=>rfl) rfl ?_;intro w1 vals hC1 hi0 hf E hE;clear hi0;have f4:(fun v u=>∃ A c,v=.tuple #[.agg (msgCells R A c),.int .i64 (er:Int)]∧nR≤c∧OwnX u w.heap.size 9 1 (.slice A nR c) nR (strsV R.fields)) (vals 4) w1:=hf 4 rfl
   try dsimp only at f4
   clear hf;obtain ⟨A2,c2,hx4,hc2,ho2⟩:=f4;simp only [sP,hx4] at hE ⊢;clear hx4;go_wp2_with fail;exact .mk (hE _ _ ⟨A2,c2,rfl,hc2,ho2⟩ hC1 rfl)
  ·refine qaa [(4,some 15)] (fun _=>rfl) rfl ?_;intro w1 vals hC1 hi0 hf E hE;clear hi0;have f4:(fun v u=>∃ A c,v=.tuple #[.agg (msgCells R A c),.int .i64 (er:Int)]∧nR≤c∧OwnX u w.heap.size 9 1 (.slice A nR c) nR (strsV R.fields)) (vals 4) w1:=hf 4 rfl
   try dsimp only at f4
   clear hf;obtain ⟨A2,c2,hx4,hc2,ho2⟩:=f4;simp only [sP,hx4] at hE ⊢;clear hx4;go_wp2_with fail;exact .mk (hE _ _ rfl hC1 rfl)
  ·refine qaa [] (fun _=>rfl) rfl ?_;intro w1 vals hC1 hi0 hf E hE;clear hi0;clear hf;simp only [sP] at hE ⊢;go_wp2;exact .mk (hE _ _ ⟨_,rfl,hC1.box.lt,Blk.new _ _ _⟩ (hC1.next (below_new _ _)) (below_new _ _))
  ·refine qaa [(7,some 5),(5,some 20),(3,some 19),(0,some 16),(1,some 17),(2,some 18),(3,some 19),(4,some 15),(5,some 20),(7,some 5)] (fun _=>rfl) rfl ?_;intro w1 vals hC1 hi0 hf E hE;clear hi0;have f0:vals 0=_:=hf 0 rfl;have f1:(fun v u=>∃ o,v=.slice (some ⟨o,0,none⟩) 32 32∧Blk u o 5 (bytesV sd).toArray) (vals 1) w1:=hf 1 rfl;have f2:vals 2=_:=hf 2 rfl;have f3:(fun v u=>∃ A c,v=.tuple #[.agg (msgCells R A c),.int .i64 (er:Int)]∧nR≤c∧OwnX u w.heap.size 9 1 (.slice A nR c) nR (strsV R.fields)) (vals 3) w1:=hf 3 rfl;have f4:(fun v u=>∃ A c,v=.tuple #[.agg (msgCells R A c),.int .i64 (er:Int)]∧nR≤c∧OwnX u w.heap.size 9 1 (.slice A nR c) nR (strsV R.fields)) (vals 4) w1:=hf 4 rfl;have f5:(fun v u=>∃ A c,v=.agg (msgCells R A c)∧nR≤c∧OwnX u w.heap.size 9 1 (.slice A nR c) nR (strsV R.fields)) (vals 5) w1:=hf 5 rfl;have f7:(fun z u=>∃ g,z 7=.pointer (some ⟨g,0,none⟩)∧w.heap.size<g∧Blk u g 25 (msgCells zMsg none 0)) vals w1:=hf 7 rfl
   try dsimp only at f0 f1 f2 f3 f4 f5 f7
   clear hf;obtain ⟨A2,c2,hx5,hc2,ho2⟩:=f5;obtain ⟨g,hx7,hg,hk7⟩:=f7;have hx7':=zY hx7;simp only [sP,f0,f2,hx5,hx7] at hE ⊢;clear f0 f2;clear hx5 hx7;refine qae hk7 rfl rfl rfl rfl qas rfl (by simp [msgCells,Value.oneCell']) ?_;intro w3 hb3 hw3;go_wp2_with fail;exact .mk (hE undef _ ⟨g,A2,c2,hx7'.out,hg,hb3,hc2,hw3.own ho2 (qaD ho2 hk7 (by decide))⟩ (hC1.put hw3 hk7 hg) ⟨g,_,hw3,hk7⟩)
  ·refine qaa [(6,some 21),(8,none),(0,some 16),(1,some 17),(2,some 18),(3,some 19),(4,some 15),(5,some 20),(6,some 21),(7,some 5),(8,none)] (fun _=>rfl) rfl ?_;intro w1 vals hC1 hi0 hf E hE;clear hi0;have f0:vals 0=_:=hf 0 rfl;have f2:vals 2=_:=hf 2 rfl;have f4:(fun v u=>∃ A c,v=.tuple #[.agg (msgCells R A c),.int .i64 (er:Int)]∧nR≤c∧OwnX u w.heap.size 9 1 (.slice A nR c) nR (strsV R.fields)) (vals 4) w1:=hf 4 rfl;have f6:vals 6=_:=hf 6 rfl;have f8:(fun z u=>∃ g A c,z 7=.pointer (some ⟨g,0,none⟩)∧w.heap.size<g∧Blk u g 25 (msgCells R A c)∧nR≤c∧OwnX u w.heap.size 9 1 (.slice A nR c) nR (strsV R.fields)) vals w1:=hf 8 rfl
   try dsimp only at f0 f2 f4 f6 f8
   clear hf;simp only [sP,f0,f2,f6] at hE ⊢;clear f0 f2 f6;go_wp2;exact .mk (hE _ _ rfl hC1 rfl)
 intro w1 vals hC1 hf;have f0:vals 0=_:=hf 0 (by decide) rfl;have f2:vals 2=_:=hf 2 (by decide) rfl;have f4:(fun v u=>∃ A c,v=.tuple #[.agg (msgCells R A c),.int .i64 (er:Int)]∧nR≤c∧OwnX u w.heap.size 9 1 (.slice A nR c) nR (strsV R.fields)) (vals 4) w1:=hf 4 (by decide) rfl;have f6:vals 6=_:=hf 6 (by decide) rfl;have f8:(fun z u=>∃ g A c,z 7=.pointer (some ⟨g,0,none⟩)∧w.heap.size<g∧Blk u g 25 (msgCells R A c)∧nR≤c∧OwnX u w.heap.size 9 1 (.slice A nR c) nR (strsV R.fields)) vals w1:=hf 8 (by decide) rfl;have f9:vals 9=_:=hf 9 (by decide) rfl
 try dsimp only at f0 f2 f4 f6 f8 f9
 clear hf;simp only [sP,f0,f2,f6,f9];clear f0 f2 f6 f9;generalize vals 1=x1 at *;generalize vals 3=x3 at *;generalize vals 4=x4 at *;generalize vals 5=x5 at *;generalize vals 7=x7 at *;obtain ⟨g,A2,c2,hx7,hg,hk,hc2,ho2⟩:=f8;rw [hx7];have HD:=zY (show SlsD w g m R C1 c1 A2 c2 w1 from ⟨hC1,hg,hk,by rw [← HNR.out]; exact ho2⟩);have HC2:=zY (show R.fields.length≤c2 by rw [← HNR.out]; exact hc2);clear hx7 hg hk hc2 ho2 hC1 HC0 f4;go_wp2_with (refine qac HD.out.base.box rfl rfl rfl hu rfl qas ?_);refine qab (rmay_any m C1 c1 w1.heap.size w1 HD.out.base.rd (Nat.le_refl _) HCC.out HOK.out) ?_;rintro e w5 ⟨rfl,hw5⟩;have hb5:Below w1.heap.size w1 w5:=by rw [hw5]; exact (Below.refl _ _).alloc (Nat.le_refl _) _
 replace HD:=zY (HD.out.next hb5);clear hb5 hw5
 by_cases hm:mayB m=true
 ·obtain ⟨f1,f2,f3,f4,f5,f6,f7,f8,f9⟩:=qbd hm;have lt:=qcA hm;have lbd:=qa6 hm;have he0:(er:Int)=0:=by rw [HER.out,sealE,if_pos hm]; rfl
  obtain ⟨T,hT⟩:=eX (textB m);obtain ⟨G,hGG⟩:=eX (sigB sd T);have lG:G.length=64:=by rw [hGG,qcB]
  obtain ⟨U,hU⟩:=eX (ptB (keyN sd));have lU:U.length=32:=by rw [hU,qcn]
  have hUb:bnV (pubL (keyN sd))=bytesV U:=by rw [hU,ptB,qbJ (pubL_dg _)]
  obtain ⟨sg,hsg⟩:∃ s:ByteArray,s=⟨G.toArray⟩:=⟨_,rfl⟩;have hRR:R=⟨m.kind,m.src,m.dst,m.seq,m.fields,sg⟩:=by rw [HR.out,sealM,if_pos hm,hsg,hGG,hT]
  have hsz:sg.size=64:=by rw [hsg,← lG]; rfl
  have hmR:mayB R=true:=by
   rw [hRR];unfold mayB at hm ⊢;rw [Bool.and_eq_true] at hm ⊢;exact ⟨hm.1,by simp [hsz]⟩
  have okR:MsgOk R:=by
   have ok:=HOK.out;rw [hRR];exact ⟨ok.src,ok.dst,by show sg.size≤_; omega,ok.fields,ok.each⟩
  have hV:chkS U R=0:=by
   rw [chkS,if_pos hmR,show textB R=T by rw [hRR,hT]; rfl,show R.sig.data.toList=G by rw [hRR,hsg],hU,hGG];exact ver_sign sd T
  obtain ⟨nt,hnt⟩:=eX (T.length);obtain ⟨nb,hnb⟩:=eX ((bodyB m).length);obtain ⟨SB,hSB⟩:∃ b:ByteArray,b=⟨(bodyB m).toArray⟩:=⟨_,rfl⟩;obtain ⟨ST,hST⟩:∃ b:ByteArray,b=⟨T.toArray⟩:=⟨_,rfl⟩;have HAB:=zY (show (⟨#[98,114,101,118,101,116,47]⟩:ByteArray)++SB=ST by rw [hST,hSB,hT,textB]; exact prefix_app _);have HSZ:=zY (show SB.size≤12000 by rw [hSB]; simpa [ByteArray.size] using lbd);have HNT:=zY (show ST.size=nt by rw [hST,hnt]; rfl);have HTB:=zY (show bytesV ST.data.toList=bytesV T by rw [hST]);have HSB:=zY hSB;have HNB:=zY hnb;have HMM:=zY hm;have HLG:=zY lG;have HSG:=zY hsg;have HFE:=zY (show R.fields=m.fields by rw [hRR]);have HS5:=zY (show ∀ A2 c2,(msgCells m A2 c2).setIfInBounds 5 (.string sg)=msgCells R A2 c2 by rw [hRR]; intro A2 c2; rfl);have HF8:=zY (show R.fields.length≤9223372036854775807 by rw [hRR]; exact HOK.out.fields)
  have CS:=zY (show ∀ u o A1 c1,Rd u u.heap.size (some ⟨o,0,none⟩) (bytesV sd)→Rd u u.heap.size A1 (bytesV T)→Sh.TabG u→Calls Tryd.prog 13 #[.slice (some ⟨o,0,none⟩) 32 32,.slice A1 nt c1] u (SsgPost G u) from fun u o A1 c1 h1 h2 gg=>by
   rw [hGG,hnt]; exact ssign_any sd T HLS.out (by rw [hT]; exact lt) _ A1 32 c1 u h1 h2 (Nat.le_refl _) gg)
  have CP:=zY (show ∀ u o,Rd u u.heap.size (some ⟨o,0,none⟩) (bytesV sd)→Sh.TabG u→Calls Tryd.prog 14 #[.slice (some ⟨o,0,none⟩) 32 32] u (fun e w'=>∃ o,e=.returned (.tuple #[.slice (some ⟨o,0,none⟩) 32 32,.int .i64 0])∧u.heap.size≤o∧Blk w' o 5 (bytesV U).toArray∧Below u.heap.size u w') from fun u o h gg=>by
   rw [← hUb]; exact qcP sd HLS.out _ 32 u h (Nat.le_refl _) gg)
  have CK:=zY (show ∀ u o,Rd u u.heap.size (some ⟨o,0,none⟩) (bytesV U)→Rd u u.heap.size A2 (strsV R.fields)→Sh.TabG u→Calls Tryd.prog 7 #[.slice (some ⟨o,0,none⟩) 32 32,.agg (msgCells R A2 c2)] u (fun e w'=>e=.returned (.int .i64 0)∧Below u.heap.size u w') from fun u o h1 h2 gg=>by
   have h:=qci U R (by omega) (some ⟨o,0,none⟩) A2 32 c2 u h1 (by omega) h2 HC2.out okR gg;rw [lU,hV] at h;exact h)
  rw [hm,he0];clear f1 f2 f3 f4 f5 f6 f7 f8 f9 lt lbd hT hGG lG hU lU hUb hsg hRR hsz hmR okR hV hnt hnb hSB hST hm he0 CSE;go_wp2_with fail;have HC0:=HD.out.drew;clear HD
  refine qak (SlsD w g m R C1 c1 A2 c2) (fun | false=>(fun _=>True) | true=>(fun _=>True)) (fun | false,_=>false | true,_=>false)
   [fun z _=>z 0=.slice A n ca,
    fun z u=>(fun v u=>∃ o,v=.slice (some ⟨o,0,none⟩) 32 32∧Blk u o 5 (bytesV sd).toArray) (z 1) u,
    fun z _=>z 2=.agg (msgCells m C1 c1),
    fun z u=>(fun v u=>∃ A c,v=.slice A nb c∧Rd u u.heap.size A (bytesV (bodyB m))) (z 3) u,
    fun z _=>z 4=.string SB,
    fun z _=>z 5=.string ST,
    fun z u=>(fun v u=>∃ A c,v=.slice A nt c∧Rd u u.heap.size A (bytesV T)) (z 6) u,
    fun z u=>(fun v u=>∃ A c,v=.tuple #[.slice A 64 c,.int .i64 0]∧OwnX u w.heap.size 5 1 (.slice A 64 c) 64 (bytesV G)) (z 7) u,
    fun z u=>(fun v u=>∃ A c,v=.tuple #[.slice A 64 c,.int .i64 0]∧OwnX u w.heap.size 5 1 (.slice A 64 c) 64 (bytesV G)) (z 8) u,
    fun z u=>(fun v u=>∃ A c,v=.slice A 64 c∧OwnX u w.heap.size 5 1 (.slice A 64 c) 64 (bytesV G)) (z 9) u,
    fun z _=>z 10=.int .i64 0,
    fun z u=>(fun v u=>∃ A c,v=.slice A 64 c∧OwnX u w.heap.size 5 1 (.slice A 64 c) 64 (bytesV G)) (z 11) u,
    fun z _=>z 12=.int .i64 0]
   [Eq,fun u u'=>Below u.heap.size u u',Eq,fun u u'=>Below u.heap.size u u',Eq,Eq,fun u u'=>Below u.heap.size u u',fun u u'=>Below u.heap.size u u',Eq,Eq,Eq,Eq,Eq]
   (fun _ _=>false) [(0,some 42),(1,some 43),(2,some 44),(3,some 45),(4,some 46),(5,some 47),(6,some 48),(7,some 49),(8,some 41),(9,some 50),(10,some 51),(11,some 8),(12,some 9)] (by kernel_rfl) (by kernel_rfl) rfl (fun _=>rfl) ?_ ?_ ?_ ?_ ?_ ?_
  ·exact HC0
  ·intro m; cases m; exact trivial; exact trivial
  ·intro m; cases m
   ·refine ⟨?_,?_,?_,?_,?_,?_,?_,?_,?_,?_,?_,?_,?_,trivial⟩ <;> first | exact .inr fun _ _ h h0=>h▸h0 | exact .inr fun _ _ _ h=>h
   ·refine ⟨?_,?_,?_,?_,?_,?_,?_,?_,?_,?_,?_,?_,?_,trivial⟩ <;> first | exact .inr fun _ _ h h0=>h▸h0 | exact .inr fun _ _ _ h=>h
  ·refine ⟨⟨.inl rfl,?_,?_,?_,?_,?_,?_,?_,?_,?_,?_,?_,?_,trivial⟩,⟨?_,.inl rfl,?_,?_,?_,?_,.inr (.inr (.inr (fun _ _ _ _ h ⟨a,b,e,o⟩=>⟨a,b,e,qan o h⟩))),?_,?_,?_,?_,?_,?_,trivial⟩,⟨?_,?_,.inl rfl,?_,?_,?_,?_,?_,?_,?_,?_,?_,?_,trivial⟩,⟨?_,.inr (.inr (.inr (fun _ _ _ _ h ⟨o,e,k⟩=>⟨o,e,k.below h k.lt⟩))),?_,.inl rfl,?_,?_,?_,?_,?_,?_,?_,?_,?_,trivial⟩,⟨?_,?_,?_,?_,.inl rfl,?_,?_,?_,?_,?_,?_,?_,?_,trivial⟩,⟨?_,?_,?_,?_,?_,.inl rfl,?_,?_,?_,?_,?_,?_,?_,trivial⟩,⟨?_,.inr (.inr (.inr (fun _ _ _ _ h ⟨o,e,k⟩=>⟨o,e,k.below h k.lt⟩))),?_,.inr (.inr (.inr (fun _ _ _ _ h ⟨a,b,e,o⟩=>⟨a,b,e,qan o h⟩))),?_,?_,.inl rfl,?_,?_,?_,?_,?_,?_,trivial⟩,⟨?_,.inr (.inr (.inr (fun _ _ _ _ h ⟨o,e,k⟩=>⟨o,e,k.below h k.lt⟩))),?_,.inr (.inr (.inr (fun _ _ _ _ h ⟨a,b,e,o⟩=>⟨a,b,e,qan o h⟩))),?_,?_,.inr (.inr (.inr (fun _ _ _ _ h ⟨a,b,e,o⟩=>⟨a,b,e,qan o h⟩))),.inl rfl,?_,?_,?_,?_,?_,trivial⟩,⟨?_,?_,?_,?_,?_,?_,?_,?_,.inl rfl,?_,?_,?_,?_,trivial⟩,⟨?_,?_,?_,?_,?_,?_,?_,?_,?_,.inl rfl,?_,?_,?_,trivial⟩,⟨?_,?_,?_,?_,?_,?_,?_,?_,?_,?_,.inl rfl,?_,?_,trivial⟩,⟨?_,?_,?_,?_,?_,?_,?_,?_,?_,?_,?_,.inl rfl,?_,trivial⟩,⟨?_,?_,?_,?_,?_,?_,?_,?_,?_,?_,?_,?_,.inl rfl,trivial⟩,trivial⟩ <;> first | exact .inr (.inr (.inl rfl)) | exact .inr (.inr (.inr fun _ _ _ _ _ h=>h)) | exact .inr (.inr (.inr fun _ _ _ _ h h0=>by cases h; exact h0))
  ·refine ⟨?_,?_,?_,?_,?_,?_,?_,?_,?_,?_,?_,?_,?_,trivial⟩
   ·refine qaa [] (fun _=>rfl) rfl ?_;intro w1 vals hC1 hi0 hf E hE;clear hi0;clear hf;simp only [sP] at hE ⊢;go_wp2;exact .mk (hE _ _ rfl hC1 rfl)
   ·refine qaa [(0,some 42)] (fun _=>rfl) rfl ?_;intro w1 vals hC1 hi0 hf E hE;clear hi0;have f0:vals 0=_:=hf 0 rfl
    try dsimp only at f0
    clear hf;simp only [sP,f0] at hE ⊢;clear f0;go_wp2_with fail;refine qab (CSD.out _ hC1.base.below) ?_;rintro e w2 ⟨o,rfl,ho,hk,hb2⟩;go_wp2_with fail;exact .mk (hE _ _ ⟨o,rfl,hk⟩ (hC1.next hb2) hb2)
   ·refine qaa [] (fun _=>rfl) rfl ?_;intro w1 vals hC1 hi0 hf E hE;clear hi0;clear hf;simp only [sP] at hE ⊢;refine qac hC1.base.box rfl rfl rfl hu rfl qas ?_;go_wp2_with fail;exact .mk (hE _ _ rfl hC1 rfl)
   ·refine qaa [(2,some 44),(1,some 43)] (fun _=>rfl) rfl ?_;intro w1 vals hC1 hi0 hf E hE;clear hi0;have f1:(fun v u=>∃ o,v=.slice (some ⟨o,0,none⟩) 32 32∧Blk u o 5 (bytesV sd).toArray) (vals 1) w1:=hf 1 rfl;have f2:vals 2=_:=hf 2 rfl
    try dsimp only at f1 f2
    clear hf;simp only [sP,f2] at hE ⊢;clear f2;go_wp2_with fail;refine qab (rbody_any m C1 c1 w1.heap.size w1 hC1.base.rd (Nat.le_refl _) HCC.out HMM.out) ?_;rintro e w2 ⟨A3,c3,rfl,o3,hg3,-⟩;have hb2:Below w1.heap.size w1 w2:=qbb hg3 (Nat.le_refl _) (fun k hk=>by simp [Value.ownBlock] at hk);have hr3:=Rd.of_own o3 (Nat.le_refl _);rw [← HNB.out];go_wp2_with fail;exact .mk (hE _ _ ⟨A3,c3,rfl,hr3⟩ (hC1.next hb2) hb2)
   ·refine qaa [(3,some 45)] (fun _=>rfl) rfl ?_;intro w1 vals hC1 hi0 hf E hE;clear hi0;have f3:(fun v u=>∃ A c,v=.slice A nb c∧Rd u u.heap.size A (bytesV (bodyB m))) (vals 3) w1:=hf 3 rfl
    try dsimp only at f3
    clear hf;obtain ⟨A3,c3,hx3,hr3⟩:=f3;simp only [sP,hx3] at hE ⊢;clear hx3;refine qaw hr3 hub hu8 hus rfl rfl (by rw [← HNB.out]; rfl) ?_;rw [← HSB.out];go_wp2_with fail;exact .mk (hE _ _ rfl hC1 rfl)
   ·refine qaa [(4,some 46)] (fun _=>rfl) rfl ?_;intro w1 vals hC1 hi0 hf E hE;clear hi0;have f4:vals 4=_:=hf 4 rfl
    try dsimp only at f4
    clear hf;have hsz:=HSZ.out;simp only [sP,f4] at hE ⊢;clear f4;go_wp2_with fail;rw [HAB.out];exact .mk (hE _ _ rfl hC1 rfl)
   ·refine qaa [(5,some 47)] (fun _=>rfl) rfl ?_;intro w1 vals hC1 hi0 hf E hE;clear hi0;have f5:vals 5=_:=hf 5 rfl
    try dsimp only at f5
    clear hf;simp only [sP,f5] at hE ⊢;clear f5;refine qa5 (s:=ST) hus hub hu8 rfl rfl rfl ?_;intro A2 c2 w2 hr2 hc2 hb2;rw [HTB.out] at hr2;rw [HNT.out];go_wp2_with fail;exact .mk (hE _ _ ⟨A2,c2,rfl,hr2⟩ (hC1.next hb2) hb2)
   ·refine qaa [(1,some 43),(6,some 48),(3,some 45)] (fun _=>rfl) rfl ?_;intro w1 vals hC1 hi0 hf E hE;clear hi0;have f1:(fun v u=>∃ o,v=.slice (some ⟨o,0,none⟩) 32 32∧Blk u o 5 (bytesV sd).toArray) (vals 1) w1:=hf 1 rfl;have f3:(fun v u=>∃ A c,v=.slice A nb c∧Rd u u.heap.size A (bytesV (bodyB m))) (vals 3) w1:=hf 3 rfl;have f6:(fun v u=>∃ A c,v=.slice A nt c∧Rd u u.heap.size A (bytesV T)) (vals 6) w1:=hf 6 rfl
    try dsimp only at f1 f3 f6
    clear hf;obtain ⟨o,hx1,hk1⟩:=f1;obtain ⟨A6,c6,hx6,hr6⟩:=f6;simp only [sP,hx1,hx6] at hE ⊢;clear hx1 hx6;go_wp2_with fail;refine qab (CS.out _ _ _ _ (Rd.of_blk hk1 hk1.lt) hr6 (GT.out _ hC1.base.below)) ?_;rintro e w2 ⟨A7,c7,rfl,ho7,hb2⟩;go_wp2_with fail;exact .mk (hE _ _ ⟨A7,c7,rfl,ho7.x.mono hC1.base.below.size⟩ (hC1.next hb2) hb2)
   ·refine qaa [(7,some 49)] (fun _=>rfl) rfl ?_;intro w1 vals hC1 hi0 hf E hE;clear hi0;have f7:(fun v u=>∃ A c,v=.tuple #[.slice A 64 c,.int .i64 0]∧OwnX u w.heap.size 5 1 (.slice A 64 c) 64 (bytesV G)) (vals 7) w1:=hf 7 rfl
    try dsimp only at f7
    clear hf;obtain ⟨A7,c7,hx7,ho7⟩:=f7;simp only [sP,hx7] at hE ⊢;clear hx7;go_wp2_with fail;exact .mk (hE _ _ ⟨A7,c7,rfl,ho7⟩ hC1 rfl)
   ·refine qaa [(8,some 41)] (fun _=>rfl) rfl ?_;intro w1 vals hC1 hi0 hf E hE;clear hi0;have f8:(fun v u=>∃ A c,v=.tuple #[.slice A 64 c,.int .i64 0]∧OwnX u w.heap.size 5 1 (.slice A 64 c) 64 (bytesV G)) (vals 8) w1:=hf 8 rfl
    try dsimp only at f8
    clear hf;obtain ⟨A7,c7,hx8,ho7⟩:=f8;simp only [sP,hx8] at hE ⊢;clear hx8;go_wp2_with fail;exact .mk (hE _ _ ⟨A7,c7,rfl,ho7⟩ hC1 rfl)
   ·refine qaa [(8,some 41)] (fun _=>rfl) rfl ?_;intro w1 vals hC1 hi0 hf E hE;clear hi0;have f8:(fun v u=>∃ A c,v=.tuple #[.slice A 64 c,.int .i64 0]∧OwnX u w.heap.size 5 1 (.slice A 64 c) 64 (bytesV G)) (vals 8) w1:=hf 8 rfl
    try dsimp only at f8
    clear hf;obtain ⟨A7,c7,hx8,ho7⟩:=f8;simp only [sP,hx8] at hE ⊢;clear hx8;go_wp2_with fail;exact .mk (hE _ _ rfl hC1 rfl)
   ·refine qaa [(9,some 50),(7,some 49),(0,some 42),(1,some 43),(2,some 44),(3,some 45),(4,some 46),(5,some 47),(6,some 48),(7,some 49),(8,some 41),(9,some 50)] (fun _=>rfl) rfl ?_;intro w1 vals hC1 hi0 hf E hE;clear hi0;have f0:vals 0=_:=hf 0 rfl;have f1:(fun v u=>∃ o,v=.slice (some ⟨o,0,none⟩) 32 32∧Blk u o 5 (bytesV sd).toArray) (vals 1) w1:=hf 1 rfl;have f2:vals 2=_:=hf 2 rfl;have f3:(fun v u=>∃ A c,v=.slice A nb c∧Rd u u.heap.size A (bytesV (bodyB m))) (vals 3) w1:=hf 3 rfl;have f4:vals 4=_:=hf 4 rfl;have f5:vals 5=_:=hf 5 rfl;have f6:(fun v u=>∃ A c,v=.slice A nt c∧Rd u u.heap.size A (bytesV T)) (vals 6) w1:=hf 6 rfl;have f7:(fun v u=>∃ A c,v=.tuple #[.slice A 64 c,.int .i64 0]∧OwnX u w.heap.size 5 1 (.slice A 64 c) 64 (bytesV G)) (vals 7) w1:=hf 7 rfl;have f8:(fun v u=>∃ A c,v=.tuple #[.slice A 64 c,.int .i64 0]∧OwnX u w.heap.size 5 1 (.slice A 64 c) 64 (bytesV G)) (vals 8) w1:=hf 8 rfl;have f9:(fun v u=>∃ A c,v=.slice A 64 c∧OwnX u w.heap.size 5 1 (.slice A 64 c) 64 (bytesV G)) (vals 9) w1:=hf 9 rfl
    try dsimp only at f0 f1 f2 f3 f4 f5 f6 f7 f8 f9
    clear hf;obtain ⟨A7,c7,hx9,ho7⟩:=f9;simp only [sP,f0,f2,f4,f5,hx9] at hE ⊢;clear f0 f2 f4 f5;clear hx9;go_wp2_with fail;exact .mk (hE _ _ ⟨A7,c7,rfl,ho7⟩ hC1 rfl)
   ·refine qaa [(10,some 51),(11,some 8),(0,some 42),(1,some 43),(2,some 44),(3,some 45),(4,some 46),(5,some 47),(6,some 48),(7,some 49),(8,some 41),(9,some 50),(10,some 51),(11,some 8)] (fun _=>rfl) rfl ?_;intro w1 vals hC1 hi0 hf E hE;clear hi0;have f0:vals 0=_:=hf 0 rfl;have f1:(fun v u=>∃ o,v=.slice (some ⟨o,0,none⟩) 32 32∧Blk u o 5 (bytesV sd).toArray) (vals 1) w1:=hf 1 rfl;have f2:vals 2=_:=hf 2 rfl;have f3:(fun v u=>∃ A c,v=.slice A nb c∧Rd u u.heap.size A (bytesV (bodyB m))) (vals 3) w1:=hf 3 rfl;have f4:vals 4=_:=hf 4 rfl;have f5:vals 5=_:=hf 5 rfl;have f6:(fun v u=>∃ A c,v=.slice A nt c∧Rd u u.heap.size A (bytesV T)) (vals 6) w1:=hf 6 rfl;have f7:(fun v u=>∃ A c,v=.tuple #[.slice A 64 c,.int .i64 0]∧OwnX u w.heap.size 5 1 (.slice A 64 c) 64 (bytesV G)) (vals 7) w1:=hf 7 rfl;have f8:(fun v u=>∃ A c,v=.tuple #[.slice A 64 c,.int .i64 0]∧OwnX u w.heap.size 5 1 (.slice A 64 c) 64 (bytesV G)) (vals 8) w1:=hf 8 rfl;have f9:(fun v u=>∃ A c,v=.slice A 64 c∧OwnX u w.heap.size 5 1 (.slice A 64 c) 64 (bytesV G)) (vals 9) w1:=hf 9 rfl;have f10:vals 10=_:=hf 10 rfl;have f11:(fun v u=>∃ A c,v=.slice A 64 c∧OwnX u w.heap.size 5 1 (.slice A 64 c) 64 (bytesV G)) (vals 11) w1:=hf 11 rfl
    try dsimp only at f0 f1 f2 f3 f4 f5 f6 f7 f8 f9 f10 f11
    clear hf;simp only [sP,f0,f2,f4,f5,f10] at hE ⊢;clear f0 f2 f4 f5 f10;go_wp2;exact .mk (hE _ _ rfl hC1 rfl)
  intro w1 vals hC1 hf;have f0:vals 0=_:=hf 0 (by decide) rfl;have f1:(fun v u=>∃ o,v=.slice (some ⟨o,0,none⟩) 32 32∧Blk u o 5 (bytesV sd).toArray) (vals 1) w1:=hf 1 (by decide) rfl;have f2:vals 2=_:=hf 2 (by decide) rfl;have f3:(fun v u=>∃ A c,v=.slice A nb c∧Rd u u.heap.size A (bytesV (bodyB m))) (vals 3) w1:=hf 3 (by decide) rfl;have f4:vals 4=_:=hf 4 (by decide) rfl;have f5:vals 5=_:=hf 5 (by decide) rfl;have f6:(fun v u=>∃ A c,v=.slice A nt c∧Rd u u.heap.size A (bytesV T)) (vals 6) w1:=hf 6 (by decide) rfl;have f7:(fun v u=>∃ A c,v=.tuple #[.slice A 64 c,.int .i64 0]∧OwnX u w.heap.size 5 1 (.slice A 64 c) 64 (bytesV G)) (vals 7) w1:=hf 7 (by decide) rfl;have f8:(fun v u=>∃ A c,v=.tuple #[.slice A 64 c,.int .i64 0]∧OwnX u w.heap.size 5 1 (.slice A 64 c) 64 (bytesV G)) (vals 8) w1:=hf 8 (by decide) rfl;have f9:(fun v u=>∃ A c,v=.slice A 64 c∧OwnX u w.heap.size 5 1 (.slice A 64 c) 64 (bytesV G)) (vals 9) w1:=hf 9 (by decide) rfl;have f10:vals 10=_:=hf 10 (by decide) rfl;have f11:(fun v u=>∃ A c,v=.slice A 64 c∧OwnX u w.heap.size 5 1 (.slice A 64 c) 64 (bytesV G)) (vals 11) w1:=hf 11 (by decide) rfl;have f12:vals 12=_:=hf 12 (by decide) rfl
  try dsimp only at f0 f1 f2 f3 f4 f5 f6 f7 f8 f9 f10 f11 f12
  clear hf;simp only [sP,f0,f2,f4,f5,f10,f12];clear f0 f2 f4 f5 f10 f12;generalize vals 1=x1 at *;generalize vals 3=x3 at *;generalize vals 6=x6 at *;generalize vals 7=x7 at *;generalize vals 8=x8 at *;generalize vals 9=x9 at *;generalize vals 11=x11 at *;obtain ⟨AS,cS,hx11,hoS⟩:=f11;rw [hx11];have HD:=zY hC1;have HOS:=zY hoS;clear hx11 hC1 HC0 hoS f1 f3 f6 f7 f8 f9 CS;go_wp2_with fail;refine qab (CSD.out _ HD.out.base.below) ?_;rintro e w6 ⟨o6,rfl,ho6,hk6,hb6⟩;replace HD:=zY (HD.out.next hb6);replace HOS:=zY (HOS.out.below hb6 (Nat.le_refl _));have HK6:=zY hk6;clear hb6 hk6 ho6 CSD;go_wp2_with fail;refine qab (CP.out _ _ (Rd.of_blk HK6.out HK6.out.lt) (GT.out _ HD.out.base.below)) ?_;rintro e w7 ⟨o7,rfl,ho7,hk7,hb7⟩;have HON:=zY (show o7≠w.heap.size from fun h=>by have:=HD.out.base.box.lt; omega);replace HD:=zY (HD.out.next hb7);replace HOS:=zY (HOS.out.below hb7 (Nat.le_refl _));have HK7:=zY hk7;clear hb7 hk7 ho7 HK6 CP;have hbx:=HD.out.base.box
  go_wp2_with (first
   | (refine qaw (Rd.of_own HOS.out (Nat.le_refl _)) hub hu8 hus rfl rfl (by rw [← HLG.out]; rfl) ?_; rw [← HSG.out])
   | (refine qao (i:=5) (v:=.string sg) hbx rfl rfl rfl rfl (by kernel_rfl) (by simp [msgCells]) rfl ?_; intro w8 hb8 hw8; rw [HS5.out] at hb8; have HB8:=zY hb8; have HW8:=zY hw8; clear hb8 hw8; have hz2:=HW8.out.blk HD.out.box (Nat.ne_of_gt HD.out.gt); have hz1:=HB8.out)
   | (refine qac hz1 rfl rfl rfl hu rfl qas ?_)
   | (refine qac hz2 rfl rfl rfl hu rfl qas ?_))
  have HD8:=zY (show SlsD w g R R C1 c1 A2 c2 w8 from
   ⟨⟨HW8.out.below HD.out.base.below (Nat.le_refl _) HD.out.base.below.size,HB8.out,by rw [HFE.out]; exact HW8.out.own HD.out.base.own (qaD HD.out.base.own HD.out.base.box (by decide))⟩,HD.out.gt,HW8.out.blk HD.out.box (Nat.ne_of_gt HD.out.gt),HW8.out.own HD.out.own (qaD HD.out.own HD.out.base.box (by decide))⟩)
  have HK8:=zY (HW8.out.blk HK7.out HON.out);clear HB8 HW8 HD HOS HK7 hbx hz1 hz2 HON;refine qab (same12_any R R C1 A2 c1 c2 w8.heap.size w8 HD8.out.base.rd HD8.out.rd (Nat.le_refl _) HF8.out HF8.out) ?_;rintro e w9 ⟨rfl,hb9⟩;rw [sameM_self];replace HD8:=zY (HD8.out.next hb9);replace HK8:=zY (HK8.out.below hb9 HK8.out.lt);clear hb9;go_wp2_with (refine qcI (o:=⟨some 71,_,_,_,_,_⟩) rfl (qac HD8.out.box rfl rfl rfl hu rfl qas ?_));refine qab (CK.out _ _ (Rd.of_blk HK8.out HK8.out.lt) HD8.out.rd (GT.out _ HD8.out.base.below)) ?_;rintro e w10 ⟨rfl,hb10⟩;replace HD8:=zY (HD8.out.next hb10);clear hb10;go_wp2_with fail;refine qab (CL.out _) ?_;rintro e w11 ⟨rfl,hb11⟩;have HF:=zY (HD8.out.next hb11).base.below;clear hb11;go_wp2_with fail;go_ret;exact ⟨rfl,HF.out⟩
 ·have hmb:mayB m=false:=by simpa using hm
  have he0:(er:Int)=1:=by rw [HER.out,sealE,if_neg hm]; rfl
  have hRR:R=zMsg:=by rw [HR.out,sealM,if_neg hm]
  have CK2:=zY (show ∀ u C c,Rd u u.heap.size C (strsV m.fields)→m.fields.length≤c→Sh.TabG u→Calls Tryd.prog 7 #[.slice none 0 0,.agg (msgCells m C c)] u (fun e w'=>e=.returned (.int .i64 1)∧Below u.heap.size u w') from fun u C c h2 h3 gg=>by
   have h:=qci [] m (by simp) none C 0 c u (Rd.nil _ _ _) (by simp) h2 h3 HOK.out gg;rw [chkS,if_neg hm] at h;exact h)
  have HZ0:=zY (show (msgCells R A2 c2)[0]?=some (.int .i64 0) by rw [hRR]; rfl);rw [hmb,he0];clear hm hmb he0 hRR CSE CSD;have d0:=(HD.out.box.cell 0).trans HZ0.out;go_wp2_with (refine qcI (o:=⟨some 34,_,_,_,_,_⟩) rfl (qac HD.out.base.box rfl rfl rfl hu rfl qas ?_));clear d0;refine qab (CK2.out _ _ _ HD.out.base.rd HCC.out (GT.out _ HD.out.base.below)) ?_;rintro e w6 ⟨rfl,hb6⟩;replace HD:=zY (HD.out.next hb6);clear hb6;go_wp2_with fail;refine qab (CL.out _) ?_;rintro e w7 ⟨rfl,hb7⟩;have HF:=zY (HD.out.next hb7).base.below;clear hb7;go_wp2_with fail;go_ret;exact ⟨rfl,HF.out⟩
end Go.Proofs.YtjmfkinedhmglaaDoor.Wi
namespace Go.Proofs.YtjmfkinedhmglaaDoor.wireSeals
set_option linter.unusedSimpArgs false
set_option linter.unusedVariables false
open Go.ChangeShapes Go.WideShapes Go.ChangeAt Go.RowKit Go.Joins Sh Wi
set_option maxRecDepth 100000 in
theorem lifted (os:Os) (started:os.Started) (H:Type) (enc:TypeId × Value→H) :
  ReturnsInHanded {} Tryd.checked os 4 .any (fun w args=>(Rows.wireSealsSpec.pre enc Tryd.prog Tryd.f4 [] false w args∧laidMetH Tryd.prog laidL w)∧sizedMet enc Tryd.prog Tryd.f4 (OpenSpec.ofChange Rows.wireSealsSpec) false w args)
   (Rows.wireSealsSpec.post enc Tryd.prog Tryd.f4 false true false false):=by
 refine returnsInHanded_of_change_and (C:=Tryd.checked) (X:=fun w _=>laidMetH Tryd.prog laidL w) (fun _ _ _ hh h=>h.of_heap hh) own started (by kernel_rfl) Tryd.func4
  (ChangeSpec.witness_shaped (enc:=enc) (C:=Tryd.checked) (os:=os) (X:=fun w _=>laidMetH Tryd.prog laidL w) false (World.doorLaid Tryd.prog 400 os) #[.slice none 0 0,.agg #[.int .i64 0,.string .empty,.string .empty,.int .i64 0,.slice none 0 0,.string .empty]] 8 rfl (World.shaped_of_RefB (by kernel_rfl) (by kernel_rfl)) (by kernel_rfl) (by kernel_rfl) (by kernel_rfl) (door_met os _)) ?_
 intro W base args ds gs before hval0 hW _ _ hL _;have hval:∀ (j:Nat) t v,Tryd.f4.params[j]?=some t→args[j]?=some v→Value.okWide Tryd.prog W .any base t v:=hval0;have hW':=hW;obtain ⟨p,q,hA0,hV,rfl,hfz,hnd⟩:=hW;have hA:DataW.TrodAll enc Tryd.prog W 0 (fun _=>true) true Tryd.f4.params.toList args.toList ds p:=hA0;rw [Tryd.params4] at hA hval;have hG:=qcN hL;obtain ⟨v0,v1,y0,y1,p0,p1,rfl,rfl,rfl,h0,h1⟩:=trodAll_two hA;obtain ⟨rfl,rfl⟩:=trodVars_none hV;have h0k:=h0;have h1k:=h1;obtain ⟨l1,A1,c1,rfl,rm1,qm1,okm1⟩:=qbV (hval 0 22 v0 rfl rfl) h0;obtain ⟨m2,A2,c2,rfl,rm2,qm2,okm2⟩:=open_msg (hval 1 25 v1 rfl rfl) h1;clear hA0 hval0;simp only [List.append_nil] at hW';refine (wireSeals_any l1 m2 A1 A2 c1 c2 W rm1 qm1 okm1 rm2 qm2 okm2 hG).mono fun e W' ⟨he,hb⟩=>?_;subst he;have hlt:∀ x ∈ p0++p1,x.block<W.heap.size:=fun x hx=>hW'.lt x (by simpa using hx)
 exact ⟨_,rfl,qb7 (pa:=p0++p1) (pv:=[]) hW' (fun _ _ _=>trodAll_mk1 (shut_bool Tryd.underlying4 _))
  (fun sp hsp=>trodAll_mk2 (stays laidOut (by kernel_rfl) (of_decide_eq_true (by kernel_rfl)) h0k hb (fun x hx=>hlt x (List.mem_append_left _ hx)) (fun x hx=>hsp x (by simp [hx]))) (stays laidOut (by kernel_rfl) (of_decide_eq_true (by kernel_rfl)) h1k hb (fun x hx=>hlt x (List.mem_append_right _ hx)) (fun x hx=>hsp x (by simp [hx]))))
  (fun _ _=>rfl) (by simp) hb (ok_one (by kernel_rfl) rfl (okWide_bool_mk Tryd.underlying4 _))⟩
theorem row_holds:Rows.WireSealsSaid :=
 OpenClaim.holds_of_wide 4 Tryd.f4 rfl rfl rfl rfl rfl rfl rfl ⟨rfl,rfl,rfl,rfl,rfl⟩ rfl rfl rfl rfl rfl (by kernel_rfl) Tryd.func4 (by kernel_rfl)
  (of_decide_eq_true (by kernel_rfl)) (by unfold Func.isWrapper; first | (rw [if_pos (by decide +kernel)]; kernel_rfl) | (rw [if_neg (by decide +kernel)]; exact ⟨rfl,rfl⟩))
  (fun os started H enc _=>lifted os started H enc)
theorem holds:Rows.WireSealsCardSaid :=
 Claim7.holds_tied_plain_at .later [] [.data] true (true, "9af6ed4c055c7f93735f68cf44f20d2d2a2806192a3b95abb8fd58fc27c4a1c7") false
  row_holds (fun _ h=>by cases h) (by kernel_rfl) (fun _ h=>by cases h) wireSeals_row_tie rfl ⟨rfl,rfl⟩ (by kernel_rfl) rfl
  (fun f fn hf hfn=>by
   obtain rfl:f=4:=Option.some.inj ((show Tryd.prog.funcNamed "brevet/brevetlaw12.WireSeals" = some 4 by kernel_rfl).symm.trans hf) |>.symm;obtain rfl:fn=Tryd.f4:=(Option.some.inj (Tryd.func4.symm.trans hfn)).symm
   exact ⟨by kernel_rfl,fun j t ht=>by
    rw [Tryd.params4] at ht;have hm:t ∈ [22,25]:=by simpa using Array.mem_of_getElem? ht
    have hall:([22,25].all fun u=>!Tryd.prog.wantsStandIn u)=true:=by kernel_rfl
    exact (show Tryd.prog.wantsStandIn t=false by simpa using List.all_eq_true.1 hall t hm)⟩)
  (by kernel_rfl)
#print axioms holds
end Go.Proofs.YtjmfkinedhmglaaDoor.wireSeals
