/-
  Joined texts: Sqa Base Laws Box Part Region Guard Det Tail Tailb Sqz Open OpenB Words ShaM ShaX Laid Lai3 Rwz Jsp Jsr Jod Grd Conv Trm Dom Jri Jst Jso Jrr Jrt Bld Jtx Jnu.
-/
import Derived.Lib.Hide
import Derived.WalkKit
import Derived.WalkSpells
import Derived.WalkLawsBesides
import Derived.Lib.Strings
import Derived.Maps.AppendAt
import Derived.Deep.Draws
import Derived.Lib.AppendStr
import Derived.Laws.Rows
import Derived.Laws.Tables
import Derived.Lib.SmallJoins
import Derived.Laws.CopyRow
import Derived.Laws.Unary
import Derived.Laws.Bits64
import Derived.Laws.BitsLemmas
import Derived.Orders
import Derived.Test.YtlkikjeccamheaaGreatDoorRows
import Derived.ProofKit
import Derived.OpenShut
import Derived.SizedLaws
import Derived.SliceStrings
import Derived.LaidMore
import Derived.Stop.Joined
import Derived.Lay
import Derived.Test.YtlkikjeccamheaaGreatDoorProg
import Derived.Lib.OthersKept
import Derived.Lib.DecodeN
import Derived.Shelf.Abstract
import Derived.Lib.RuneCount
import Derived.Deep.LoopGhost
import Derived.Deep.QuietTactic
import Derived.BigQuiet
import Derived.Laws.BytesArg
import Derived.Laws.IdiomStrings
import Derived.Shelf.Strings.SlTrimAscii
import Derived.Deep.DeepCutAuto
import Derived.Lib.Builder
import Derived.Lib.UnsafeStr
import Derived.Laws.Externs
import Derived.Shelf.RegionOpenPlain
import Derived.Laws.Runes
namespace Go.Proofs.YtlkikjeccamheaaGreatDoor
set_option linter.unusedSimpArgs false
set_option linter.unusedVariables false
open Go.RowKit
theorem zY {p : Prop} (h : p) : Hid p := Lib.hid h
theorem eX {α : Sort _} (a : α) : ∃ x, x = a := ⟨a, rfl⟩
end Go.Proofs.YtlkikjeccamheaaGreatDoor
namespace Go.Proofs.YtlkikjeccamheaaGreatDoor
set_option linter.unusedSimpArgs false
set_option linter.unusedVariables false
set_option maxRecDepth 100000
set_option maxHeartbeats 4000000
open Go.RowKit
def byteV (b:UInt8):Value:=.int .u8 (b.toNat:Int)
def bytesV (l:List UInt8):List Value:=l.map byteV
theorem qaE (l r:List UInt8):bytesV (l++r)=bytesV l++bytesV r:=by simp [bytesV]
theorem qak (l:List UInt8):(bytesV l).length=l.length:=by simp [bytesV]
theorem ret_bool {a b:Bool} (h:a=b):Ending.returned (.bool a)=.returned (.bool b):=by rw [h]
theorem qaa {P:Program} {f:FuncId} {args:Array Value} {w:World} {R K:Ending→World→Prop} (h:Calls P f args w R) (hk:∀ e w',R e w'→K e w'):Calls P f args w K:=h.mono hk
structure SlT (P:Program) (t e:TypeId) (size bytes:Nat):Prop where
 und:P.underlying t=some (.slice e)
 info:∃ i z,P.info? e=some i∧i.zero=some z∧i.size=size∧i.bytes=bytes∧z.cells.size=size
 pos:0<size
theorem SlT.mk1 {P:Program} {t e:TypeId} {z:Value} {size bytes:Nat} (hu:P.underlying t=some (.slice e)) (h:(P.info? e).map (fun i=>(i.zero,i.size,i.bytes))=some (some z,size,bytes))
  (hz:z.cells.size=size) (hp:0<size):SlT P t e size bytes:=by
 obtain ⟨i,hi,h0,h1,h2⟩:=info_parts h;exact ⟨hu,⟨i,z,hi,h0,h1,h2,hz⟩,hp⟩
def Next (w:World) (v v':Value):Prop:=v'.ownBlock=v.ownBlock∨∀ k,v'.ownBlock=some k→w.heap.size≤k
theorem Next.refl (w:World) (v:Value):Next w v v:=.inl rfl
theorem Next.trans {w w1:World} {v v1 v2:Value} (h:Next w v v1) (h1:Next w1 v1 v2) (hs:w.heap.size≤w1.heap.size):Next w v v2:=by
 rcases h1 with h1 | h1
 ·rcases h with h | h
  ·exact .inl (h1.trans h)
  ·exact .inr fun k hk=>h k (h1▸hk)
 ·exact .inr fun k hk=>Nat.le_trans hs (h1 k hk)
theorem Next.back {w w1:World} {v v':Value} (h:Next w1 v v') (hs:w.heap.size≤w1.heap.size):Next w v v' :=
 h.imp id fun h k hk=>Nat.le_trans hs (h k hk)
theorem grown_drew {w w1:World} {r:Option Nat} (h:w.grownBy w1 r):w.grownBy w1.drew r:=⟨h.os,h.tape,h.output,h.size,h.block⟩
theorem grown_drewN {w w1:World} {r:Option Nat} (h:w.grownBy w1 r) (n:Nat):w.grownBy (w1.drewN n) r:=⟨h.os,h.tape,h.output,h.size,h.block⟩
theorem grown_alloc {w w1:World} {r:Option Nat} (h:w.grownBy w1 r) (o:Obj):w.grownBy (w1.alloc o) r :=
 h.trans (World.grownBy_alloc _ _ _)
theorem qbe {B:Nat} {w w1:World} {v:Value} (h:w.grownBy w1 v.ownBlock) (hB:B≤w.heap.size) (hv:∀ k,v.ownBlock=some k→B≤k):Below B w w1 :=
 (Below.refl B w).grown h hB hv
def OwnX (w:World) (base:Nat) (e:TypeId) (size:Nat) (v:Value) (n:Nat) (xs:List Value):Prop :=
 xs.length=n*size ∧
 ((v=.slice none 0 0∧n=0) ∨
  ∃ g cap cur fz,v=.slice (some ⟨g,0,none⟩) n cap∧base≤g∧w.heap[g]?=some (.cells cur e fz)∧n≤cap∧cap≤maxLen∧cur.size=cap*size∧cur.toList.take (n*size)=xs∧(fz=(0,0)∨cap=n))
section
variable {w w':World} {base e size n:Nat} {v:Value} {xs:List Value}
theorem OwnX.of (h:w.ownsRow base e size v n xs):OwnX w base e size v n xs:=by
 refine ⟨h.1,?_⟩
 rcases h.2 with h | ⟨g,cap,cur,h1,h2,h3,h4,h5,h6,h7⟩
 ·exact .inl h
 ·exact .inr ⟨g,cap,cur,(0,0),h1,h2,h3,h4,h5,h6,h7,.inl rfl⟩
theorem OwnX.nil (w:World) (base e size:Nat):OwnX w base e size (.slice none 0 0) 0 []:=⟨by simp,.inl ⟨rfl,rfl⟩⟩
theorem OwnX.lt (h:OwnX w base e size v n xs):∀ k,v.ownBlock=some k→base≤k∧k<w.heap.size:=by
 intro k hk
 rcases h.2 with ⟨rfl,_⟩ | ⟨g,cap,cur,fz,rfl,hb,hg,_⟩
 ·simp [Value.ownBlock] at hk
 ·simp [Value.ownBlock] at hk;subst hk;exact ⟨hb,(Array.getElem?_eq_some_iff.1 hg).1⟩
theorem OwnX.kept {row:Option Nat} (h:OwnX w base e size v n xs) (hg:w.grownBy w' row) (hne:v.ownBlock=none∨v.ownBlock≠row):OwnX w' base e size v n xs:=by
 refine ⟨h.1,?_⟩
 rcases h.2 with hn | ⟨g,cap,cur,fz,rfl,hb,hgg,rest⟩
 ·exact .inl hn
 ·refine .inr ⟨g,cap,cur,fz,rfl,hb,?_,rest⟩;rw [hg.block g (Array.getElem?_eq_some_iff.1 hgg).1 (by simpa [Value.ownBlock] using hne)];exact hgg
theorem OwnX.alloc (h:OwnX w base e size v n xs) (o:Obj):OwnX (w.alloc o) base e size v n xs :=
 h.kept (World.grownBy_alloc w o none) (by cases hv:v.ownBlock <;> simp)
theorem OwnX.below (h:OwnX w base e size v n xs) {B:Nat} (hb:Below B w w') (hB:w.heap.size≤B):OwnX w' base e size v n xs:=by
 refine ⟨h.1,?_⟩
 rcases h.2 with hn | ⟨g,cap,cur,fz,rfl,hbb,hgg,rest⟩
 ·exact .inl hn
 ·exact .inr ⟨g,cap,cur,fz,rfl,hbb,(hb.block g (Nat.lt_of_lt_of_le (Array.getElem?_eq_some_iff.1 hgg).1 hB)).trans hgg,rest⟩
theorem OwnX.le_cap {A:Option Addr} {c:Nat} (h:OwnX w base e size (.slice A n c) n xs):n≤c:=by
 rcases h.2 with ⟨_,hn⟩ | ⟨g,cap,cur,fz,hv,_,_,hnc,_⟩
 ·omega
 ·injection hv with _ _ h3; omega
theorem OwnX.mono (h:OwnX w base e size v n xs) {base':Nat} (hb:base'≤base):OwnX w base' e size v n xs :=
 ⟨h.1,h.2.elim .inl fun ⟨g,cap,cur,fz,hv,hg,r⟩=>.inr ⟨g,cap,cur,fz,hv,Nat.le_trans hb hg,r⟩⟩
theorem OwnX.cells (h:OwnX w base e size v n xs) {g:Nat} (hg:v.ownBlock=some g):∀ j u,xs[j]?=some u→w.cell? ((⟨g,0,none⟩:Addr).add j)=some u:=by
 intro j u hu
 rcases h.2 with ⟨rfl,_⟩ | ⟨g',cap,cur,fz,rfl,_,hgg,_,_,_,htake,_⟩
 ·simp [Value.ownBlock] at hg
 ·simp [Value.ownBlock] at hg;subst hg;have hadd:(⟨g',0,none⟩:Addr).add j=⟨g',j,none⟩:=by unfold Addr.add; split <;> simp_all
  rw [hadd,cell_of_row w g' j cur e fz hgg];rw [← htake,List.getElem?_take] at hu
  split at hu
  ·simpa using hu
  ·cases hu
end
theorem qa0 {w w1:World} (h:Below w.heap.size w w1) (r:Option Nat):w.grownBy w1 r:=⟨h.os,h.tape,h.output,h.size,fun k hk _=>h.block k hk⟩
def Rd (w:World) (B:Nat) (A:Option Addr) (xs:List Value):Prop:=∀ i u,xs[i]?=some u→∃ ad,A=some ad∧ad.block<B∧w.cell? (ad.add i)=some u
theorem qaq (a:Addr) (n:Nat):(a.add n).block=a.block:=by unfold Addr.add; split <;> rfl
theorem Rd.below {w w':World} {B:Nat} {A:Option Addr} {xs:List Value} (h:Rd w B A xs) (hb:Below B w w'):Rd w' B A xs:=fun i u hu=>by
 obtain ⟨ad,ha,hlt,hc⟩:=h i u hu;exact ⟨ad,ha,hlt,(hb.cell (by rw [qaq]; exact hlt)).trans hc⟩
theorem Rd.mono {w:World} {B B':Nat} {A:Option Addr} {xs:List Value} (h:Rd w B A xs) (hb:B≤B'):Rd w B' A xs:=fun i u hu=>by
 obtain ⟨ad,ha,hlt,hc⟩:=h i u hu;exact ⟨ad,ha,Nat.lt_of_lt_of_le hlt hb,hc⟩
theorem Rd.nil (w:World) (B:Nat) (A:Option Addr):Rd w B A []:=fun i u hu=>by simp at hu
theorem Rd.at_ {w:World} {B k:Nat} {A:Option Addr} {xs:List Value} (h:Rd w B A xs) (hk:k<xs.length):∃ ad,A=some ad∧ad.block<B∧w.cell? (ad.add k)=some xs[k] :=
 h k _ (List.getElem?_eq_getElem hk)
theorem Rd.of_own {w:World} {base B:Nat} {e:TypeId} {size n c:Nat} {A:Option Addr} {xs:List Value} (h:OwnX w base e size (.slice A n c) n xs) (hB:w.heap.size≤B):Rd w B A xs:=fun i u hu=>by
 rcases h.2 with ⟨hv,hn⟩ | ⟨g,cap,cur,fz,hv,hbg,hg,_⟩
 ·have:=h.1;rw [hn,Nat.zero_mul] at this;rw [List.eq_nil_of_length_eq_zero this] at hu;simp at hu
 ·have hA:A=some ⟨g,0,none⟩:=by injection hv
  subst hA;exact ⟨_,rfl,by have:=(Array.getElem?_eq_some_iff.1 hg).1; show g<B; omega,h.cells (g:=g) rfl i u hu⟩
def KeepBut (e:TypeId) (w w':World):Prop:=w.heap.size≤w'.heap.size∧∀ (k:Nat) (cs:Array Value) (t:TypeId) (fz:Nat × Nat),t≠e→w.heap[k]?=some (Obj.cells cs t fz)→w'.heap[k]?=some (Obj.cells cs t fz)
theorem qbG {w w':World} {B:Nat} {e:TypeId} {s n:Nat} {v:Value} {xs:List Value} (hown:OwnX w B e s v n xs) (hg:w.grownBy w' v.ownBlock):KeepBut e w w':=by
 refine ⟨hg.size,fun k cs t fz ht hk=>?_⟩;have hlt:k<w.heap.size:=(Array.getElem?_eq_some_iff.1 hk).1;refine (hg.block k hlt fun hb=>?_).trans hk
 rcases hown.2 with ⟨rfl,_⟩ | ⟨g,cap,cur,fz,rfl,_,hgg,_⟩
 ·simp [Value.ownBlock] at hb
 ·simp [Value.ownBlock] at hb;subst hb;rw [hgg] at hk;simp at hk;exact ht hk.2.1.symm
theorem qcq {e:TypeId} {w w':World} (h:KeepBut e w w') {k:Nat} {cs:Array Value} {t:TypeId} {fz:Nat × Nat} (ht:t≠e) (hk:w.heap[k]?=some (.cells cs t fz)):w'.heap[k]?=some (.cells cs t fz):=h.2 k cs t fz ht hk
def Alloc1 (w w':World):Prop:=∃ o,w'=w.alloc o
theorem qdz {w w':World} (h:Alloc1 w w') {k:Nat} {o:Obj} (hk:w.heap[k]?=some o):w'.heap[k]?=some o:=by
 obtain ⟨o',rfl⟩:=h;exact (Below.heap_alloc w o' k (Array.getElem?_eq_some_iff.1 hk).1).trans hk
def One (e:TypeId) (y:Value) (x:Value) (w:World):Prop:=∃ g,x=.slice (some ⟨g,0,none⟩) 1 1∧w.heap[g]?=some (.cells #[y] e (0,0))
theorem One.keep {e f:TypeId} {y x:Value} {w w':World} (h:One e y x w) (hk:KeepBut f w w') (hne:e≠f):One e y x w':=by
 obtain ⟨g,hx,hg⟩:=h; exact ⟨g,hx,qcq hk hne hg⟩
theorem One.alloc1 {e:TypeId} {y x:Value} {w w':World} (h:One e y x w) (hk:Alloc1 w w'):One e y x w':=by
 obtain ⟨g,hx,hg⟩:=h; exact ⟨g,hx,qdz hk hg⟩
theorem One.full {e:TypeId} {y x:Value} {w w':World} (h:One e y x w) (hk:Below w.heap.size w w'):One e y x w':=by
 obtain ⟨g,hx,hg⟩:=h; exact ⟨g,hx,(hk.block g (Array.getElem?_eq_some_iff.1 hg).1).trans hg⟩
theorem One.new (e:TypeId) (y:Value) (w:World):One e y (.slice (some ⟨w.heap.size,0,none⟩) 1 1) (w.alloc (.cells #[y] e)):=⟨_,rfl,heap_alloc_new w _⟩
section
variable {P:Program}
theorem qdg {w:World} {base e size n m old:Nat} {z:Value} {xs news:List Value} (hx:xs.length=n*size) (hl:news.length=m*size) (hzs:z.cells.size=size) (h63:n+m≤maxLen) (hbase:base≤w.heap.size) :
  (w.drew.alloc (.cells (xs.toArray++news.toArray++Builtin.zeroCells z.cells (grownCap w (n+m) old e - (n+m))) e)).ownsRow base e size
   (.slice (some ⟨w.heap.size,0,none⟩) (n+m) (grownCap w (n+m) old e)) (n+m) (xs++news):=by
 have hge:=grownCap_ge w (n+m) old e;have hcm:grownCap w (n+m) old e≤maxLen:=grownCap_le_maxLen w (n+m) old e h63;have hlen:(xs++news).length=(n+m)*size:=by rw [List.length_append,hx,hl,Nat.add_mul]
 refine ⟨hlen,.inr ⟨w.heap.size,_,_,rfl,hbase,heap_alloc_new w.drew _,hge,hcm,?_,?_⟩⟩
 ·simp only [Array.size_append,List.size_toArray,size_zeroCells,hzs,hx,hl,← Nat.add_mul]
  congr 1
  omega
 ·simp only [Array.toList_append,List.append_assoc];rw [← List.append_assoc,← hlen];exact List.take_left
theorem qbj (w:World) (o:Obj) (r:Option Nat):w.grownBy (w.drew.alloc o) r:=⟨rfl,rfl,rfl,by simp,fun k hk _=>Below.heap_alloc w.drew o k hk⟩
def App (w:World) (base e size:Nat) (v:Value) (n:Nat) (xs:List Value) (x:Value) (w':World):Prop :=
 OwnX w' base e size x n xs∧w.grownBy w' v.ownBlock∧Next w v x
theorem qbL {w:World} {t ty e:TypeId} {size bytes:Nat} (T:SlT P t e size bytes) {base n:Nat} {v:Value} {xs:List Value} (hown:OwnX w base e size v n xs)
  {Ad:Option Addr} {m c:Nat} {news:List Value} (hl:news.length=m*size) (hnews:∀ j u,news[j]?=some u→∃ ad,Ad=some ad∧w.cell? (ad.add j)=some u) (h1:∀ u ∈ news,u.oneCell'=true)
  (h63:n+m≤maxLen) (hbytes:(n+m)*bytes≤140737488355328) (hbase:base≤w.heap.size) :
  ∃ A c' w',(Builtin.append_ #[t,t] ty #[v,.slice Ad m c]).run P w=.ok (.slice A (n+m) c') w'∧App w base e size v (n+m) (xs++news) (.slice A (n+m) c') w':=by
 obtain ⟨i,z,hi,hz,hsz,hby,hzs⟩:=T.info
 by_cases hm:m=0
 ·subst hm;have hnn:news=[]:=List.eq_nil_of_length_eq_zero (by simpa using hl);subst hnn
  rcases hown.2 with ⟨rfl,rfl⟩ | ⟨g,cap,cur,fz,rfl,hb,hgg,hnc,rest⟩
  ·refine ⟨none,0,w,?_,by simpa using hown,World.grownBy.refl _ _,.inl rfl⟩
   cases Ad <;> simp [Builtin.append_,run_underlying T.und,sizeOf,typeInfo,hi,Builtin.lenOf,Builtin.firstCells,loadCells,loadCellsFrom]
  ·refine ⟨some ⟨g,0,none⟩,cap,w,?_,by simpa using hown,World.grownBy.refl _ _,.inl rfl⟩
   cases Ad <;> simp [Builtin.append_,run_underlying T.und,sizeOf,typeInfo,hi,Builtin.lenOf,Builtin.firstCells,loadCells,loadCellsFrom,hnc,storeCells]
 ·have hpos:0<news.length:=by rw [hl]; exact Nat.mul_pos (by omega) T.pos
  obtain ⟨ad,rfl,_⟩:=hnews 0 _ (List.getElem?_eq_getElem hpos)
  have hcells:∀ j u,news[j]?=some u→w.cell? (ad.add j)=some u:=fun j u hu=>by
   obtain ⟨ad',he,hc⟩:=hnews j u hu
   injection he with he
   subst he;exact hc
  by_cases hf:w.ownsRow base e size v n xs
  ·obtain ⟨v',w',hr,h2,h3,_,h5⟩:=run_append_own_at (P:=P) w base t ty e i z size bytes T.und hi hz hsz hby hzs T.pos v n xs hf ad m c news hl hcells h1 h63 hbytes hbase
   have hn:Next w v v':=by
    rcases h5 with h5 | h5
    ·exact .inl h5
    ·exact .inr fun k hk=>by rw [h5] at hk; simp at hk; omega
   rcases h2.2 with ⟨_,h0⟩ | ⟨g,cap,cur,rfl,_⟩
   ·omega
   ·exact ⟨_,_,w',hr,.of h2,h3,hn⟩
  ·rcases hown.2 with hnil | ⟨g,cap,cur,fz,rfl,hb,hgg,hnc,hcm,hcs,htk,hfz⟩
   ·exact absurd ⟨hown.1,.inl hnil⟩ hf
   ·rcases hfz with rfl | rfl
    ·exact absurd ⟨hown.1,.inr ⟨g,cap,cur,rfl,hb,hgg,hnc,hcm,hcs,htk⟩⟩ hf
    ·have holds:=hown.cells (g:=g) rfl;subst hsz;subst hby;have hr:=run_append_grow (P:=P) w t ty e i z T.und hi hz ⟨g,0,none⟩ cap cap xs hown.1 holds ad m c news hl hcells (by omega) (by simp only [maxLen] at h63; omega) (growslice_fits (by omega) hbytes);exact ⟨_,_,_,hr,.of (qdg hown.1 hl hzs h63 hbase),qbj _ _ _,.inr fun k hk=>by simp [Value.ownBlock] at hk; omega⟩
theorem run_append_str {w:World} {t u ty e:TypeId} (T:SlT P t e 1 1) (hz0:∃ i,P.info? e=some i∧i.zero=some (.int .u8 0)) (hu:P.underlying u=some .string)
  {base n:Nat} {v:Value} {xs:List Value} (s:ByteArray) (hown:OwnX w base e 1 v n xs) (hbytes:n+s.size≤140737488355328) (hbase:base≤w.heap.size) :
  ∃ A c w',(Builtin.append_ #[t,u] ty #[v,.string s]).run P w=.ok (.slice A (n+s.size) c) w'∧App w base e 1 v (n+s.size) (xs++Lib.strCells s) (.slice A (n+s.size) c) w':=by
 obtain ⟨i,z,hi,hz,hsz,hby,hzs⟩:=T.info;obtain ⟨i',hi',hz'⟩:=hz0;have:i=i':=by rw [hi] at hi'; exact Option.some.inj hi'
 subst this;have hsc:(Lib.strCells s).length=s.size*1:=by rw [Lib.strCells_length]; omega
 by_cases hm:s.size=0
 ·have hf:=Lib.run_firstCells_string (P:=P) w 1 s;rw [hm] at hf;have hnn:Lib.strCells s=[]:=List.eq_nil_of_length_eq_zero (by omega);rw [hm,hnn,List.append_nil,Nat.add_zero]
  rcases hown.2 with ⟨rfl,rfl⟩ | ⟨g,cap,cur,fz,rfl,hb,hgg,hnc,rest⟩
  ·refine ⟨none,0,w,?_,hown,World.grownBy.refl _ _,.inl rfl⟩;simp [Builtin.append_,run_underlying T.und,run_underlying hu,sizeOf,typeInfo,hi,hsz,Builtin.lenOf,hm,hf]
  ·refine ⟨some ⟨g,0,none⟩,cap,w,?_,hown,World.grownBy.refl _ _,.inl rfl⟩;rw [hnn] at hf;simp [Builtin.append_,run_underlying T.und,run_underlying hu,sizeOf,typeInfo,hi,hsz,Builtin.lenOf,hm,hf,hnc,storeCells]
 ·rcases hown.2 with ⟨rfl,rfl⟩ | ⟨g,cap,cur,fz,rfl,hbg,hg,hnc,hcm,hcs,htake,hfz⟩
  ·have hx:xs=[]:=List.eq_nil_of_length_eq_zero (by simpa using hown.1);subst hx;have hr:=run_append_nil_string (P:=P) w t u ty e i (.int .u8 0) T.und hu hi hz' s (by omega) (by omega) (by rw [hby]; omega)
   have e1:(s.data.map fun b=>Value.int .u8 b.toNat)=(Lib.strCells s).toArray:=by
    apply Array.ext';simp [Lib.strCells]
   rw [e1] at hr;have hg:=qdg (w:=w) (base:=base) (e:=e) (n:=0) (m:=s.size) (old:=0) (z:=.int .u8 0) (xs:=[]) (news:=Lib.strCells s) (size:=1) (by simp) hsc rfl (by unfold maxLen; omega) hbase;simp only [Nat.zero_add,List.nil_append,Array.empty_append] at hg ⊢;exact ⟨_,_,_,hr,.of hg,qbj _ _ _,.inr fun k hk=>by simp [Value.ownBlock] at hk; omega⟩
  ·by_cases hroom:n+s.size≤cap
   ·obtain rfl:fz=(0,0):=by
     rcases hfz with h | h
     ·exact h
     ·omega
    have hcs':cur.size=cap:=by simpa using hcs
    have hr:=Lib.run_append_room_string (P:=P) w t u ty e i T.und hu hi hsz g n cap cur hg s hroom (by omega);refine ⟨_,_,_,hr,.of ⟨by rw [List.length_append,hsc,hown.1,Nat.add_mul],.inr ⟨g,cap,_,rfl,hbg,setRow_heap w g cur _ e _ hg,hroom,hcm,?_,?_⟩⟩,⟨rfl,rfl,rfl,by simp,fun k _ hk=>setRow_other w g k _ (fun e=>hk (by simp [Value.ownBlock,e]))⟩,.inl rfl⟩
    ·simp only [List.size_toArray,List.length_append,List.length_take,List.length_drop,Array.length_toList,Lib.strCells_length];omega
    ·have ht':cur.toList.take n=xs:=by simpa using htake
     have hxl:xs.length=n:=by simpa using hown.1
     rw [ht',show (n+s.size)*1=(xs++Lib.strCells s).length by rw [List.length_append,Lib.strCells_length]; omega];exact List.take_left
   ·have holds:=hown.cells (g:=g) rfl;have hr:=Lib.run_append_grow_string (P:=P) w t u ty e i (.int .u8 0) T.und hu hi hz' ⟨g,0,none⟩ n cap xs (by rw [hsz]; exact hown.1) holds s (by omega) (by omega) (by rw [hby]; exact growslice_fits (by omega) (by omega));exact ⟨_,_,_,hr,.of (qdg hown.1 hsc rfl (by unfold maxLen; omega) hbase),qbj _ _ _,.inr fun k hk=>by simp [Value.ownBlock] at hk; omega⟩
theorem qaG {w:World} {ops:Array Oper} {rest:List Oper} {o:Oper} {a:Act} {Q:Exit→Act→World→Prop} {sl x:Operand} {t u:TypeId} {v y:Value} {R:Value→World→Prop}
  (hgd:o.guard=none) (ho:o.op=.call { callee:=.builtin .append,args:=#[sl,x],argTypes:=#[t,u] }) (hs:a.eval sl=v) (hx:a.eval x=y)
  (hrun:∃ v' w',(Builtin.append_ #[t,u] o.type #[v,y]).run P w=.ok v' w'∧R v' w') (h:∀ v' w',R v' w'→wpList P ops Q rest (a.put o.dst v') w') :
  wpList P ops Q (o :: rest) a w:=by
 refine wpList_plain hgd fun K hK=>?_;obtain ⟨v',w',hr,h2⟩:=hrun;unfold Oper.wp execOp;simp only [ho,resolve,invoke,builtin,Sem.run_bind,Sem.run_pure,Result.andThen_ok,List.map_toArray,List.map_cons,List.map_nil,hs,hx,hr];exact hK _ _ (h v' w' h2)
theorem qal {w0:World} {y:Value} {ops:Array Oper} {rest:List Oper} {o:Oper} {a:Act} {Q:Exit→Act→World→Prop} {s x:Operand} {t e:TypeId} {bytes:Nat} (T:SlT P t e 1 bytes)
  (hgd:o.guard=none) (ho:o.op=.call { callee:=.builtin .append,args:=#[s,x],argTypes:=#[t,t] })
  {base n:Nat} {v:Value} {xs:List Value} {ad:Nat} (hown:OwnX w0 base e 1 v n xs) (hs:a.eval s=v) (hx:a.eval x=.slice (some ⟨ad,0,none⟩) 1 1) (had:ad=w0.heap.size)
  (hy:y.oneCell'=true)
  (h63:n+1≤maxLen) (hbytes:(n+1)*bytes≤140737488355328) (hbase:base≤w0.heap.size)
  (h:∀ A c w',OwnX w' base e 1 (.slice A (n+1) c) (n+1) (xs++[y])→w0.grownBy w' v.ownBlock→Next w0 v (.slice A (n+1) c)→wpList P ops Q rest (a.put o.dst (.slice A (n+1) c)) w') :
  wpList P ops Q (o :: rest) a (w0.alloc (.cells #[y] e)):=by
 subst had
 obtain ⟨A,c,w',hr,h2,h3,h4⟩:=qbL (ty:=o.type) (c:=1) (Ad:=some ⟨w0.heap.size,0,none⟩) T (hown.alloc (.cells #[y] e)) (news:=[y]) (m:=1) rfl (fun j u hu=>⟨_,rfl,cell_one_new _ _ _ j u hu⟩)
  (by intro u hu; simp at hu; subst hu; exact hy) h63 hbytes (by simp; omega)
 refine qaG (R:=fun v' w1=>v'=.slice A (n+1) c∧w1=w') hgd ho hs hx ⟨_,_,hr,rfl,rfl⟩ ?_;rintro v' w1 ⟨rfl,rfl⟩;exact h _ _ _ h2 ((World.grownBy_alloc w0 _ _).trans h3) (h4.back (by simp))
theorem qcv {w:World} {ops:Array Oper} {rest:List Oper} {o:Oper} {a:Act} {Q:Exit→Act→World→Prop} {sl x:Operand} {t u e:TypeId} (T:SlT P t e 1 1)
  (hz:∃ i,P.info? e=some i∧i.zero=some (.int .u8 0)) (hu:P.underlying u=some .string)
  (hgd:o.guard=none) (ho:o.op=.call { callee:=.builtin .append,args:=#[sl,x],argTypes:=#[t,u] })
  {base n:Nat} {v:Value} {xs:List Value} {s:ByteArray} (hown:OwnX w base e 1 v n xs) (hs:a.eval sl=v) (hx:a.eval x=.string s)
  (hbytes:n+s.size≤140737488355328) (hbase:base≤w.heap.size)
  (h:∀ A c w',OwnX w' base e 1 (.slice A (n+s.size) c) (n+s.size) (xs++Lib.strCells s)→w.grownBy w' v.ownBlock→Next w v (.slice A (n+s.size) c)→wpList P ops Q rest (a.put o.dst (.slice A (n+s.size) c)) w') :
  wpList P ops Q (o :: rest) a w:=by
 obtain ⟨A,c,w',hr,h2,h3,h4⟩:=run_append_str (ty:=o.type) T hz hu s hown hbytes hbase;refine qaG (R:=fun v' w1=>v'=.slice A (n+s.size) c∧w1=w') hgd ho hs hx ⟨_,_,hr,rfl,rfl⟩ ?_;rintro v' w1 ⟨rfl,rfl⟩;exact h _ _ _ h2 h3 h4
theorem qaH {w:World} {ops:Array Oper} {rest:List Oper} {o:Oper} {a:Act} {Q:Exit→Act→World→Prop} {sl x:Operand} {t e:TypeId} {size bytes:Nat} (T:SlT P t e size bytes)
  (hgd:o.guard=none) (ho:o.op=.call { callee:=.builtin .append,args:=#[sl,x],argTypes:=#[t,t] })
  {base n B:Nat} {v:Value} {xs:List Value} {Ad:Option Addr} {m cx:Nat} {news:List Value} (hown:OwnX w base e size v n xs) (hs:a.eval sl=v) (hx:a.eval x=.slice Ad m cx)
  (hl:news.length=m*size) (hr:Rd w B Ad news) (h1:∀ u ∈ news,u.oneCell'=true)
  (h63:n+m≤maxLen) (hbytes:(n+m)*bytes≤140737488355328) (hbase:base≤w.heap.size)
  (h:∀ A c w',OwnX w' base e size (.slice A (n+m) c) (n+m) (xs++news)→w.grownBy w' v.ownBlock→Next w v (.slice A (n+m) c)→wpList P ops Q rest (a.put o.dst (.slice A (n+m) c)) w') :
  wpList P ops Q (o :: rest) a w:=by
 obtain ⟨A,c,w',hr,h2,h3,h4⟩:=qbL (ty:=o.type) (c:=cx) T hown hl (fun j u hu=>by
  obtain ⟨ad,h1,_,h3⟩:=hr j u hu;exact ⟨ad,h1,h3⟩) h1 h63 hbytes hbase
 refine qaG (R:=fun v' w1=>v'=.slice A (n+m) c∧w1=w') hgd ho hs hx ⟨_,_,hr,rfl,rfl⟩ ?_;rintro v' w1 ⟨rfl,rfl⟩;exact h _ _ _ h2 h3 h4
theorem own_const {w:World} {e:TypeId} {C:Array Value} {n g base:Nat} {fz:Nat × Nat} (hg:g=w.heap.size) (hn:C.size=n) (hm:n≤maxLen) (hb:base≤w.heap.size) :
  OwnX (w.alloc (.cells C e fz)) base e 1 (.slice (some ⟨g,0,none⟩) n n) n C.toList:=by
 subst hg;exact ⟨by simp [hn],.inr ⟨w.heap.size,n,C,fz,rfl,hb,heap_alloc_new w _,Nat.le_refl _,hm,by omega,by rw [Nat.mul_one,← hn,← Array.length_toList]; exact List.take_length,.inr rfl⟩⟩
end
def Blk (w:World) (g:Nat) (t:TypeId) (cs:Array Value):Prop:=w.heap[g]?=some (.cells cs t (0,0))
section
variable {w w':World} {g:Nat} {t:TypeId} {cs:Array Value}
theorem Blk.lt (h:Blk w g t cs):g<w.heap.size:=(Array.getElem?_eq_some_iff.1 h).1
theorem Blk.cell (h:Blk w g t cs) (i:Nat):w.cell? ⟨g,i,none⟩=cs[i]?:=cell_of_row w g i cs t (0,0) h
theorem Blk.free (h:Blk w g t cs) (i:Nat):w.frozen? ⟨g,i,none⟩=false:=by
 unfold Blk at h;simp [World.frozen?,h]
theorem Blk.new (w:World) (t:TypeId) (cs:Array Value):Blk (w.alloc (.cells cs t)) w.heap.size t cs:=heap_alloc_new w _
theorem Blk.alloc (h:Blk w g t cs) (o:Obj):Blk (w.alloc o) g t cs:=(Below.heap_alloc w o g h.lt).trans h
theorem Blk.below {B:Nat} (h:Blk w g t cs) (hb:Below B w w') (hg:g<B):Blk w' g t cs:=(hb.block g hg).trans h
theorem Blk.grown {row:Option Nat} (h:Blk w g t cs) (hb:w.grownBy w' row) (hg:some g≠row):Blk w' g t cs:=(hb.block g h.lt hg).trans h
theorem Blk.keep {e:TypeId} (h:Blk w g t cs) (hk:KeepBut e w w') (hne:t≠e):Blk w' g t cs:=qcq hk hne h
theorem Blk.alloc1 (h:Blk w g t cs) (hk:Alloc1 w w'):Blk w' g t cs:=qdz hk h
theorem qay {B:Nat} {e:TypeId} {s n:Nat} {v:Value} {xs:List Value} (ho:OwnX w B e s v n xs) (h:Blk w g t cs) (hne:t≠e):v.ownBlock≠some g:=by
 intro hb
 rcases ho.2 with ⟨rfl,_⟩ | ⟨g',cap,cur,fz,rfl,_,hgg,_⟩
 ·simp [Value.ownBlock] at hb
 ·simp [Value.ownBlock] at hb;subst hb;unfold Blk at h;rw [hgg] at h;simp at h;exact hne h.2.1.symm
end
theorem Rd.of_blk {w:World} {g B:Nat} {t:TypeId} {l:List Value} (h:Blk w g t l.toArray) (hB:g<B):Rd w B (some ⟨g,0,none⟩) l:=fun i u hu=>by
 refine ⟨_,rfl,hB,?_⟩;have hadd:(⟨g,0,none⟩:Addr).add i=⟨g,i,none⟩:=by unfold Addr.add; split <;> simp_all
 rw [hadd,h.cell i]
 simpa using hu
structure Wrote (g:Nat) (w w':World):Prop where
 grown:w.grownBy w' (some g)
 size:w'.heap.size=w.heap.size
theorem Wrote.below {B g:Nat} {a w w':World} (h:Wrote g w w') (hb:Below B a w) (hg:B≤g) (hB:B≤w.heap.size):Below B a w':=hb.grown h.grown hB fun k hk=>by injection hk with hk; omega
theorem Wrote.own {g:Nat} {w w':World} {B:Nat} {e:TypeId} {s n:Nat} {v:Value} {xs:List Value} (h:Wrote g w w') (ho:OwnX w B e s v n xs) (hne:v.ownBlock≠some g):OwnX w' B e s v n xs:=ho.kept h.grown (.inr hne)
theorem Wrote.blk {g g':Nat} {w w':World} {t:TypeId} {cs:Array Value} (h:Wrote g w w') (hb:Blk w g' t cs) (hne:g'≠g):Blk w' g' t cs:=hb.grown h.grown (by simpa using hne)
theorem qbH (w:World) (g:Nat) (cs:Array Value):Wrote g w (w.setRow g cs) :=
 ⟨⟨rfl,rfl,rfl,by simp,fun k _ hk=>setRow_other w g k _ (fun e=>hk (by rw [e]))⟩,by simp⟩
section
variable {P:Program}
theorem qae {w:World} {ops:Array Oper} {rest:List Oper} {o:Oper} {a:Act} {Q:Exit→Act→World→Prop} {ty:TypeId} {x y:Operand} {g:Nat} {cells old:Array Value} {t:TypeId}
  (hg:Blk w g t old) (hgd:o.guard=none) (ho:o.op=.store ty x y) (hx:a.eval x=.pointer (some ⟨g,0,none⟩)) (hy:a.eval y=.agg cells)
  (hi:(P.info? ty).map (·.size)=some cells.size) (hold:old.size=cells.size) (h1:cells.all (·.oneCell')=true)
  (h:∀ w',Blk w' g t cells→Wrote g w w'→wpList P ops Q rest (a.put o.dst undef) w'):wpList P ops Q (o :: rest) a w :=
 wpList_store_row hgd ty x y ho g cells hx hy t old hg hi hold h1 (h _ (setRow_heap w g old cells t (0,0) hg) (qbH w g cells))
theorem qad {w:World} {ops:Array Oper} {rest:List Oper} {o:Oper} {a:Act} {Q:Exit→Act→World→Prop} {ty:TypeId} {x:Operand} {g:Nat} {cs:Array Value} {t:TypeId} {d:TypeDesc}
  (hg:Blk w g t cs) (hgd:o.guard=none) (ho:o.op=.load ty x) (hx:a.eval x=.pointer (some ⟨g,0,none⟩))
  (hu:P.underlying ty=some d) (hd:(match d with | .struct _ | .array _ _=>true | _=>false)=true) (hi:(P.info? ty).map (·.size)=some cs.size)
  (h:wpList P ops Q rest (a.put o.dst (.agg cs)) w):wpList P ops Q (o :: rest) a w :=
 wpList_load_row hgd ty x ho g hx t cs (0,0) d hg hu hd hi h
theorem qau {fn:Func} {p:Tmp} {ty:TypeId} (h:fn.results=#[.cell p ty]) {tmps:Array Value} {w:World} {g:Nat} {cs:Array Value} {t:TypeId} {d:TypeDesc} (hp:tmps.getD p undef=.pointer (some ⟨g,0,none⟩))
  (hg:Blk w g t cs) (hu:P.underlying ty=some d) (hd:(match d with | .struct _ | .array _ _=>true | _=>false)=true) (hi:(P.info? ty).map (·.size)=some cs.size) :
  (results fn tmps).run P w=.ok (.agg cs) w:=by
 have hl:=run_loadVar_row (P:=P) w g t ty cs (0,0) d hg hu hd hi;have hp':tmps[p]?.getD undef=.pointer (some ⟨g,0,none⟩):=by simpa using hp
 simp only [results,h];simp [Sem.run_bind,Result.andThen,hp',asAddr,hl]
theorem qax {fn:Func} {p u:Tmp} {ty:TypeId} (h:fn.results=#[.cell p ty,.tmp u]) {tmps:Array Value} {w:World} {g:Nat} {cs:Array Value} {t:TypeId} {d:TypeDesc} (hp:tmps.getD p undef=.pointer (some ⟨g,0,none⟩))
  (hg:Blk w g t cs) (hu:P.underlying ty=some d) (hd:(match d with | .struct _ | .array _ _=>true | _=>false)=true) (hi:(P.info? ty).map (·.size)=some cs.size) :
  (results fn tmps).run P w=.ok (.tuple #[.agg cs,tmps.getD u undef]) w:=by
 have hl:=run_loadVar_row (P:=P) w g t ty cs (0,0) d hg hu hd hi;have hp':tmps[p]?.getD undef=.pointer (some ⟨g,0,none⟩):=by simpa using hp
 simp only [results,h];simp [Sem.run_bind,Result.andThen,hp',asAddr,hl]
theorem run_store_cell {w:World} {ty:TypeId} {g i:Nat} {v:Value} {cs:Array Value} {t:TypeId} (hg:Blk w g t cs) (hi:(P.info? ty).map (·.size)=some 1) (hlt:i<cs.size) (h1:v.oneCell'=true) :
  (storeVar ty ⟨g,i,none⟩ v).run P w=.ok () (w.setRow g (cs.setIfInBounds i v)):=by
 have hc1:v.cells=#[v]:=by cases v <;> first | rfl | simp [Value.oneCell'] at h1
 have hst:=run_storeCells_at P g i t [v] 0 cs w hg (by simp; omega) (by intro u hu; simp at hu; subst hu; exact h1)
 cases hq:P.info? ty with
 | none=>simp [hq] at hi
 | some j =>
  have hj:j.size=1:=by simpa [hq] using hi
  have e:(cs.toList.take (i+0)++[v]++cs.toList.drop (i+0+[v].length)).toArray=cs.setIfInBounds i v:=by
   apply Array.ext';simp only [Nat.add_zero,List.length_cons,List.length_nil,Array.toList_setIfInBounds];rw [List.set_eq_take_append_cons_drop,if_pos (by simpa using hlt)];simp
  rw [e] at hst;simp [storeVar,hc1,sizeOf,typeInfo,hq,hj,hst]
theorem qag {w:World} {ops:Array Oper} {rest:List Oper} {o:Oper} {a:Act} {Q:Exit→Act→World→Prop} {ty:TypeId} {x y:Operand} {g i:Nat} {v:Value} {cs:Array Value} {t:TypeId}
  (hg:Blk w g t cs) (hgd:o.guard=none) (ho:o.op=.store ty x y) (hx:a.eval x=.pointer (some ⟨g,i,none⟩)) (hy:a.eval y=v)
  (hi:(P.info? ty).map (·.size)=some 1) (hlt:i<cs.size) (h1:v.oneCell'=true)
  (h:∀ w',Blk w' g t (cs.setIfInBounds i v)→Wrote g w w'→wpList P ops Q rest (a.put o.dst undef) w'):wpList P ops Q (o :: rest) a w:=by
 refine wpList_plain hgd fun K hK=>?_;have hr:=run_store_cell (P:=P) (ty:=ty) hg hi hlt h1;unfold Oper.wp execOp;simp only [ho,hx,hy,Instr.storeAt,Instr.sureAddr,Sem.run_bind,Sem.run_pure,Result.andThen_ok,hr];exact hK _ _ (h _ (setRow_heap w g cs _ t (0,0) hg) (qbH w g _))
end
theorem qar {w:World} {g i:Nat} {t:TypeId} {cs:Array Value} (h:Blk w g t cs) (u:Value):Blk (w.setCell ⟨g,i,none⟩ u) g t (cs.setIfInBounds i u):=by
 unfold Blk at *;simp only [World.setCell,Array.getElem?_modify,if_pos,h];rfl
theorem qam (w:World) (g i:Nat) (u:Value):Wrote g w (w.setCell ⟨g,i,none⟩ u) :=
 ⟨⟨rfl,rfl,rfl,by simp [World.setCell],fun k _ hk=>Below.heap_setCell _ _ _ _ (by simpa using hk)⟩,by simp [World.setCell]⟩
theorem rd_drop {w:World} {B:Nat} {ad:Addr} {xs:List Value} (h:Rd w B (some ad) xs) (n:Nat):Rd w B (some (ad.add n)) (xs.drop n):=fun i u hu=>by
 rw [List.getElem?_drop] at hu;obtain ⟨ad',e,hb,hc⟩:=h _ u hu
 injection e with e
 subst e;refine ⟨_,rfl,by rw [qaq]; exact hb,?_⟩;rw [show (ad.add n).add i=ad.add (n+i) from ?_]
 ·exact hc
 ·unfold Addr.add
  by_cases h1:n=0 <;> by_cases h2:i=0 <;> simp [h1,h2,Nat.add_assoc]
theorem rd_take {w:World} {B:Nat} {A:Option Addr} {xs:List Value} (h:Rd w B A xs) (n:Nat):Rd w B A (xs.take n):=fun i u hu=>by
 rw [List.getElem?_take] at hu
 split at hu
 ·exact h i u hu
 ·simp at hu
theorem blk_src {w:World} {g:Nat} {t:TypeId} {cs:Array Value} (h:Blk w g t cs) (n:Nat):∀ j v,(cs.toList.take n)[j]?=some v→w.cell? ((⟨g,0,none⟩:Addr).add j)=some v:=fun j v hv=>by
 have hadd:(⟨g,0,none⟩:Addr).add j=⟨g,j,none⟩:=by unfold Addr.add; split <;> simp_all
 rw [hadd,h.cell];rw [List.getElem?_take] at hv
 split at hv
 ·simpa using hv
 ·cases hv
section
variable {P:Program}
theorem qcM {w:World} {g o n:Nat} {t ty:TypeId} {cs r:Array Value} {d:TypeDesc} (hg:Blk w g t cs) (ho:o+n≤cs.size) (hr:((cs.toList.drop o).take n).toArray=r)
  (hu:P.underlying ty=some d) (hd:(match d with | .struct _ | .array _ _=>true | _=>false)=true) (hi:(P.info? ty).map (·.size)=some n) :
  (loadVar ty ⟨g,o,none⟩).run P w=.ok (.agg r) w:=by
 subst hr;have hlen:((cs.toList.drop o).take n).length=n:=by simp; omega
 have hl:(loadCells ⟨g,o,none⟩ ((cs.toList.drop o).take n).length).run P w=.ok ((cs.toList.drop o).take n).toArray w :=
  run_loadCells_list (P:=P) w ⟨g,o,none⟩ ((cs.toList.drop o).take n) (fun j v hv=>by
   have hadd:(⟨g,o,none⟩:Addr).add j=⟨g,o+j,none⟩:=by unfold Addr.add; split <;> simp_all
   rw [hadd,hg.cell];rw [List.getElem?_take] at hv
   split at hv
   ·rw [List.getElem?_drop] at hv
    simpa using hv
   ·cases hv)
 rw [hlen] at hl
 cases hq:P.info? ty with
 | none=>simp [hq] at hi
 | some i =>
  have hs:i.size=n:=by simpa [hq] using hi
  have hagg:(isAgg ty).run P w=.ok true w:=by
   unfold isAgg;rw [Sem.run_bind,run_underlying hu w]
   cases d <;> simp_all
  simp [loadVar,Sem.run_bind,hagg,sizeOf,typeInfo,hq,hs,hl]
theorem qa7 {w:World} {ops:Array Oper} {rest:List Oper} {o:Oper} {a:Act} {Q:Exit→Act→World→Prop} {ty:TypeId} {x:Operand} {g k n:Nat} {cs r:Array Value} {t:TypeId} {d:TypeDesc}
  (hg:Blk w g t cs) (hk:k+n≤cs.size) (hr:((cs.toList.drop k).take n).toArray=r) (hgd:o.guard=none) (ho:o.op=.load ty x) (hx:a.eval x=.pointer (some ⟨g,k,none⟩))
  (hu:P.underlying ty=some d) (hd:(match d with | .struct _ | .array _ _=>true | _=>false)=true) (hi:(P.info? ty).map (·.size)=some n)
  (h:wpList P ops Q rest (a.put o.dst (.agg r)) w):wpList P ops Q (o :: rest) a w:=by
 refine wpList_plain hgd fun K hK=>?_;have hrun:=qcM (P:=P) hg hk hr hu hd hi;unfold Oper.wp execOp;simp only [ho,hx,Instr.loadAt,Instr.sureAddr,Sem.run_bind,Sem.run_pure,Result.andThen_ok,hrun];exact hK _ _ h
theorem qcV {w:World} {ops:Array Oper} {rest:List Oper} {o:Oper} {a:Act} {Q:Exit→Act→World→Prop} {d s:Operand} {dT sT elem t:TypeId} {g off dLen dCap sLen sCap:Nat} {ad:Addr} {cur new:Array Value} (cs:List Value)
  (hg:Blk w g t cur) (hgd:o.guard=none) (ho:o.op=.call { callee:=.builtin .copy,args:=#[d,s],argTypes:=#[dT,sT] }) (hu:P.underlying dT=some (.slice elem)) (hsz:(P.info? elem).map (·.size)=some 1)
  (hd:a.eval d=.slice (some ⟨g,off,none⟩) dLen dCap) (hs:a.eval s=.slice (some ad) sLen sCap) (hn:cs.length=Nat.min sLen dLen)
  (hsrc:∀ j v,cs[j]?=some v→w.cell? (ad.add j)=some v) (hfit:off+cs.length≤cur.size) (h1:∀ v ∈ cs,v.oneCell'=true)
  (hnew:(cur.toList.take off++cs++cur.toList.drop (off+cs.length)).toArray=new)
  (h:∀ w',Blk w' g t new→Wrote g w w'→wpList P ops Q rest (a.put o.dst (goInt cs.length)) w'):wpList P ops Q (o :: rest) a w:=by
 refine wpList_plain hgd fun K hK=>?_;have hr:=run_copy_row (P:=P) w dT sT o.type elem g off dLen dCap ad sLen sCap cur t cs hu hsz hg hn hsrc hfit h1;rw [hnew] at hr;unfold Oper.wp execOp;simp only [ho,resolve,invoke,builtin,Sem.run_bind,Sem.run_pure,Result.andThen_ok,List.map_toArray,List.map_cons,List.map_nil,hs,hd,hr];exact hK _ _ (h _ (setRow_heap w g cur _ t (0,0) hg) (qbH w g _))
theorem run_not32 {w:World} (e:Nat) (he:e<4294967296):(Op.unary .xor (.int .u32 (e:Int))).run P w=.ok (.int .u32 ((4294967295 - e:Nat):Int)) w:=by
 have h1:BitVec.ofInt 32 (4294967295:Int)=BitVec.allOnes 32:=by decide
 have h:bits .xor .u32 (4294967295:Int) (e:Int)=((4294967295 - e:Nat):Int):=by
  show IntKind.u32.wrap ((BitVec.ofInt 32 (4294967295:Int) ^^^ BitVec.ofInt 32 (e:Int)).toNat:Int)=_;rw [h1,BitVec.allOnes_xor,BitVec.toNat_not,BitVec.ofInt_natCast,BitVec.toNat_ofNat,Nat.mod_eq_of_lt he,IntKind.wrap_u32];omega
 have hm:IntKind.u32.max=4294967295:=by decide
 rw [unary_xor];simp only [IntKind.signed,hm,Bool.false_eq_true,if_false];rw [← h];rfl
theorem wpList_unary {w:World} {ops:Array Oper} {rest:List Oper} {o:Oper} {a:Act} {Q:Exit→Act→World→Prop} {u:UnOp} {ty:TypeId} {x:Operand} {v r:Value}
  (hr:(Op.unary u v).run P w=.ok r w) (hgd:o.guard=none) (ho:o.op=.unOp u ty x) (hx:a.eval x=v) (h:wpList P ops Q rest (a.put o.dst r) w):wpList P ops Q (o :: rest) a w:=by
 refine wpList_plain hgd fun K hK=>?_;unfold Oper.wp execOp;simp only [ho,hx,Sem.run_bind,Sem.run_pure,Result.andThen_ok,hr];exact hK _ _ h
theorem qbK {w:World} {t e:TypeId} {n:Nat} {cs:Array Value} {k:Nat} {v:Value} (h:P.underlying t=some (.array n e)) (hk:k<n) (hv:cs[k]?=some v) (hs:(P.info? e).map (·.size)=some 1)
  (hag:(match P.underlying e with | some (.struct _) | some (.array _ _)=>true | _=>false)=false) (hu:∃ d,P.underlying e=some d):(Instr.index t (.agg cs) (.int .i64 (k:Int))).run P w=.ok v w:=by
 obtain ⟨d,hd⟩:=hu;have h0:(0:Int)≤(k:Int)∧(k:Int)<(n:Int):=by omega
 cases hq:P.info? e with
 | none=>simp [hq] at hs
 | some j =>
  have hj:j.size=1:=by simpa [hq] using hs
  have hagg:(isAgg e).run P w=.ok false w:=by
   unfold isAgg;rw [Sem.run_bind,run_underlying hd w];rw [hd] at hag
   cases d <;> simp_all
  simp [Instr.index,run_underlying h,asIntOf,h0,sizeOf,typeInfo,hq,hj,part,hagg,hv,go_sem];intro hle;omega
end
end Go.Proofs.YtlkikjeccamheaaGreatDoor
namespace Go.Proofs.YtlkikjeccamheaaGreatDoor
set_option linter.unusedSimpArgs false
set_option linter.unusedVariables false
set_option maxRecDepth 100000
set_option maxHeartbeats 4000000
section
variable {P:Program} {ops:Array Oper}
def dstAt (ops:Array Oper) (i:Nat):Option Tmp:=(ops[i]?).bind (·.dst)
def waitsOf (ops:Array Oper) (i:Nat):List Nat :=
 match ops[i]? with
 | some o=>o.after.toList.filterMap fun e=>if Region.binds .any e then some e.on else none
 | none=>[]
def putAll (ops:Array Oper) (vals:Nat→Value):List Nat→Act→Act
 | [],a=>a
 | j :: r,a=>putAll ops vals r (a.put (dstAt ops j) (vals j))
def regionOk (ops:Array Oper):Bool :=
 (List.range ops.size).all fun i =>
  match ops[i]? with
  | none=>false
  | some o =>
   (match o.op with | .select ..=>false | _=>true) &&
   (waitsOf ops i).all (·<i) &&
   (o.looksAt ops).all (fun t=>(List.range ops.size).all fun j=>dstAt ops j != some t || (waitsOf ops i).contains j || (waitsOf ops j).contains i) &&
   (match o.guard with | some (g,_)=>(waitsOf ops i).contains g | none=>true) &&
   (List.range ops.size).all fun j=>j == i || dstAt ops i == none || dstAt ops j != dstAt ops i
def deepWaits (ops:Array Oper):Nat→Nat→List Nat
 | 0,i=>waitsOf ops i
 | f+1,i=>waitsOf ops i++(waitsOf ops i).flatMap (deepWaits ops f)
theorem qbF {ops:Array Oper} {L:Nat→Prop} (hc:∀ j,L j→∀ i ∈ waitsOf ops j,L i):∀ (f j:Nat),L j→∀ i ∈ deepWaits ops f j,L i
 | 0,j,hj,i,hi=>hc j hj i hi
 | f+1,j,hj,i,hi=>by
  rcases List.mem_append.1 hi with h | h
  ·exact hc j hj i h
  ·obtain ⟨k,hk,hik⟩:=List.mem_flatMap.1 h;exact qbF hc f k (hc j hj k hk) i hik
def availAt (ops:Array Oper) (kills:Nat→Nat→Bool) (j i:Nat):Bool :=
 (waitsOf ops i).contains j && (List.range ops.size).all fun k=>k == i || k == j || !kills k j || (deepWaits ops 5 k).contains i
def availIni (ops:Array Oper) (ik:Nat→Bool) (i:Nat):Bool :=
 (List.range ops.size).all fun k=>k == i || !ik k || (deepWaits ops 5 k).contains i
def aliveAt (ops:Array Oper) (kills:Nat→Nat→Bool) (j:Nat):Bool :=
 (List.range ops.size).all fun k=>k == j || !kills k j
theorem put_size (a:Act) (d:Option Tmp) (v:Value):(a.put d v).tmps.size=a.tmps.size:=by cases d <;> simp [Act.put]
theorem qb0 (a:Act) (d:Option Tmp) (v:Value):(a.put d v).defers=a.defers:=by cases d <;> rfl
theorem put_at (a:Act) (d:Tmp) (v:Value) (h:d<a.tmps.size):(a.put (some d) v).tmps[d]?=some v:=by simp [Act.put,h]
theorem qdf (a:Act) (d:Option Tmp) (v:Value) (t:Tmp) (h:d≠some t):(a.put d v).tmps[t]?=a.tmps[t]?:=by
 cases d with
 | none=>rfl
 | some d=>simp [Act.put,Array.getElem?_setIfInBounds_ne (show d≠t from fun e=>h (by rw [e]))]
structure OkAt (ops:Array Oper) (i:Nat) (o:Oper):Prop where
 sel:∀ cs b,o.op≠.select cs b
 before:∀ j ∈ waitsOf ops i,j<i
 look:∀ t ∈ o.looksAt ops,∀ j,dstAt ops j=some t→j ∈ waitsOf ops i∨i ∈ waitsOf ops j
 guard:∀ g b,o.guard=some (g,b)→g ∈ waitsOf ops i
 dist:∀ j,j≠i→∀ d,dstAt ops i=some d→dstAt ops j≠some d
theorem dst_lt {j:Nat} {d:Tmp} (h:dstAt ops j=some d):j<ops.size:=by
 rcases Nat.lt_or_ge j ops.size with h' | h'
 ·exact h'
 ·simp [dstAt,Array.getElem?_eq_none h'] at h
theorem okAt (hok:regionOk ops=true) {i:Nat} {o:Oper} (ho:ops[i]?=some o):OkAt ops i o:=by
 have hi:i<ops.size:=(Array.getElem?_eq_some_iff.1 ho).1;have h:=(List.all_eq_true.1 hok) i (List.mem_range.2 hi);simp only [ho,Bool.and_eq_true] at h;obtain ⟨⟨⟨⟨h1,h2⟩,h3⟩,h4⟩,h5⟩:=h;refine ⟨fun cs b e=>by simp [e] at h1,fun j hj=>by simpa using (List.all_eq_true.1 h2) j hj,fun t ht j hj=>?_,fun g b hg=>?_,fun j hj d hd=>?_⟩
 ·have:=(List.all_eq_true.1 ((List.all_eq_true.1 h3) t ht)) j (List.mem_range.2 (dst_lt hj))
  simpa [hj] using this
 ·rw [hg] at h4
  simpa using h4
 ·intro e;have:=(List.all_eq_true.1 h5) j (List.mem_range.2 (dst_lt e));simp [hj,hd,e] at this
theorem qb9 (hdist:∀ i j d,i≠j→dstAt ops i=some d→dstAt ops j≠some d) (vals:Nat→Value):∀ (l:List Nat) (a:Act),
  (putAll ops vals l a).tmps.size=a.tmps.size∧(putAll ops vals l a).defers=a.defers ∧
  (∀ j ∈ l,∀ d,dstAt ops j=some d→d<a.tmps.size→(putAll ops vals l a).tmps[d]?=some (vals j)) ∧
  (∀ t,(∀ j ∈ l,dstAt ops j≠some t)→(putAll ops vals l a).tmps[t]?=a.tmps[t]?)
 | [],a=>⟨rfl,rfl,fun j hj=>by simp at hj,fun _ _=>rfl⟩
 | j :: r,a=>by
  obtain ⟨h1,h2,h3,h4⟩:=qb9 hdist vals r (a.put (dstAt ops j) (vals j));simp only [putAll];refine ⟨h1.trans (put_size _ _ _),h2.trans (qb0 _ _ _),fun k hk d hd hlt=>?_,fun t ht=>?_⟩
  ·by_cases hkr:k ∈ r
   ·exact h3 k hkr d hd (by rw [put_size]; exact hlt)
   ·have hkj:k=j:=by
     rcases List.mem_cons.1 hk with h | h
     ·exact h
     ·exact absurd h hkr
    subst hkj;rw [h4 d (fun m hm e=>hdist k m d (fun e'=>hkr (e'▸hm)) hd e),hd];exact put_at a d _ hlt
  ·rw [h4 t (fun m hm=>ht m (List.mem_cons_of_mem _ hm))];exact qdf a _ _ t (ht j (List.mem_cons_self ..))
def upd (vals:Nat→Value) (i:Nat) (v:Value):Nat→Value:=fun k=>if k=i then v else vals k
structure RI (ops:Array Oper) (a0:Act) (C:World→Prop) (I0:Bool→World→Prop) (ik:Bool→Nat→Bool) (F:Nat→(Nat→Value)→World→Prop) (kills:Nat→Nat→Bool) (listed:Array Bool) (a:Act) (w:World) (vals:Nat→Value):Prop where
 size:listed.size=ops.size
 tsize:a.tmps.size=a0.tmps.size
 defers:a.defers=a0.defers
 done:∀ j,listed.getD j false=true→∀ d,dstAt ops j=some d→d<a0.tmps.size→a.tmps[d]?=some (vals j)
 other:∀ t,(∀ j,listed.getD j false=true→dstAt ops j≠some t)→a.tmps[t]?=a0.tmps[t]?
 closed:∀ j,listed.getD j false=true→∀ i ∈ waitsOf ops j,listed.getD i false=true
 c:C w
 ini:∀ m,(∀ k,listed.getD k false=true→ik m k=false)→I0 m w
 facts:∀ j,listed.getD j false=true→(∀ k,listed.getD k false=true→k≠j→kills k j=false)→F j vals w
theorem mem_waits {i j:Nat} {o:Oper} (ho:ops[i]?=some o):j ∈ waitsOf ops i↔∃ e ∈ o.after,Region.binds .any e=true∧e.on=j:=by
 simp [waitsOf,ho]
theorem qaZ (l:Array Bool) (i:Nat) (h:i<l.size):(l.setIfInBounds i true).getD i false=true:=by simp [h]
theorem qaP (l:Array Bool) {i j:Nat} (h:i≠j):(l.setIfInBounds i true).getD j false=l.getD j false:=by
 simp [Array.getElem?_setIfInBounds_ne h]
def StepAt (P:Program) (ops:Array Oper) (a0:Act) (C:World→Prop) (I0:Bool→World→Prop) (ik:Bool→Nat→Bool) (F:Nat→(Nat→Value)→World→Prop) (St:Nat→World→World→Prop) (kills:Nat→Nat→Bool) (i:Nat) (o:Oper):Prop :=
 ∀ (w:World) (vals:Nat→Value),C w→(∀ m,availIni ops (ik m) i=true→I0 m w)→(∀ j,availAt ops kills j i=true→F j vals w) →
  wpList P ops (fun e a' w'=>e=.normal∧∃ v,a'=(putAll ops vals (waitsOf ops i) a0).put o.dst v∧F i (upd vals i v) w'∧C w'∧St i w w') [o] (putAll ops vals (waitsOf ops i) a0) w
theorem RI.step {a0:Act} {C:World→Prop} {I0:Bool→World→Prop} {ik:Bool→Nat→Bool} {F:Nat→(Nat→Value)→World→Prop} {St:Nat→World→World→Prop} {kills:Nat→Nat→Bool} {Q:Exit→Act→World→Prop}
  (hok:regionOk ops=true) (hini:∀ m i,ik m i=false→∀ w w',St i w w'→I0 m w→I0 m w') (hpres:∀ i k,i<ops.size→i≠k→kills i k=false→(deepWaits ops 5 k).contains i=false→∀ vals v w w',St i w w'→F k vals w→F k (upd vals i v) w')
  (hstep:∀ i o,ops[i]?=some o→StepAt P ops a0 C I0 ik F St kills i o)
  {listed:Array Bool} {a:Act} {w:World} {vals:Nat→Value} (h:RI ops a0 C I0 ik F kills listed a w vals) {i:Nat} (hi:i ∈ Region.ready .any ops listed) :
  wpOp P ops Q i (fun a' w'=>∃ vals',RI ops a0 C I0 ik F kills (listed.setIfInBounds i true) a' w' vals') a w:=by
 obtain ⟨hun,o,ho,hall⟩:=mem_ready.1 hi;have hlt:i<ops.size:=(Array.getElem?_eq_some_iff.1 ho).1;have hltl:i<listed.size:=by rw [h.size]; exact hlt
 have hunf:listed.getD i false=false:=by
  simp [hltl] at hun ⊢; exact hun
 have ok:=okAt hok ho
 have hdist:∀ i j d,i≠j→dstAt ops i=some d→dstAt ops j≠some d:=fun i j d hij hd=>by
  have hil:=dst_lt hd;exact (okAt hok (Array.getElem?_eq_getElem hil)).dist j (Ne.symm hij) d hd
 have hw:∀ j ∈ waitsOf ops i,listed.getD j false=true:=fun j hj=>by
  obtain ⟨e,he,hb,rfl⟩:=(mem_waits ho).1 hj;exact hall e he hb
 obtain ⟨p1,p2,p3,p4⟩:=qb9 hdist vals (waitsOf ops i) a0
 have hlook:∀ t ∈ o.looksAt ops,a.tmps[t]?=(putAll ops vals (waitsOf ops i) a0).tmps[t]?:=by
  intro t ht
  by_cases hex:∃ j,dstAt ops j=some t
  ·obtain ⟨j,hj⟩:=hex
   rcases ok.look t ht j hj with hji | hij
   ·by_cases hts:t<a0.tmps.size
    ·rw [h.done j (hw j hji) t hj hts,p3 j hji t hj hts]
    ·rw [Array.getElem?_eq_none (by rw [h.tsize]; exact Nat.le_of_not_lt hts),Array.getElem?_eq_none (by rw [p1]; exact Nat.le_of_not_lt hts)]
   ·have hjl:¬ listed.getD j false=true:=fun hj'=>by rw [h.closed j hj' i hij] at hunf; cases hunf
    rw [h.other t (fun k hk e=>by
     have:k=j:=by
      rcases Nat.decEq k j with hne | he
      ·exact absurd e (hdist j k t (Ne.symm hne) hj)
      ·exact he
     subst this; exact hjl hk)]
    rw [p4 t (fun k hk e=>by
     have:k=j:=by
      rcases Nat.decEq k j with hne | he
      ·exact absurd e (hdist j k t (Ne.symm hne) hj)
      ·exact he
     subst this; exact hjl (hw k hk))]
  ·have hno:∀ j,dstAt ops j≠some t:=fun j e=>hex ⟨j,e⟩;rw [h.other t (fun j _=>hno j),p4 t (fun j _=>hno j)]
 have heval:∀ x ∈ o.op.operands,a.eval x=(putAll ops vals (waitsOf ops i) a0).eval x:=by
  intro x hx
  cases x with
  | tmp t =>
   have:=hlook t (List.mem_append_left _ (List.mem_filterMap.2 ⟨.tmp t,by simpa using hx,rfl⟩));simp only [Act.eval,Array.getD_eq_getD_getElem?,this]
  | _=>rfl
 have hexec:execOp a.eval o=execOp (putAll ops vals (waitsOf ops i) a0).eval o:=execOp_congr o ok.sel heval
 have hwant:Region.wanted o (yielded ops a.tmps)=Region.wanted o (yielded ops (putAll ops vals (waitsOf ops i) a0).tmps):=by
  unfold Region.wanted
  cases hg:o.guard with
  | none=>rfl
  | some gw =>
   obtain ⟨g,want⟩:=gw
   have:yielded ops a.tmps g=yielded ops (putAll ops vals (waitsOf ops i) a0).tmps g:=by
    unfold yielded
    cases ht:(ops[g]?).bind (·.dst) with
    | none=>rfl
    | some t =>
     have:=hlook t (by
      refine List.mem_append_right _ ?_;simp [hg,ht])
     simp only [Option.bind_some,this]
   simp only [this]
 have havail:∀ j,availAt ops kills j i=true→F j vals w:=by
  intro j hj;simp only [availAt,Bool.and_eq_true] at hj;obtain ⟨hj1,hj2⟩:=hj;have hjl:=hw j (by simpa using hj1);refine h.facts j hjl fun k hk hkj=>?_
  have hkl:k<ops.size:=by
   rcases Nat.lt_or_ge k ops.size with h' | h'
   ·exact h'
   ·rw [← h.size] at h'; simp [Array.getElem?_eq_none h'] at hk
  have:=(List.all_eq_true.1 hj2) k (List.mem_range.2 hkl);simp only [Bool.or_eq_true,beq_iff_eq,Bool.not_eq_true'] at this
  rcases this with ((this | this) | this) | this
  ·subst this; rw [hunf] at hk; cases hk
  ·exact absurd this hkj
  ·exact this
  ·have:=qbF (L:=fun j=>listed.getD j false=true) h.closed 5 k hk i (by simpa using this);simp only [hunf] at this; cases this
 have hini0:∀ m,availIni ops (ik m) i=true→I0 m w:=by
  intro m hj2;refine h.ini m fun k hk=>?_
  have hkl:k<ops.size:=by
   rcases Nat.lt_or_ge k ops.size with h' | h'
   ·exact h'
   ·rw [← h.size] at h'; simp [Array.getElem?_eq_none h'] at hk
  have:=(List.all_eq_true.1 hj2) k (List.mem_range.2 hkl);simp only [Bool.or_eq_true,beq_iff_eq,Bool.not_eq_true'] at this
  rcases this with (this | this) | this
  ·subst this; rw [hunf] at hk; cases hk
  ·exact this
  ·have:=qbF (L:=fun j=>listed.getD j false=true) h.closed 5 k hk i (by simpa using this);simp only [hunf] at this; cases this
 have hend:∀ (v:Value) (w':World),(∃ v',(putAll ops vals (waitsOf ops i) a0).put o.dst v=(putAll ops vals (waitsOf ops i) a0).put o.dst v'∧F i (upd vals i v') w'∧C w'∧St i w w') →
   ∃ vals',RI ops a0 C I0 ik F kills (listed.setIfInBounds i true) (a.put o.dst v) w' vals':=by
  rintro v w' ⟨v',hv,hF,hC,hSt⟩;have hdo:dstAt ops i=o.dst:=by simp [dstAt,ho]
  refine ⟨upd vals i v',⟨by simp [h.size],(put_size _ _ _).trans h.tsize,(qb0 _ _ _).trans h.defers,?_,?_,?_,hC,?_,?_⟩⟩
  ·intro j hj d hd hlt'
   by_cases hji:j=i
   ·subst hji;rw [hdo] at hd;simp only [upd,if_true];rw [hd] at hv ⊢;rw [put_at _ _ _ (by rw [h.tsize]; exact hlt')];have:=congrArg (fun a:Act=>a.tmps[d]?) hv;rw [put_at _ _ _ (by rw [p1]; exact hlt'),put_at _ _ _ (by rw [p1]; exact hlt')] at this;exact this
   ·simp only [upd,hji,if_false];rw [qaP _ (Ne.symm hji)] at hj;rw [qdf _ _ _ _ (fun e=>hdist j i d hji hd (hdo.trans e))];exact h.done j hj d hd hlt'
  ·intro t ht;rw [qdf _ _ _ _ (fun e=>ht i (qaZ _ _ hltl) (hdo.trans e))];refine h.other t fun j hj=>?_
   by_cases hji:j=i
   ·subst hji; rw [hunf] at hj; cases hj
   ·exact ht j (by rw [qaP _ (Ne.symm hji)]; exact hj)
  ·intro j hj k hk
   by_cases hki:k=i
   ·subst hki; exact qaZ _ _ hltl
   ·rw [qaP _ (Ne.symm hki)]
    by_cases hji:j=i
    ·subst hji; exact hw k hk
    ·rw [qaP _ (Ne.symm hji)] at hj;exact h.closed j hj k hk
  ·intro m hk;refine hini m i (hk i (qaZ _ _ hltl)) _ _ hSt (h.ini m fun k hk'=>hk k ?_)
   by_cases hki:k=i
   ·subst hki; exact qaZ _ _ hltl
   ·rw [qaP _ (Ne.symm hki)]; exact hk'
  ·intro j hj hk
   by_cases hji:j=i
   ·subst hji; exact hF
   ·have hj0:=hj;rw [qaP _ (Ne.symm hji)] at hj
    refine hpres i j hlt (Ne.symm hji) (hk i (qaZ _ _ hltl) (Ne.symm hji)) (by
     by_cases hc:(deepWaits ops 5 j).contains i=true
     ·have:=qbF (L:=fun j=>listed.getD j false=true) h.closed 5 j hj i (by simpa using hc);simp only [hunf] at this; cases this
     ·simpa using hc) _ _ _ _ hSt (h.facts j hj fun k hk' hkj=>?_)
    refine hk k ?_ hkj
    by_cases hki:k=i
    ·subst hki; exact qaZ _ _ hltl
    ·rw [qaP _ (Ne.symm hki)]; exact hk'
 have hs:=hstep i o ho w vals h.c hini0 havail;unfold wpOp;simp only [ho];simp only [wpList] at hs;rw [hwant]
 split
 ·rename_i hwt
  rw [if_pos hwt] at hs
  rcases hs with hs | ⟨_,a₀,w₀,hq⟩
  case inr=>exact absurd hq.1 (by simp)
  refine .inl ?_;unfold Oper.wp at *;rw [hexec];generalize (execOp (putAll ops vals (waitsOf ops i) a0).eval o).run P w=r at *
  cases r with
  | ok n w' =>
   cases n <;> simp only [Oper.upon] at hs ⊢
   case value v=>exact hend v w' hs.2
   case skip=>exact hend _ w' hs.2
   case defer d =>
    obtain ⟨_,v,hv,_⟩:=hs;have:=congrArg Act.defers hv;rw [qb0,qb0] at this;exact absurd this (by simp)
   case enter f args =>
    refine Calls.mono hs fun e w'' he=>?_
    cases e with
    | returned v=>exact hend v w'' he.2
    | panicked c=>exact absurd he.1 (by simp)
    | outgrown=>obtain ⟨_,_,hq⟩:=he; exact absurd hq.1 (by simp)
   case row row args=>exact Rows.mono hs fun v w'' he=>hend v w'' he.2
  | halt x w' =>
   cases x <;> simp only [Oper.upon] at hs ⊢
   exact absurd hs.1 (by simp)
 ·rename_i hwt
  rw [if_neg hwt] at hs;exact hend _ _ hs.2
theorem count_set {l:Array Bool} {i:Nat} (hi:i<l.size) (hf:l.getD i false=false) {n:Nat} (hn:l.toList.countP (fun b=>!b)≤n+1):(l.setIfInBounds i true).toList.countP (fun b=>!b)≤n:=by
 have hf':l.toList[i]'(by simpa using hi)=false:=by simpa [hi] using hf
 rw [Array.toList_setIfInBounds,List.countP_set (by simpa using hi)];rw [hf',if_pos (by rfl),if_neg (by simp)];omega
theorem all_listed (hok:regionOk ops=true) {listed:Array Bool} (hs:listed.size=ops.size) (hr:Region.ready .any ops listed=[]):∀ n,∀ i,i<n→i<ops.size→listed.getD i false=true:=by
 intro n
 induction n with
 | zero=>intro i h; omega
 | succ n ih =>
  intro i hin hi
  by_cases hl:listed.getD i false=true
  ·exact hl
  ·exfalso
   have ho:ops[i]?=some ops[i]:=Array.getElem?_eq_getElem hi;have ok:=okAt hok ho
   have:i ∈ Region.ready .any ops listed:=by
    refine mem_ready.2 ⟨?_,ops[i],ho,fun e he hb=>?_⟩
    ·have:i<listed.size:=by rw [hs]; exact hi
     simp [this] at hl ⊢; exact hl
    ·have hlt:=ok.before e.on ((mem_waits ho).2 ⟨e,he,hb,rfl⟩);exact ih e.on (by omega) (by omega)
   rw [hr] at this
   cases this
theorem qa6 {id:Nat} {a0:Act} {w0:World} {Q:Exit→Act→World→Prop} (C:World→Prop) (I0:Bool→World→Prop) (ik:Bool→Nat→Bool) (F:Nat→(Nat→Value)→World→Prop) (St:Nat→World→World→Prop) (kills:Nat→Nat→Bool)
  (hm:P.follows .mixedOrders=true) (hok:regionOk ops=true) (hC:C w0.drew) (hI:∀ m,I0 m w0.drew) (hini:∀ m i,ik m i=false→∀ w w',St i w w'→I0 m w→I0 m w')
  (hpres:∀ i k,i<ops.size→i≠k→kills i k=false→(deepWaits ops 5 k).contains i=false→∀ vals v w w',St i w w'→F k vals w→F k (upd vals i v) w')
  (hstep:∀ i o,ops[i]?=some o→StepAt P ops a0 C I0 ik F St kills i o)
  (hfin:∀ w vals,C w→(∀ j,j<ops.size→aliveAt ops kills j=true→F j vals w)→Q .normal (putAll ops vals (List.range ops.size) a0) w) :
  (Code.region id ops true).wp P Q a0 w0:=by
 have hdist:∀ i j d,i≠j→dstAt ops i=some d→dstAt ops j≠some d:=fun i j d hij hd=>by
  have hil:=dst_lt hd;exact (okAt hok (Array.getElem?_eq_getElem hil)).dist j (Ne.symm hij) d hd
 have final:∀ listed a w vals,RI ops a0 C I0 ik F kills listed a w vals→Region.ready .any ops listed=[]→Q .normal a w:=by
  intro listed a w vals h hr;have hall:∀ j,j<ops.size→listed.getD j false=true:=fun j hj=>all_listed hok h.size hr (j+1) j (by omega) hj;obtain ⟨p1,p2,p3,p4⟩:=qb9 hdist vals (List.range ops.size) a0
  have ha:a=putAll ops vals (List.range ops.size) a0:=by
   have ht:a.tmps=(putAll ops vals (List.range ops.size) a0).tmps:=by
    apply Array.ext_getElem?;intro t
    by_cases hex:∃ j,dstAt ops j=some t
    ·obtain ⟨j,hj⟩:=hex;have hjl:=dst_lt hj
     by_cases hts:t<a0.tmps.size
     ·rw [h.done j (hall j hjl) t hj hts,p3 j (List.mem_range.2 hjl) t hj hts]
     ·rw [Array.getElem?_eq_none (by rw [h.tsize]; exact Nat.le_of_not_lt hts),Array.getElem?_eq_none (by rw [p1]; exact Nat.le_of_not_lt hts)]
    ·have hno:∀ j,dstAt ops j≠some t:=fun j e=>hex ⟨j,e⟩;rw [h.other t (fun j _=>hno j),p4 t (fun j _=>hno j)]
   have hd:a.defers=(putAll ops vals (List.range ops.size) a0).defers:=h.defers.trans p2.symm
   cases a
   simp only at ht hd;rw [ht,hd]
  rw [ha];refine hfin w vals h.c fun j hj hal=>h.facts j (hall j hj) fun k hk hkj=>?_
  have hkl:k<ops.size:=by
   rcases Nat.lt_or_ge k ops.size with h' | h'
   ·exact h'
   ·rw [← h.size] at h'; simp [Array.getElem?_eq_none h'] at hk
  have:=(List.all_eq_true.1 hal) k (List.mem_range.2 hkl)
  simpa [hkj] using this
 refine wp_region_any hm ?_
 have key:∀ (fuel:Nat) (listed:Array Bool) (a:Act) (w:World) (vals:Nat→Value),listed.toList.countP (fun b=>!b)≤fuel→RI ops a0 C I0 ik F kills listed a w vals→wpAny P .any ops Q fuel listed a w:=by
  intro fuel
  induction fuel with
  | zero =>
   intro listed a w vals hc h
   have hr:Region.ready .any ops listed=[]:=by
    refine List.eq_nil_iff_forall_not_mem.2 fun i hi=>?_;obtain ⟨hun,o,ho,_⟩:=mem_ready.1 hi;have hlt:i<listed.size:=by rw [h.size]; exact (Array.getElem?_eq_some_iff.1 ho).1
    have h0:listed.toList.countP (fun b=>!b)=0:=by omega
    rw [List.countP_eq_zero] at h0;have:=h0 (listed[i]) (by simp);simp [hlt] at hun;simp [hun] at this
   exact ⟨hr,final listed a w vals h hr⟩
  | succ fuel ih =>
   intro listed a w vals hc h;refine ⟨fun hr=>final listed a w vals h hr,fun i hi=>?_⟩;obtain ⟨hun,o,ho,_⟩:=mem_ready.1 hi;have hlt:i<listed.size:=by rw [h.size]; exact (Array.getElem?_eq_some_iff.1 ho).1
   refine wpOp_mono (fun a' w' ⟨vals',h'⟩=>ih _ _ _ vals' (count_set hlt (by simp [hlt] at hun ⊢; exact hun) hc) h') (h.step (Q:=Q) hok hini hpres hstep hi)
 refine key _ _ _ _ (fun _=>undef) ?_ ⟨by simp,rfl,rfl,?_,?_,?_,hC,fun m _=>hI m,?_⟩
 ·have:=List.countP_le_length (p:=fun b:Bool=>!b) (l:=(Array.replicate ops.size false).toList)
  simpa using this
 ·intro j hj; simp [Array.getElem?_replicate] at hj; split at hj <;> simp at hj
 ·intro t _; rfl
 ·intro j hj; simp [Array.getElem?_replicate] at hj; split at hj <;> simp at hj
 ·intro j hj; simp [Array.getElem?_replicate] at hj; split at hj <;> simp at hj
def puts (vals:Nat→Value):List (Nat × Option Tmp)→Act→Act
 | [],a=>a
 | (j,d) :: r,a=>puts vals r (a.put d (vals j))
def GoodEnd (o:Oper) (ai:Act) (R:Value→World→Prop):Exit→Act→World→Prop:=fun e a' w'=>e=.normal∧∃ v,a'=ai.put o.dst v∧R v w'
def fct (Fs:List ((Nat→Value)→World→Prop)) (i:Nat):(Nat→Value)→World→Prop:=(Fs[i]?).getD fun _ _=>True
def stp (Sts:List (World→World→Prop)) (i:Nat):World→World→Prop:=(Sts[i]?).getD Eq
def StepsL (p:Nat→Oper→Prop):Nat→List Oper→Prop
 | _,[]=>True
 | k,o :: r=>p k o∧StepsL p (k+1) r
theorem qc3 {p:Nat→Oper→Prop}:∀ {l:List Oper} {k:Nat},StepsL p k l→∀ i o,l[i]?=some o→p (k+i) o
 | [],_,_,i,o,h=>by simp at h
 | o :: r,k,h,0,o',ho=>by simp at ho; subst ho; exact h.1
 | o :: r,k,h,i+1,o',ho=>by
  have:=qc3 h.2 i o' (by simpa using ho)
  rwa [show k+1+i=k+(i+1) by omega] at this
def Keeps (kill skip:Nat→Bool) (i:Nat) (S:World→World→Prop):Nat→List ((Nat→Value)→World→Prop)→Prop
 | _,[]=>True
 | k,F :: r=>(i=k∨kill k=true∨skip k=true∨∀ vals v w w',S w w'→F vals w→F (upd vals i v) w')∧Keeps kill skip i S (k+1) r
theorem keeps_spec {kill skip:Nat→Bool} {i:Nat} {S:World→World→Prop}:∀ {Fs:List ((Nat→Value)→World→Prop)} {k:Nat},Keeps kill skip i S k Fs →
  ∀ j,i≠k+j→kill (k+j)=false→skip (k+j)=false→∀ vals v w w',S w w'→fct Fs j vals w→fct Fs j (upd vals i v) w'
 | [],_,_,j,_,_,_,vals,v,w,w',_,hf=>trivial
 | F :: r,k,h,0,hj,hk,hs,vals,v,w,w',hS,hf=>by
  rcases h.1 with h1 | h1 | h1 | h1
  ·exact absurd h1 hj
  ·simp only [Nat.add_zero] at hk; rw [hk] at h1; cases h1
  ·simp only [Nat.add_zero] at hs; rw [hs] at h1; cases h1
  ·exact h1 vals v w w' hS hf
 | F :: r,k,h,j+1,hj,hk,hs,vals,v,w,w',hS,hf=>by
  have e:k+(j+1)=k+1+j:=by omega
  rw [e] at hj hk hs;exact keeps_spec h.2 j hj hk hs vals v w w' hS hf
def KeepsL (kills skips:Nat→Nat→Bool) (Fs:List ((Nat→Value)→World→Prop)):Nat→List (World→World→Prop)→Prop
 | _,[]=>True
 | i,S :: r=>Keeps (kills i) (skips i) i S 0 Fs∧KeepsL kills skips Fs (i+1) r
theorem qdv {kills skips:Nat→Nat→Bool} {Fs:List ((Nat→Value)→World→Prop)}:∀ {Sts:List (World→World→Prop)} {i:Nat},KeepsL kills skips Fs i Sts →
  ∀ j k,i+j≠k→kills (i+j) k=false→skips (i+j) k=false→j<Sts.length→∀ vals v w w',stp Sts j w w'→fct Fs k vals w→fct Fs k (upd vals (i+j) v) w'
 | [],i,_,j,k,_,_,_,hl,_,_,_,_,_,_=>by simp at hl
 | S :: r,i,h,0,k,hj,hk,hs,_,vals,v,w,w',hS,hf=>by
  have:=keeps_spec h.1 k (by simpa using hj) (by simpa using hk) (by simpa using hs) vals v w w' hS;exact this hf
 | S :: r,i,h,j+1,k,hj,hk,hs,hl,vals,v,w,w',hS,hf=>by
  have e:i+(j+1)=i+1+j:=by omega
  rw [e] at hj hk hs ⊢;exact qdv h.2 j k hj hk hs (by simpa using hl) vals v w w' hS hf
def IniL (ik:Nat→Bool) (I0:World→Prop):Nat→List (World→World→Prop)→Prop
 | _,[]=>True
 | i,S :: r=>(ik i=true∨∀ w w',S w w'→I0 w→I0 w')∧IniL ik I0 (i+1) r
theorem iniL_spec {ik:Nat→Bool} {I0:World→Prop}:∀ {Sts:List (World→World→Prop)} {i:Nat},IniL ik I0 i Sts→∀ j,ik (i+j)=false→∀ w w',stp Sts j w w'→I0 w→I0 w'
 | [],i,_,j,_,w,w',hS,h=>by
  have:w=w':=hS;subst this; exact h
 | S :: r,i,h,0,hj,w,w',hS,h0=>by
  rcases h.1 with h1 | h1
  ·simp only [Nat.add_zero] at hj; rw [hj] at h1; cases h1
  ·exact h1 w w' hS h0
 | S :: r,i,h,j+1,hj,w,w',hS,h0=>by
  have e:i+(j+1)=i+1+j:=by omega
  rw [e] at hj;exact iniL_spec h.2 j hj w w' hS h0
theorem qap {id:Nat} {l:List Oper} {a0:Act} {w0:World} {Q:Exit→Act→World→Prop} (C:World→Prop) (I0:Bool→World→Prop) (ik:Bool→Nat→Bool) (Fs:List ((Nat→Value)→World→Prop)) (Sts:List (World→World→Prop)) (kills:Nat→Nat→Bool) (ps:List (Nat × Option Tmp))
  (hm:P.follows .mixedOrders=true) (hok:regionOk l.toArray=true) (hlen:Sts.length=l.length) (hps:∀ vals,putAll l.toArray vals (List.range l.toArray.size) a0=puts vals ps a0) (hC:C w0.drew) (hI:∀ m,I0 m w0.drew) (hini:∀ m,IniL (ik m) (I0 m) 0 Sts)
  (hpres:KeepsL kills (fun i k=>(deepWaits l.toArray 5 k).contains i) Fs 0 Sts)
  (hstep:StepsL (StepAt P l.toArray a0 C I0 ik (fct Fs) (stp Sts) kills) 0 l)
  (hfin:∀ w vals,C w→(∀ j,j<l.toArray.size→aliveAt l.toArray kills j=true→fct Fs j vals w)→Q .normal (puts vals ps a0) w) :
  (Code.region id l.toArray true).wp P Q a0 w0 :=
 qa6 C I0 ik (fct Fs) (stp Sts) kills hm hok hC hI (fun m i hi w w' hS h=>by
   have:=iniL_spec (hini m) i (by simpa using hi) w w' hS;exact this h)
  (fun i k hil hik hk hs vals v w w' hS hf=>by
   have:=qdv hpres i k (by simpa using hik) (by simpa using hk) (by simpa using hs) (by rw [hlen]; simpa using hil) vals v w w' hS;rw [Nat.zero_add] at this;exact this hf)
  (fun i o ho=>by
   have:=qc3 hstep i o (by simpa using ho)
   simpa using this)
  (fun w vals hc hf=>by rw [hps]; exact hfin w vals hc hf)
theorem qaf (t:Array Value) (d:List Deferred) (i:Tmp) (v:Value):Act.put ⟨t,d⟩ (some i) v=⟨t.setIfInBounds i v,d⟩:=rfl
theorem qac (a:Act) (v:Value):Act.put a none v=a:=rfl
def EndOf (E:Act→World→Prop):Exit→Act→World→Prop:=fun e a w=>e=.normal∧E a w
theorem EndOf.mk {E:Act→World→Prop} {a:Act} {w:World} (h:E a w):EndOf E .normal a w:=⟨rfl,h⟩
theorem qab {a0:Act} {C:World→Prop} {I0:Bool→World→Prop} {ik:Bool→Nat→Bool} {F:Nat→(Nat→Value)→World→Prop} {St:Nat→World→World→Prop} {kills:Nat→Nat→Bool} {i:Nat} {o:Oper} (ps:List (Nat × Option Tmp))
  (hps:∀ vals,putAll ops vals (waitsOf ops i) a0=puts vals ps a0) (hg:o.guard=none)
  (h:∀ w vals,C w→(∀ m,availIni ops (ik m) i=true→I0 m w)→(∀ j,availAt ops kills j i=true→F j vals w) →
   ∀ E:Act→World→Prop,(∀ v w',F i (upd vals i v) w'→C w'→St i w w'→E ((puts vals ps a0).put o.dst v) w')→wpList P #[] (EndOf E) [o] (puts vals ps a0) w) :
  StepAt P ops a0 C I0 ik F St kills i o:=by
 intro w vals hc h0 hf;have h1:=h w vals hc h0 hf (fun a' w'=>∃ v,a'=(puts vals ps a0).put o.dst v∧F i (upd vals i v) w'∧C w'∧St i w w') fun v w' h1 h2 h3=>⟨v,rfl,h1,h2,h3⟩;rw [hps];show wpList P ops (EndOf fun a' w'=>∃ v,a'=(puts vals ps a0).put o.dst v∧F i (upd vals i v) w'∧C w'∧St i w w') [o] (puts vals ps a0) w;have hw:∀ (O:Array Oper) (t:Array Value),Region.wanted o (yielded O t)=true:=fun O t=>by simp [Region.wanted,hg]
 simp only [wpList,hw,if_true] at h1 ⊢;exact h1
theorem qaj {a0:Act} {C:World→Prop} {I0:Bool→World→Prop} {ik:Bool→Nat→Bool} {F:Nat→(Nat→Value)→World→Prop} {St:Nat→World→World→Prop} {kills:Nat→Nat→Bool} {i:Nat} {o:Oper} (ps:List (Nat × Option Tmp))
  (hps:∀ vals,putAll ops vals (waitsOf ops i) a0=puts vals ps a0) (g:Nat) (t:Tmp) (want:Bool) (hg:o.guard=some (g,want)) (hd:dstAt ops g=some t)
  (hyes:∀ w vals,C w→(∀ m,availIni ops (ik m) i=true→I0 m w)→(∀ j,availAt ops kills j i=true→F j vals w)→(puts vals ps a0).tmps[t]?=some (.bool want) →
   ∀ E:Act→World→Prop,(∀ v w',F i (upd vals i v) w'→C w'→St i w w'→E ((puts vals ps a0).put o.dst v) w')→wpList P #[] (EndOf E) [{ o with guard:=none }] (puts vals ps a0) w)
  (hno:∀ w vals,C w→(∀ m,availIni ops (ik m) i=true→I0 m w)→(∀ j,availAt ops kills j i=true→F j vals w)→(puts vals ps a0).tmps[t]?≠some (.bool want)→F i (upd vals i undef) w∧St i w w) :
  StepAt P ops a0 C I0 ik F St kills i o:=by
 intro w vals hc h0 hf;rw [hps];show wpList P ops (EndOf fun a' w'=>∃ v,a'=(puts vals ps a0).put o.dst v∧F i (upd vals i v) w'∧C w'∧St i w w') [o] (puts vals ps a0) w;have hd':(ops[g]?).bind (·.dst)=some t:=hd
 by_cases hy:(puts vals ps a0).tmps[t]?=some (.bool want)
 ·have h1:=hyes w vals hc h0 hf hy (fun a' w'=>∃ v,a'=(puts vals ps a0).put o.dst v∧F i (upd vals i v) w'∧C w'∧St i w w') fun v w' h1 h2 h3=>⟨v,rfl,h1,h2,h3⟩;have hw:Region.wanted o (yielded ops (puts vals ps a0).tmps)=true:=by simp [Region.wanted,hg,yielded,hd',hy]
  have hw':∀ (O:Array Oper) (t:Array Value),Region.wanted { o with guard:=none } (yielded O t)=true:=fun O t=>by simp [Region.wanted]
  simp only [wpList,hw,hw',if_true] at h1 ⊢;have he:∀ ρ,execOp ρ { o with guard:=none }=execOp ρ o:=fun ρ=>rfl;have ha:∀ a w,Oper.asks P { o with guard:=none } a w=Oper.asks P o a w:=fun a w=>rfl;rw [ha] at h1;exact h1
 ·obtain ⟨hF,hS⟩:=hno w vals hc h0 hf hy
  have hw:¬ Region.wanted o (yielded ops (puts vals ps a0).tmps)=true:=by
   simp only [Region.wanted,hg,yielded,hd',Option.bind_some,beq_iff_eq];intro e;apply hy
   split at e
   ·rename_i b hb; simp at e; subst e; exact hb
   ·cases e
  simp only [wpList,if_neg hw];exact ⟨rfl,undef,rfl,hF,hc,hS⟩
end
end Go.Proofs.YtlkikjeccamheaaGreatDoor
namespace Go.Proofs.YtlkikjeccamheaaGreatDoor
set_option linter.unusedSimpArgs false
set_option linter.unusedVariables false
set_option maxRecDepth 100000
set_option maxHeartbeats 4000000
open Go.RowKit
section
variable {P:Program}
theorem wpList_open {w:World} {ops:Array Oper} {rest:List Oper} {o:Oper} {a:Act} {Q:Exit→Act→World→Prop}
  (hw:Region.wanted o (yielded ops a.tmps)=true) (h:wpList P ops Q ({ o with guard:=none } :: rest) a w):wpList P ops Q (o :: rest) a w:=by
 have hw':∀ (O:Array Oper) (t:Array Value),Region.wanted { o with guard:=none } (yielded O t)=true:=fun O t=>by simp [Region.wanted]
 simp only [wpList,hw,hw',if_true] at h ⊢;have ha:∀ a w,Oper.asks P { o with guard:=none } a w=Oper.asks P o a w:=fun a w=>rfl;rw [ha] at h;exact h
end
end Go.Proofs.YtlkikjeccamheaaGreatDoor
namespace Go.Proofs.YtlkikjeccamheaaGreatDoor
set_option linter.unusedSimpArgs false
set_option linter.unusedVariables false
set_option maxRecDepth 100000
set_option maxHeartbeats 4000000
section
variable {P:Program}
theorem qaF (ops:Array Oper) (v1 v2:Nat→Value):∀ (l:List Nat) (a:Act),(∀ j ∈ l,v1 j=v2 j)→putAll ops v1 l a=putAll ops v2 l a
 | [],_,_=>rfl
 | j :: r,a,h=>by
  rw [putAll,putAll,h j (List.mem_cons_self ..)];exact qaF ops v1 v2 r _ fun k hk=>h k (List.mem_cons_of_mem _ hk)
def DetStep (P:Program) (ops:Array Oper) (C D:World→Prop) (Φ:(Nat→Value)→Prop) (i:Nat) (a0:Act) (o:Oper) (v:Value):Prop :=
 ∀ vals,Φ vals→∀ w,C w→∀ E:Act→World→Prop,(∀ w',D w'→E ((putAll ops vals (waitsOf ops i) a0).put o.dst v) w')→wpList P ops (EndOf E) [o] (putAll ops vals (waitsOf ops i) a0) w
def DetL (P:Program) (ops:Array Oper) (C D:World→Prop) (a0:Act) (K:((Nat→Value)→Prop)→Prop):Nat→List Oper→((Nat→Value)→Prop)→Prop
 | _,[],Φ=>K Φ
 | i,[o],Φ=>∃ v,DetStep P ops C D Φ i a0 o v∧K fun vals=>Φ vals∧vals i=v
 | i,o :: r :: rest,Φ=>∃ v,DetStep P ops C C Φ i a0 o v∧DetL P ops C D a0 K (i+1) (r :: rest) fun vals=>Φ vals∧vals i=v
theorem detL_all {ops:Array Oper} {C D:World→Prop} {a0:Act} {K:((Nat→Value)→Prop)→Prop}:∀ (rest:List Oper) (i:Nat) (Φ:(Nat→Value)→Prop),
  (∀ v1 v2:Nat→Value,(∀ j,j<i→v1 j=v2 j)→Φ v1→Φ v2)→(∃ vals,Φ vals)→DetL P ops C D a0 K i rest Φ →
  ∃ (vs:Nat→Value) (Ψ:(Nat→Value)→Prop),K Ψ∧Φ vs∧(∀ vals,(∀ j,j<i+rest.length→vals j=vs j)→Ψ vals) ∧
   ∀ j o,rest[j]?=some o→∀ vals w,C w→(∀ k,k<i+j→vals k=vs k)→∀ E:Act→World→Prop,(∀ w',(if j+1=rest.length then D w' else C w')→E ((putAll ops vals (waitsOf ops (i+j)) a0).put o.dst (vs (i+j))) w')→wpList P ops (EndOf E) [o] (putAll ops vals (waitsOf ops (i+j)) a0) w
 | [],i,Φ,hΦ,⟨v0,h0⟩,h=>⟨v0,Φ,h,h0,fun vals hv=>hΦ _ _ (fun j hj=>(hv j (by simpa using hj)).symm) h0,fun j o ho=>by simp at ho⟩
 | [o],i,Φ,hΦ,⟨v0,h0⟩,⟨v,h1,h2⟩=>by
  refine ⟨upd v0 i v,_,h2,hΦ v0 _ (fun j hj=>by simp [upd,Nat.ne_of_lt hj]) h0,fun vals hv=>⟨hΦ v0 _ (fun j hj=>?_) h0,?_⟩,fun j o' ho w=>?_⟩
  ·have:=hv j (by simp; omega);rw [this]; simp [upd,Nat.ne_of_lt hj]
  ·have:=hv i (by simp);rw [this]; simp [upd]
  ·cases j with
   | zero =>
    simp at ho;subst ho;intro w' hc hv;have hΦv:Φ w:=hΦ v0 _ (fun j hj=>by rw [hv j (by omega)]; simp [upd,Nat.ne_of_lt hj]) h0;intro E hE;refine h1 w hΦv w' hc E fun w'' hd=>?_;have:=hE w'' (by simpa using hd)
    simpa [upd] using this
   | succ j=>simp at ho
 | o :: r :: rest,i,Φ,hΦ,⟨v0,h0⟩,⟨v,h1,h2⟩=>by
  obtain ⟨vs,Ψ,k1,k2,k3,k4⟩:=detL_all (r :: rest) (i+1) (fun vals=>Φ vals∧vals i=v)
   (fun v1 v2 hv hp=>⟨hΦ v1 v2 (fun j hj=>hv j (by omega)) hp.1,by rw [← hv i (by omega)]; exact hp.2⟩)
   ⟨upd v0 i v,hΦ v0 _ (fun j hj=>by simp [upd,Nat.ne_of_lt hj]) h0,by simp [upd]⟩ h2
  refine ⟨vs,Ψ,k1,k2.1,fun vals hv=>k3 vals fun j hj=>hv j (by simp only [List.length_cons] at hj ⊢; omega),fun j o' ho vals w hc hv=>?_⟩
  cases j with
  | zero =>
   simp at ho;subst ho;have hΦv:Φ vals:=hΦ vs _ (fun j hj=>(hv j (by omega)).symm) k2.1;intro E hE;refine h1 vals hΦv w hc E fun w'' hd=>?_;have:¬ 0+1=(o :: r :: rest).length:=by simp
   have h4:=hE w'' (by rw [if_neg this]; exact hd);rw [Nat.add_zero,k2.2] at h4;exact h4
  | succ j =>
   have h3:=k4 j o' (by simpa using ho) vals w hc (fun k hk=>hv k (by omega));intro E hE;rw [show i+(j+1)=i+1+j by omega] at hE ⊢;refine h3 E fun w'' hd=>hE w'' ?_;have e:(j+1+1=(o :: r :: rest).length)=(j+1=(r :: rest).length):=by simp
   simp only [e];exact hd
theorem qah {id:Nat} {l:List Oper} {a0:Act} {w0:World} {Q:Exit→Act→World→Prop} (C D:World→Prop) (ps:List (Nat × Option Tmp))
  (hm:P.follows .mixedOrders=true) (hok:regionOk l.toArray=true) (hpos:0<l.length)
  (hlast:((List.range (l.length - 1)).all fun i=>(deepWaits l.toArray 5 (l.length - 1)).contains i)=true)
  (hps:∀ vals,putAll l.toArray vals (List.range l.toArray.size) a0=puts vals ps a0) (hC:C w0.drew)
  (h:DetL P l.toArray C D a0 (fun Φ=>∀ vals,Φ vals→∀ w,D w→Q .normal (puts vals ps a0) w) 0 l (fun _=>True)) :
  (Code.region id l.toArray true).wp P Q a0 w0:=by
 obtain ⟨vs,Ψ,k1,_,k3,k4⟩:=detL_all (P:=P) l 0 (fun _=>True) (fun _ _ _ h=>h) ⟨fun _=>undef,trivial⟩ h
 have hafter:∀ i,i<l.length→i≠l.length - 1→(deepWaits l.toArray 5 (l.length - 1)).contains i=true:=fun i hi hne =>
  (List.all_eq_true.1 hlast) i (List.mem_range.2 (by omega))
 refine qa6 (fun _=>True) (fun _=>C) (fun _ i=>i == l.length - 1) (fun i vals w=>vals i=vs i∧(i=l.length - 1→D w)) (fun i w w'=>if i=l.length - 1 then True else (C w→C w')) (fun _ _=>false) hm hok trivial (fun _=>hC) ?_ ?_ ?_ ?_
 ·intro _ i hi w w' hS hc;have hne:¬ i=l.length - 1:=by simpa using hi
  rw [if_neg hne] at hS;exact hS hc
 ·intro i k hi hik _ hdk vals v w w' _ hF;refine ⟨by simp [upd,Ne.symm hik,hF.1],fun hk=>?_⟩;subst hk;have:=hafter i (by simpa using hi) hik;rw [this] at hdk
  cases hdk
 ·intro i o ho w vals _ hini hav;have hil:i<l.length:=by have:=(Array.getElem?_eq_some_iff.1 ho).1; simpa using this
  have hok1:=okAt hok ho
  have hcw:C w:=hini false (by
   unfold availIni;rw [List.all_eq_true];intro k hk;have hk':k<l.length:=by simpa using hk
   by_cases hki:k=i
   ·simp [hki]
   ·by_cases hkl:k=l.length - 1
    ·have:=hafter i hil (by omega);subst hkl;simp only [this,Bool.or_true]
    ·simp [hkl])
  have hvals:∀ j ∈ waitsOf l.toArray i,vals j=vs j:=fun j hj=>by
   have h1:availAt l.toArray (fun _ _=>false) j i=true:=by
    unfold availAt;simp [hj]
   exact (hav j h1).1
  have hcon:putAll l.toArray vals (waitsOf l.toArray i) a0=putAll l.toArray vs (waitsOf l.toArray i) a0:=qaF _ _ _ _ _ hvals;have h3:=k4 i o (by simpa using ho) vs w hcw (fun _ _=>rfl);rw [Nat.zero_add] at h3;rw [hcon];refine h3 (fun a' w'=>∃ v,a'=(putAll l.toArray vs (waitsOf l.toArray i) a0).put o.dst v∧(upd vals i v i=vs i∧(i=l.length - 1→D w'))∧True∧(if i=l.length - 1 then True else (C w→C w'))) fun w' hd=>?_;refine ⟨vs i,rfl,⟨by simp [upd],fun hi=>?_⟩,trivial,?_⟩
  ·rw [if_pos (by omega)] at hd; exact hd
  ·by_cases hi:i=l.length - 1
   ·rw [if_pos hi]; trivial
   ·rw [if_neg hi];intro _;rw [if_neg (by omega)] at hd; exact hd
 ·intro w vals _ hF;rw [hps];have hal:∀ j,aliveAt l.toArray (fun _ _=>false) j=true:=fun j=>by simp [aliveAt]
  have hD:D w:=(hF (l.length - 1) (by simp; omega) (hal _)).2 rfl;exact k1 vals (k3 vals fun j hj=>(hF j (by simpa using hj) (hal _)).1) w hD
def tailP (P:Program) (ops:Array Oper) (a0:Act) (Kf:(Nat→Value)→World→Prop):Nat→List Oper→(Nat→Value)→World→Prop
 | _,[],vals,w=>Kf vals w
 | i,o :: r,vals,w=>∀ E:Act→World→Prop,(∀ v w',tailP P ops a0 Kf (i+1) r (upd vals i v) w'→E ((putAll ops vals (waitsOf ops i) a0).put o.dst v) w')→wpList P ops (EndOf E) [o] (putAll ops vals (waitsOf ops i) a0) w
def mergeV (d:Nat) (vs vals:Nat→Value):Nat→Value:=fun j=>if j<d then vs j else vals j
theorem qcy {d i:Nat} (vs vals:Nat→Value) (v:Value) (h:d≤i):mergeV d vs (upd vals i v)=upd (mergeV d vs vals) i v:=by
 funext j
 unfold mergeV upd
 by_cases h1:j=i
 ·subst h1;have:¬ j<d:=by omega
  simp [this]
 ·simp [h1]
theorem wp_region_tail {id:Nat} {l:List Oper} {a0:Act} {w0:World} {Q:Exit→Act→World→Prop} (C:World→Prop) (d:Nat) (ps:List (Nat × Option Tmp))
  (hm:P.follows .mixedOrders=true) (hok:regionOk l.toArray=true) (hd:d<l.length)
  (hlast:((List.range l.length).all fun k=>decide (k<d) || (((List.range k).all fun i=>(deepWaits l.toArray 5 k).contains i) && (k == d || (waitsOf l.toArray k).contains (k - 1))))=true)
  (hps:∀ vals,putAll l.toArray vals (List.range l.toArray.size) a0=puts vals ps a0) (hC:C w0.drew)
  (h:DetL P l.toArray C C a0 (fun Φ=>∀ vals,Φ vals→∀ w,C w→tailP P l.toArray a0 (fun vals w=>Q .normal (puts vals ps a0) w) d (l.drop d) vals w) 0 (l.take d) (fun _=>True)) :
  (Code.region id l.toArray true).wp P Q a0 w0:=by
 obtain ⟨vs,Ψ,k1,_,k3,k4⟩:=detL_all (P:=P) (l.take d) 0 (fun _=>True) (fun _ _ _ h=>h) ⟨fun _=>undef,trivial⟩ h;have htl:(l.take d).length=d:=by rw [List.length_take]; omega
 rw [htl] at k4;simp only [Nat.zero_add,htl] at k3 k4
 have hdeep:∀ k,k<l.length→d≤k→∀ i,i<k→(deepWaits l.toArray 5 k).contains i=true:=fun k hk hdk i hi=>by
  have h1:=(List.all_eq_true.1 hlast) k (List.mem_range.2 hk);simp only [Bool.or_eq_true,decide_eq_true_eq,Bool.and_eq_true] at h1
  rcases h1 with h1 | h1
  ·omega
  ·exact (List.all_eq_true.1 h1.1) i (List.mem_range.2 hi)
 have hprev:∀ k,k<l.length→d<k→(waitsOf l.toArray k).contains (k - 1)=true:=fun k hk hdk=>by
  have h1:=(List.all_eq_true.1 hlast) k (List.mem_range.2 hk);simp only [Bool.or_eq_true,decide_eq_true_eq,Bool.and_eq_true,beq_iff_eq] at h1
  rcases h1 with h1 | ⟨_,h1 | h1⟩
  ·omega
  ·omega
  ·exact h1
 let Kf:(Nat→Value)→World→Prop:=fun vals w=>Q .normal (puts vals ps a0) w
 let kills:Nat→Nat→Bool:=fun i k=>decide (d≤k) && (decide (k<i) || decide (l.length≤k))
 refine qa6 (fun _=>True) (fun _=>C) (fun _ i=>decide (d≤i))
  (fun i vals w=>if i<d then vals i=vs i else tailP P l.toArray a0 Kf (i+1) (l.drop (i+1)) (mergeV d vs vals) w)
  (fun i w w'=>if d≤i then True else (C w→C w')) kills hm hok trivial (fun _=>hC) ?_ ?_ ?_ ?_
 ·intro _ i hi w w' hS hc;have hne:¬ d≤i:=by simpa using hi
  rw [if_neg hne] at hS;exact hS hc
 ·intro i k hi hik hk hdk vals v w w' _ hF
  by_cases hkd:k<d
  ·simp only [hkd,if_true] at hF ⊢;simp [upd,Ne.symm hik,hF]
  ·exfalso
   have hki:¬ k<i:=by
    intro hlt
    have h9:kills i k=true:=by
     have a1:d≤k:=by omega
     simp [kills,a1,hlt]
    rw [h9] at hk; cases hk
   have hkl:k<l.length∨l.length≤k:=Nat.lt_or_ge _ _
   rcases hkl with hkl | hkl
   ·have:=hdeep k hkl (by omega) i (by omega);rw [this] at hdk; cases hdk
   ·have h9:kills i k=true:=by
     have a1:d≤k:=by omega
     simp [kills,a1,hkl]
    rw [h9] at hk; cases hk
 ·intro i o ho w vals _ hini hav;have hil:i<l.length:=by have:=(Array.getElem?_eq_some_iff.1 ho).1; simpa using this
  have hok1:=okAt hok ho
  by_cases hid:i<d
  ·have hcw:C w:=hini false (by
    unfold availIni;rw [List.all_eq_true];intro k hk;have hk':k<l.length:=by simpa using hk
    by_cases hki:k=i
    ·simp [hki]
    ·by_cases hkd:d≤k
     ·have:=hdeep k hk' hkd i (by omega);simp only [this,Bool.or_true]
     ·simp [hkd])
   have hvals:∀ j ∈ waitsOf l.toArray i,vals j=vs j:=fun j hj=>by
    have hji:j<d:=by
     have:=hok1.before j hj;omega
    have h1:availAt l.toArray kills j i=true:=by
     unfold availAt;simp only [kills,Bool.and_eq_true];refine ⟨by simpa using hj,?_⟩;rw [List.all_eq_true];intro k _;have:¬ d≤j:=by omega
     simp [this]
    have:=hav j h1;dsimp only at this;rw [if_pos hji] at this;exact this
   have hcon:putAll l.toArray vals (waitsOf l.toArray i) a0=putAll l.toArray vs (waitsOf l.toArray i) a0:=qaF _ _ _ _ _ hvals;have ho2:(l.take d)[i]?=some o:=by rw [List.getElem?_take,if_pos hid]; simpa using ho
   have h3:=k4 i o ho2 vs w hcw (fun _ _=>rfl);rw [hcon];refine h3 _ fun w' hd'=>?_;refine ⟨vs i,rfl,?_,trivial,?_⟩
   ·dsimp only; rw [if_pos hid]; simp [upd]
   ·have hcw':C w':=by
     by_cases he:i+1=d
     ·rw [if_pos he] at hd'; exact hd'
     ·rw [if_neg he] at hd'; exact hd'
    dsimp only;rw [if_neg (by omega)];exact fun _=>hcw'
  ·have hget:l.drop i=o :: l.drop (i+1):=by
    have h1:l[i]?=some o:=by simpa using ho
    have h2:=List.drop_eq_getElem_cons hil;rw [List.getElem?_eq_getElem hil] at h1;rw [h2,Option.some.inj h1]
   have hvals:∀ j ∈ waitsOf l.toArray i,vals j=mergeV d vs vals j:=fun j hj=>by
    unfold mergeV
    split
    ·rename_i hjd
     have h1:availAt l.toArray kills j i=true:=by
      unfold availAt;simp only [kills,Bool.and_eq_true];refine ⟨by simpa using hj,?_⟩;rw [List.all_eq_true];intro k _;have:¬ d≤j:=by omega
      simp [this]
     have:=hav j h1;dsimp only at this;rw [if_pos hjd] at this;exact this
    ·rfl
   have hcon:putAll l.toArray vals (waitsOf l.toArray i) a0=putAll l.toArray (mergeV d vs vals) (waitsOf l.toArray i) a0:=qaF _ _ _ _ _ hvals
   have htail:tailP P l.toArray a0 Kf i (l.drop i) (mergeV d vs vals) w:=by
    by_cases he:i=d
    ·subst he
     have hcw:C w:=hini false (by
      unfold availIni;rw [List.all_eq_true];intro k hk;have hk':k<l.length:=by simpa using hk
      by_cases hki:k=i
      ·simp [hki]
      ·by_cases hkd:i≤k
       ·have:=hdeep k hk' hkd i (by omega);simp only [this,Bool.or_true]
       ·simp [hkd])
     exact k1 _ (k3 _ fun j hj=>by simp [mergeV,hj]) w hcw
    ·have hav1:availAt l.toArray kills (i - 1) i=true:=by
      unfold availAt;rw [Bool.and_eq_true];refine ⟨hprev i hil (by omega),?_⟩;rw [List.all_eq_true];intro k hk;have hk':k<l.length:=by simpa using hk
      by_cases hki:k=i
      ·simp [hki]
      ·by_cases hki2:i<k
       ·have:=hdeep k hk' (by omega) i hki2;simp only [this,Bool.or_true]
       ·have:¬ i - 1<k∨k=i - 1:=by omega
        rcases this with h1 | h1
        ·have h8:¬ l.length≤i - 1:=by omega
         simp [kills,h1,h8]
        ·simp [h1]
     have:=hav (i - 1) hav1;dsimp only at this;rw [if_neg (by omega),show i - 1+1=i by omega] at this;exact this
   rw [hget] at htail;rw [hcon];refine htail _ fun v w' ht=>?_;refine ⟨v,rfl,?_,trivial,?_⟩
   ·dsimp only;rw [if_neg hid,qcy _ _ _ (by omega)];exact ht
   ·dsimp only; rw [if_pos (by omega)]; trivial
 ·intro w vals _ hF;have hn1:l.length - 1<l.length:=by omega
  have halive:aliveAt l.toArray kills (l.length - 1)=true:=by
   unfold aliveAt;rw [List.all_eq_true];intro k hk;have hk':k<l.length:=by simpa using hk
   have:¬ l.length - 1<k:=by omega
   have h8:¬ l.length≤l.length - 1:=by omega
   simp [kills,this,h8]
  have h1:=hF (l.length - 1) (by simpa using hn1) halive;rw [if_neg (by omega),show l.length - 1+1=l.length by omega,List.drop_length] at h1
  have hcon:putAll l.toArray vals (List.range l.toArray.size) a0=putAll l.toArray (mergeV d vs vals) (List.range l.toArray.size) a0:=qaF _ _ _ _ _ fun j hj=>by
   unfold mergeV
   split
   ·rename_i hjd
    have hal:aliveAt l.toArray kills j=true:=by
     unfold aliveAt;rw [List.all_eq_true];intro k _;have:¬ d≤j:=by omega
     simp [kills,this]
    have:=hF j (by simpa using (List.mem_range.1 hj)) hal;rw [if_pos hjd] at this;exact this
   ·rfl
  rw [hcon,hps];exact h1
section
variable {ops:Array Oper} {C D:World→Prop} {a0:Act} {K:((Nat→Value)→Prop)→Prop} {i:Nat} {Φ:(Nat→Value)→Prop} {o:Oper}
theorem dP {v:Value} (ps:List (Nat × Option Tmp)) (hps:∀ vals,putAll ops vals (waitsOf ops i) a0=puts vals ps a0) (hg:o.guard=none)
  (h:∀ vals,Φ vals→∀ w,C w→∀ E:Act→World→Prop,(∀ w',D w'→E ((puts vals ps a0).put o.dst v) w')→wpList P #[] (EndOf E) [o] (puts vals ps a0) w):DetStep P ops C D Φ i a0 o v:=by
 intro vals hp w hc E hE;rw [hps] at hE ⊢;have h1:=h vals hp w hc E hE;have hw:∀ (O:Array Oper) (t:Array Value),Region.wanted o (yielded O t)=true:=fun O t=>by simp [Region.wanted,hg]
 simp only [wpList,hw,if_true] at h1 ⊢;exact h1
theorem dY {v:Value} (ps:List (Nat × Option Tmp)) (hps:∀ vals,putAll ops vals (waitsOf ops i) a0=puts vals ps a0) (g:Nat) (t:Tmp) (want:Bool) (hg:o.guard=some (g,want)) (hd:dstAt ops g=some t)
  (hy:∀ vals,Φ vals→(puts vals ps a0).tmps[t]?=some (.bool want))
  (h:∀ vals,Φ vals→∀ w,C w→∀ E:Act→World→Prop,(∀ w',D w'→E ((puts vals ps a0).put o.dst v) w')→wpList P #[] (EndOf E) [{ o with guard:=none }] (puts vals ps a0) w):DetStep P ops C D Φ i a0 o v:=by
 intro vals hp w hc E hE;rw [hps] at hE ⊢;have h1:=h vals hp w hc E hE;have hd':(ops[g]?).bind (·.dst)=some t:=hd;have hw:Region.wanted o (yielded ops (puts vals ps a0).tmps)=true:=by simp [Region.wanted,hg,yielded,hd',hy vals hp]
 have hw':∀ (O:Array Oper) (t:Array Value),Region.wanted { o with guard:=none } (yielded O t)=true:=fun O t=>by simp [Region.wanted]
 simp only [wpList,hw,hw',if_true] at h1 ⊢;have ha:∀ a w,Oper.asks P { o with guard:=none } a w=Oper.asks P o a w:=fun a w=>rfl;rw [ha] at h1;exact h1
theorem detStep_no (ps:List (Nat × Option Tmp)) (hps:∀ vals,putAll ops vals (waitsOf ops i) a0=puts vals ps a0) (g:Nat) (t:Tmp) (want:Bool) (hg:o.guard=some (g,want)) (hd:dstAt ops g=some t)
  (hy:∀ vals,Φ vals→(puts vals ps a0).tmps[t]?=some (.bool !want)) (hCD:∀ w,C w→D w):DetStep P ops C D Φ i a0 o undef:=by
 intro vals hp w hc E hE;rw [hps] at hE ⊢;have hd':(ops[g]?).bind (·.dst)=some t:=hd
 have hw:¬ Region.wanted o (yielded ops (puts vals ps a0).tmps)=true:=by
  simp [Region.wanted,hg,yielded,hd',hy vals hp]
 simp only [wpList,if_neg hw];exact ⟨rfl,hE w (hCD w hc)⟩
theorem qbn {Kf:(Nat→Value)→World→Prop} {r:List Oper} {vals:Nat→Value} {w:World} (ps:List (Nat × Option Tmp)) (hps:∀ vals,putAll ops vals (waitsOf ops i) a0=puts vals ps a0) (hg:o.guard=none)
  (h:∀ E:Act→World→Prop,(∀ v w',tailP P ops a0 Kf (i+1) r (upd vals i v) w'→E ((puts vals ps a0).put o.dst v) w')→wpList P #[] (EndOf E) [o] (puts vals ps a0) w):tailP P ops a0 Kf i (o :: r) vals w:=by
 intro E hE;rw [hps] at hE ⊢;have h1:=h E hE;have hw:∀ (O:Array Oper) (t:Array Value),Region.wanted o (yielded O t)=true:=fun O t=>by simp [Region.wanted,hg]
 simp only [wpList,hw,if_true] at h1 ⊢;exact h1
theorem tail_end {Kf:(Nat→Value)→World→Prop} {vals:Nat→Value} {w:World} (h:Kf vals w):tailP P ops a0 Kf i [] vals w:=h
theorem qaM (vals:Nat→Value) (i:Nat) (v:Value):upd vals i v i=v:=if_pos rfl
theorem upd_ne {vals:Nat→Value} {i j:Nat} {v:Value} (h:j≠i):upd vals i v j=vals j:=if_neg h
theorem yN_ {v:Value} {r:Oper} {rest:List Oper} (hs:DetStep P ops C C Φ i a0 o v) (h:DetL P ops C D a0 K (i+1) (r :: rest) fun vals=>Φ vals∧vals i=v):DetL P ops C D a0 K i (o :: r :: rest) Φ:=⟨v,hs,h⟩
theorem yL_ {v:Value} (hs:DetStep P ops C D Φ i a0 o v) (h:K fun vals=>Φ vals∧vals i=v):DetL P ops C D a0 K i [o] Φ:=⟨v,hs,h⟩
end
end
section
variable {P:Program}
def DetStepQ (P:Program) (ops:Array Oper) (C:World→Prop) (p:Bool) (Φ:(Nat→Value)→Prop) (i:Nat) (a0:Act) (o:Oper) (v:Value):Prop :=
 ∀ vals,Φ vals→∀ w,(p=false→C w)→∀ E:Act→World→Prop,(∀ w',(if p=true then w'=w else C w')→E ((putAll ops vals (waitsOf ops i) a0).put o.dst v) w')→wpList P ops (EndOf E) [o] (putAll ops vals (waitsOf ops i) a0) w
def DetQ (P:Program) (ops:Array Oper) (C:World→Prop) (pu:Nat→Bool) (a0:Act) (K:((Nat→Value)→Prop)→Prop):Nat→List Oper→((Nat→Value)→Prop)→Prop
 | _,[],Φ=>K Φ
 | i,o :: rest,Φ=>∃ v,DetStepQ P ops C (pu i) Φ i a0 o v∧DetQ P ops C pu a0 K (i+1) rest fun vals=>Φ vals∧vals i=v
theorem detQ_all {ops:Array Oper} {C:World→Prop} {pu:Nat→Bool} {a0:Act} {K:((Nat→Value)→Prop)→Prop}:∀ (rest:List Oper) (i:Nat) (Φ:(Nat→Value)→Prop),
  (∀ v1 v2:Nat→Value,(∀ j,j<i→v1 j=v2 j)→Φ v1→Φ v2)→(∃ vals,Φ vals)→DetQ P ops C pu a0 K i rest Φ →
  ∃ (vs:Nat→Value) (Ψ:(Nat→Value)→Prop),K Ψ∧Φ vs∧(∀ vals,(∀ j,j<i+rest.length→vals j=vs j)→Ψ vals) ∧
   ∀ j o,rest[j]?=some o→∀ vals w,(pu (i+j)=false→C w)→(∀ k,k<i+j→vals k=vs k)→∀ E:Act→World→Prop,(∀ w',(if pu (i+j)=true then w'=w else C w')→E ((putAll ops vals (waitsOf ops (i+j)) a0).put o.dst (vs (i+j))) w')→wpList P ops (EndOf E) [o] (putAll ops vals (waitsOf ops (i+j)) a0) w
 | [],i,Φ,hΦ,⟨v0,h0⟩,h=>⟨v0,Φ,h,h0,fun vals hv=>hΦ _ _ (fun j hj=>(hv j (by simpa using hj)).symm) h0,fun j o ho=>by simp at ho⟩
 | o :: rest,i,Φ,hΦ,⟨v0,h0⟩,⟨v,h1,h2⟩=>by
  obtain ⟨vs,Ψ,k1,k2,k3,k4⟩:=detQ_all rest (i+1) (fun vals=>Φ vals∧vals i=v)
   (fun v1 v2 hv hp=>⟨hΦ v1 v2 (fun j hj=>hv j (by omega)) hp.1,by rw [← hv i (by omega)]; exact hp.2⟩)
   ⟨upd v0 i v,hΦ v0 _ (fun j hj=>by simp [upd,Nat.ne_of_lt hj]) h0,by simp [upd]⟩ h2
  refine ⟨vs,Ψ,k1,k2.1,fun vals hv=>k3 vals fun j hj=>hv j (by simp only [List.length_cons] at hj ⊢; omega),fun j o' ho vals w hc hv=>?_⟩
  cases j with
  | zero =>
   simp at ho;subst ho;have hΦv:Φ vals:=hΦ vs _ (fun j hj=>(hv j (by omega)).symm) k2.1;intro E hE;refine h1 vals hΦv w hc E fun w'' hd=>?_;have h4:=hE w'' hd;rw [Nat.add_zero,k2.2] at h4;exact h4
  | succ j =>
   rw [show i+(j+1)=i+1+j by omega] at hc hv ⊢;exact k4 j o' (by simpa using ho) vals w hc hv
theorem qbl {id:Nat} {l:List Oper} {a0:Act} {w0:World} {Q:Exit→Act→World→Prop} (C:World→Prop) (pu:Nat→Bool) (d:Nat) (ps:List (Nat × Option Tmp))
  (hm:P.follows .mixedOrders=true) (hok:regionOk l.toArray=true) (hd:d<l.length)
  (hlast:((List.range l.length).all fun k=>decide (k<d) || (((List.range k).all fun i=>(deepWaits l.toArray 5 k).contains i || (pu i && decide (i<d))) && (k == d || (waitsOf l.toArray k).contains (k - 1))))=true)
  (hps:∀ vals,putAll l.toArray vals (List.range l.toArray.size) a0=puts vals ps a0) (hC:C w0.drew)
  (h:DetQ P l.toArray C pu a0 (fun Φ=>∀ vals,Φ vals→∀ w,C w→tailP P l.toArray a0 (fun vals w=>Q .normal (puts vals ps a0) w) d (l.drop d) vals w) 0 (l.take d) (fun _=>True)) :
  (Code.region id l.toArray true).wp P Q a0 w0:=by
 obtain ⟨vs,Ψ,k1,_,k3,k4⟩:=detQ_all (P:=P) (l.take d) 0 (fun _=>True) (fun _ _ _ h=>h) ⟨fun _=>undef,trivial⟩ h;have htl:(l.take d).length=d:=by rw [List.length_take]; omega
 simp only [Nat.zero_add,htl] at k3 k4
 have hdeep:∀ k,k<l.length→d≤k→∀ i,i<k→(deepWaits l.toArray 5 k).contains i=true∨(pu i=true∧i<d):=fun k hk hdk i hi=>by
  have h1:=(List.all_eq_true.1 hlast) k (List.mem_range.2 hk);simp only [Bool.or_eq_true,decide_eq_true_eq,Bool.and_eq_true] at h1
  rcases h1 with h1 | h1
  ·omega
  ·have h2:=(List.all_eq_true.1 h1.1) i (List.mem_range.2 hi)
   simpa only [Bool.or_eq_true,Bool.and_eq_true,decide_eq_true_eq] using h2
 have hprev:∀ k,k<l.length→d<k→(waitsOf l.toArray k).contains (k - 1)=true:=fun k hk hdk=>by
  have h1:=(List.all_eq_true.1 hlast) k (List.mem_range.2 hk);simp only [Bool.or_eq_true,decide_eq_true_eq,Bool.and_eq_true,beq_iff_eq] at h1
  rcases h1 with h1 | ⟨_,h1 | h1⟩
  ·omega
  ·omega
  ·exact h1
 let Kf:(Nat→Value)→World→Prop:=fun vals w=>Q .normal (puts vals ps a0) w
 let kills:Nat→Nat→Bool:=fun i k=>decide (d≤k) && (decide (k<i) || decide (l.length≤k))
 refine qa6 (fun _=>True) (fun _=>C) (fun _ i=>decide (d≤i))
  (fun i vals w=>if i<d then vals i=vs i else tailP P l.toArray a0 Kf (i+1) (l.drop (i+1)) (mergeV d vs vals) w)
  (fun i w w'=>if d≤i then True else if pu i=true then w'=w else (C w→C w')) kills hm hok trivial (fun _=>hC) ?_ ?_ ?_ ?_
 ·intro _ i hi w w' hS hc;have hne:¬ d≤i:=by simpa using hi
  rw [if_neg hne] at hS
  by_cases hp:pu i=true
  ·rw [if_pos hp] at hS; rw [hS]; exact hc
  ·rw [if_neg hp] at hS; exact hS hc
 ·intro i k hi hik hk hdk vals v w w' hS hF
  by_cases hkd:k<d
  ·simp only [hkd,if_true] at hF ⊢;simp [upd,Ne.symm hik,hF]
  ·have hki:¬ k<i:=by
    intro hlt
    have h9:kills i k=true:=by
     have a1:d≤k:=by omega
     simp [kills,a1,hlt]
    rw [h9] at hk; cases hk
   have hkl:k<l.length∨l.length≤k:=Nat.lt_or_ge _ _
   rcases hkl with hkl | hkl
   ·rcases hdeep k hkl (by omega) i (by omega) with h8 | ⟨h8,h7⟩
    ·rw [h8] at hdk; cases hdk
    ·simp only [hkd,if_false] at hF ⊢;rw [if_neg (by omega),if_pos h8] at hS;subst hS
     have e:mergeV d vs (upd vals i v)=mergeV d vs vals:=by
      funext j
      unfold mergeV upd
      by_cases h1:j=i
      ·subst h1; simp [h7]
      ·simp [h1]
     rw [e]; exact hF
   ·have h9:kills i k=true:=by
     have a1:d≤k:=by omega
     simp [kills,a1,hkl]
    rw [h9] at hk; cases hk
 ·intro i o ho w vals _ hini hav;have hil:i<l.length:=by have:=(Array.getElem?_eq_some_iff.1 ho).1; simpa using this
  have hok1:=okAt hok ho
  by_cases hid:i<d
  ·have hcw:pu i=false→C w:=fun hpf=>hini false (by
    unfold availIni;rw [List.all_eq_true];intro k hk;have hk':k<l.length:=by simpa using hk
    by_cases hki:k=i
    ·simp [hki]
    ·by_cases hkd:d≤k
     ·rcases hdeep k hk' hkd i (by omega) with h8 | ⟨h8,_⟩
      ·simp only [h8,Bool.or_true]
      ·rw [h8] at hpf; cases hpf
     ·simp [hkd])
   have hvals:∀ j ∈ waitsOf l.toArray i,vals j=vs j:=fun j hj=>by
    have hji:j<d:=by
     have:=hok1.before j hj;omega
    have h1:availAt l.toArray kills j i=true:=by
     unfold availAt;simp only [kills,Bool.and_eq_true];refine ⟨by simpa using hj,?_⟩;rw [List.all_eq_true];intro k _;have:¬ d≤j:=by omega
     simp [this]
    have:=hav j h1;dsimp only at this;rw [if_pos hji] at this;exact this
   have hcon:putAll l.toArray vals (waitsOf l.toArray i) a0=putAll l.toArray vs (waitsOf l.toArray i) a0:=qaF _ _ _ _ _ hvals;have ho2:(l.take d)[i]?=some o:=by rw [List.getElem?_take,if_pos hid]; simpa using ho
   have h3:=k4 i o ho2 vs w hcw (fun _ _=>rfl);rw [hcon];refine h3 _ fun w' hd'=>?_;refine ⟨vs i,rfl,?_,trivial,?_⟩
   ·dsimp only; rw [if_pos hid]; simp [upd]
   ·dsimp only;rw [if_neg (by omega)]
    by_cases hp:pu i=true
    ·rw [if_pos hp] at hd' ⊢; exact hd'
    ·rw [if_neg hp] at hd' ⊢; exact fun _=>hd'
  ·have hget:l.drop i=o :: l.drop (i+1):=by
    have h1:l[i]?=some o:=by simpa using ho
    have h2:=List.drop_eq_getElem_cons hil;rw [List.getElem?_eq_getElem hil] at h1;rw [h2,Option.some.inj h1]
   have hvals:∀ j ∈ waitsOf l.toArray i,vals j=mergeV d vs vals j:=fun j hj=>by
    unfold mergeV
    split
    ·rename_i hjd
     have h1:availAt l.toArray kills j i=true:=by
      unfold availAt;simp only [kills,Bool.and_eq_true];refine ⟨by simpa using hj,?_⟩;rw [List.all_eq_true];intro k _;have:¬ d≤j:=by omega
      simp [this]
     have:=hav j h1;dsimp only at this;rw [if_pos hjd] at this;exact this
    ·rfl
   have hcon:putAll l.toArray vals (waitsOf l.toArray i) a0=putAll l.toArray (mergeV d vs vals) (waitsOf l.toArray i) a0:=qaF _ _ _ _ _ hvals
   have htail:tailP P l.toArray a0 Kf i (l.drop i) (mergeV d vs vals) w:=by
    by_cases he:i=d
    ·subst he
     have hcw:C w:=hini false (by
      unfold availIni;rw [List.all_eq_true];intro k hk;have hk':k<l.length:=by simpa using hk
      by_cases hki:k=i
      ·simp [hki]
      ·by_cases hkd:i≤k
       ·rcases hdeep k hk' hkd i (by omega) with h8 | ⟨_,h8⟩
        ·simp only [h8,Bool.or_true]
        ·omega
       ·simp [hkd])
     exact k1 _ (k3 _ fun j hj=>by simp [mergeV,hj]) w hcw
    ·have hav1:availAt l.toArray kills (i - 1) i=true:=by
      unfold availAt;rw [Bool.and_eq_true];refine ⟨hprev i hil (by omega),?_⟩;rw [List.all_eq_true];intro k hk;have hk':k<l.length:=by simpa using hk
      by_cases hki:k=i
      ·simp [hki]
      ·by_cases hki2:i<k
       ·rcases hdeep k hk' (by omega) i hki2 with h8 | ⟨_,h8⟩
        ·simp only [h8,Bool.or_true]
        ·omega
       ·have:¬ i - 1<k∨k=i - 1:=by omega
        rcases this with h1 | h1
        ·have h8:¬ l.length≤i - 1:=by omega
         simp [kills,h1,h8]
        ·simp [h1]
     have:=hav (i - 1) hav1;dsimp only at this;rw [if_neg (by omega),show i - 1+1=i by omega] at this;exact this
   rw [hget] at htail;rw [hcon];refine htail _ fun v w' ht=>?_;refine ⟨v,rfl,?_,trivial,?_⟩
   ·dsimp only;rw [if_neg hid,qcy _ _ _ (by omega)];exact ht
   ·dsimp only; rw [if_pos (by omega)]; trivial
 ·intro w vals _ hF;have hn1:l.length - 1<l.length:=by omega
  have halive:aliveAt l.toArray kills (l.length - 1)=true:=by
   unfold aliveAt;rw [List.all_eq_true];intro k hk;have hk':k<l.length:=by simpa using hk
   have:¬ l.length - 1<k:=by omega
   have h8:¬ l.length≤l.length - 1:=by omega
   simp [kills,this,h8]
  have h1:=hF (l.length - 1) (by simpa using hn1) halive;rw [if_neg (by omega),show l.length - 1+1=l.length by omega,List.drop_length] at h1
  have hcon:putAll l.toArray vals (List.range l.toArray.size) a0=putAll l.toArray (mergeV d vs vals) (List.range l.toArray.size) a0:=qaF _ _ _ _ _ fun j hj=>by
   unfold mergeV
   split
   ·rename_i hjd
    have hal:aliveAt l.toArray kills j=true:=by
     unfold aliveAt;rw [List.all_eq_true];intro k _;have:¬ d≤j:=by omega
     simp [kills,this]
    have:=hF j (by simpa using (List.mem_range.1 hj)) hal;rw [if_pos hjd] at this;exact this
   ·rfl
  rw [hcon,hps];exact h1
section
variable {ops:Array Oper} {C D:World→Prop} {a0:Act} {K:((Nat→Value)→Prop)→Prop} {i:Nat} {Φ:(Nat→Value)→Prop} {o:Oper}
theorem dQ {v:Value} (h:DetStep P ops C C Φ i a0 o v):DetStepQ P ops C false Φ i a0 o v:=fun vals hp w hc E hE=>h vals hp w (hc rfl) E fun w' hc'=>hE w' (by simpa using hc')
theorem detStepQ_pure {v:Value} (ps:List (Nat × Option Tmp)) (hps:∀ vals,putAll ops vals (waitsOf ops i) a0=puts vals ps a0) (hg:o.guard=none)
  (h:∀ vals,Φ vals→∀ w,∀ E:Act→World→Prop,E ((puts vals ps a0).put o.dst v) w→wpList P #[] (EndOf E) [o] (puts vals ps a0) w):DetStepQ P ops C true Φ i a0 o v:=by
 intro vals hp w hc E hE;have h0:=hE w (by simp);rw [hps] at h0 ⊢;have h1:=h vals hp w E h0;have hw:∀ (O:Array Oper) (t:Array Value),Region.wanted o (yielded O t)=true:=fun O t=>by simp [Region.wanted,hg]
 simp only [wpList,hw,if_true] at h1 ⊢;exact h1
theorem DetQ.next {v:Value} {rest:List Oper} {pu:Nat→Bool} (hs:DetStepQ P ops C (pu i) Φ i a0 o v) (h:DetQ P ops C pu a0 K (i+1) rest fun vals=>Φ vals∧vals i=v):DetQ P ops C pu a0 K i (o :: rest) Φ:=⟨v,hs,h⟩
theorem DetQ.done {pu:Nat→Bool} (h:K Φ):DetQ P ops C pu a0 K i [] Φ:=h
end
end
end Go.Proofs.YtlkikjeccamheaaGreatDoor
namespace Go.Proofs.YtlkikjeccamheaaGreatDoor
set_option linter.unusedSimpArgs false
set_option linter.unusedVariables false
set_option maxRecDepth 100000
set_option maxHeartbeats 4000000
open Go.RowKit
section
variable {P:Program}
def DetStepR (P:Program) (ops:Array Oper) (C:World→Prop) (p:Bool) (Φ:(Nat→Value)→Prop) (i:Nat) (a0:Act) (o:Oper) (v:Value):Prop :=
 ∀ vals,Φ vals→∀ w,C w→∀ E:Act→World→Prop,(∀ w',(if p=true then w'=w else C w')→E ((putAll ops vals (waitsOf ops i) a0).put o.dst v) w')→wpList P ops (EndOf E) [o] (putAll ops vals (waitsOf ops i) a0) w
def DetR (P:Program) (ops:Array Oper) (C:World→Prop) (pu:Nat→Bool) (a0:Act) (K:((Nat→Value)→Prop)→Prop):Nat→List Oper→((Nat→Value)→Prop)→Prop
 | _,[],Φ=>K Φ
 | i,o :: rest,Φ=>∃ v,DetStepR P ops C (pu i) Φ i a0 o v∧DetR P ops C pu a0 K (i+1) rest fun vals=>Φ vals∧vals i=v
theorem detR_all {ops:Array Oper} {C:World→Prop} {pu:Nat→Bool} {a0:Act} {K:((Nat→Value)→Prop)→Prop}:∀ (rest:List Oper) (i:Nat) (Φ:(Nat→Value)→Prop),
  (∀ v1 v2:Nat→Value,(∀ j,j<i→v1 j=v2 j)→Φ v1→Φ v2)→(∃ vals,Φ vals)→DetR P ops C pu a0 K i rest Φ →
  ∃ (vs:Nat→Value) (Ψ:(Nat→Value)→Prop),K Ψ∧Φ vs∧(∀ vals,(∀ j,j<i+rest.length→vals j=vs j)→Ψ vals) ∧
   ∀ j o,rest[j]?=some o→∀ vals w,C w→(∀ k,k<i+j→vals k=vs k)→∀ E:Act→World→Prop,(∀ w',(if pu (i+j)=true then w'=w else C w')→E ((putAll ops vals (waitsOf ops (i+j)) a0).put o.dst (vs (i+j))) w')→wpList P ops (EndOf E) [o] (putAll ops vals (waitsOf ops (i+j)) a0) w
 | [],i,Φ,hΦ,⟨v0,h0⟩,h=>⟨v0,Φ,h,h0,fun vals hv=>hΦ _ _ (fun j hj=>(hv j (by simpa using hj)).symm) h0,fun j o ho=>by simp at ho⟩
 | o :: rest,i,Φ,hΦ,⟨v0,h0⟩,⟨v,h1,h2⟩=>by
  obtain ⟨vs,Ψ,k1,k2,k3,k4⟩:=detR_all rest (i+1) (fun vals=>Φ vals∧vals i=v)
   (fun v1 v2 hv hp=>⟨hΦ v1 v2 (fun j hj=>hv j (by omega)) hp.1,by rw [← hv i (by omega)]; exact hp.2⟩)
   ⟨upd v0 i v,hΦ v0 _ (fun j hj=>by simp [upd,Nat.ne_of_lt hj]) h0,by simp [upd]⟩ h2
  refine ⟨vs,Ψ,k1,k2.1,fun vals hv=>k3 vals fun j hj=>hv j (by simp only [List.length_cons] at hj ⊢; omega),fun j o' ho vals w hc hv=>?_⟩
  cases j with
  | zero =>
   simp at ho;subst ho;have hΦv:Φ vals:=hΦ vs _ (fun j hj=>(hv j (by omega)).symm) k2.1;intro E hE;refine h1 vals hΦv w hc E fun w'' hd=>?_;have h4:=hE w'' hd;rw [Nat.add_zero,k2.2] at h4;exact h4
  | succ j =>
   rw [show i+(j+1)=i+1+j by omega] at hv ⊢;exact k4 j o' (by simpa using ho) vals w hc hv
def tailP2 (P:Program) (ops:Array Oper) (a0:Act) (d2:Nat) (Kf:(Nat→Value)→World→Prop):Nat→List Oper→(Nat→Value)→World→Prop
 | _,[],vals,w=>Kf vals w
 | i,o :: r,vals,w=>∀ E:Act→World→Prop,(∀ v w',(i<d2→Below w.heap.size w w')→tailP2 P ops a0 d2 Kf (i+1) r (upd vals i v) w'→E ((putAll ops vals (waitsOf ops i) a0).put o.dst v) w')→wpList P ops (EndOf E) [o] (putAll ops vals (waitsOf ops i) a0) w
theorem qbm {id:Nat} {l:List Oper} {a0:Act} {w0:World} {Q:Exit→Act→World→Prop} (C:World→Prop) (pu:Nat→Bool) (d d2:Nat) (ps:List (Nat × Option Tmp))
  (hm:P.follows .mixedOrders=true) (hok:regionOk l.toArray=true) (hd:d<l.length)
  (hlast:((List.range l.length).all fun k=>decide (k<d) || (((List.range k).all fun i=>(deepWaits l.toArray 5 k).contains i || (pu i && decide (i<d) && decide (k<d2))) && (k == d || (waitsOf l.toArray k).contains (k - 1))))=true)
  (hps:∀ vals,putAll l.toArray vals (List.range l.toArray.size) a0=puts vals ps a0) (hC:C w0.drew) (hCs:∀ w w',Below w.heap.size w w'→C w→C w') (hdd:d≤d2)
  (h:DetR P l.toArray C pu a0 (fun Φ=>∀ vals,Φ vals→∀ w,C w→tailP2 P l.toArray a0 d2 (fun vals w=>Q .normal (puts vals ps a0) w) d (l.drop d) vals w) 0 (l.take d) (fun _=>True)) :
  (Code.region id l.toArray true).wp P Q a0 w0:=by
 obtain ⟨vs,Ψ,k1,_,k3,k4⟩:=detR_all (P:=P) (l.take d) 0 (fun _=>True) (fun _ _ _ h=>h) ⟨fun _=>undef,trivial⟩ h;have htl:(l.take d).length=d:=by rw [List.length_take]; omega
 simp only [Nat.zero_add,htl] at k3 k4
 have hdeep:∀ k,k<l.length→d≤k→∀ i,i<k→(deepWaits l.toArray 5 k).contains i=true∨((pu i=true∧i<d)∧k<d2):=fun k hk hdk i hi=>by
  have h1:=(List.all_eq_true.1 hlast) k (List.mem_range.2 hk);simp only [Bool.or_eq_true,decide_eq_true_eq,Bool.and_eq_true] at h1
  rcases h1 with h1 | h1
  ·omega
  ·have h2:=(List.all_eq_true.1 h1.1) i (List.mem_range.2 hi)
   simpa only [Bool.or_eq_true,Bool.and_eq_true,decide_eq_true_eq] using h2
 have hprev:∀ k,k<l.length→d<k→(waitsOf l.toArray k).contains (k - 1)=true:=fun k hk hdk=>by
  have h1:=(List.all_eq_true.1 hlast) k (List.mem_range.2 hk);simp only [Bool.or_eq_true,decide_eq_true_eq,Bool.and_eq_true,beq_iff_eq] at h1
  rcases h1 with h1 | ⟨_,h1 | h1⟩
  ·omega
  ·omega
  ·exact h1
 let Kf:(Nat→Value)→World→Prop:=fun vals w=>Q .normal (puts vals ps a0) w
 let kills:Nat→Nat→Bool:=fun i k=>decide (d≤k) && (decide (k<i) || decide (l.length≤k))
 refine qa6 (fun _=>True) (fun _=>C) (fun _ i=>decide (d2≤i))
  (fun i vals w=>if i<d then vals i=vs i else tailP2 P l.toArray a0 d2 Kf (i+1) (l.drop (i+1)) (mergeV d vs vals) w)
  (fun i w w'=>if d2≤i then True else if d≤i then (C w→C w') else if pu i=true then w'=w else (C w→C w')) kills hm hok trivial (fun _=>hC) ?_ ?_ ?_ ?_
 ·intro _ i hi w w' hS hc;have hne:¬ d2≤i:=by simpa using hi
  rw [if_neg hne] at hS
  by_cases hdi:d≤i
  ·rw [if_pos hdi] at hS; exact hS hc
  ·rw [if_neg hdi] at hS
   by_cases hp:pu i=true
   ·rw [if_pos hp] at hS; rw [hS]; exact hc
   ·rw [if_neg hp] at hS; exact hS hc
 ·intro i k hi hik hk hdk vals v w w' hS hF
  by_cases hkd:k<d
  ·simp only [hkd,if_true] at hF ⊢;simp [upd,Ne.symm hik,hF]
  ·have hki:¬ k<i:=by
    intro hlt
    have h9:kills i k=true:=by
     have a1:d≤k:=by omega
     simp [kills,a1,hlt]
    rw [h9] at hk; cases hk
   have hkl:k<l.length∨l.length≤k:=Nat.lt_or_ge _ _
   rcases hkl with hkl | hkl
   ·rcases hdeep k hkl (by omega) i (by omega) with h8 | ⟨⟨h8,h7⟩,h6⟩
    ·rw [h8] at hdk; cases hdk
    ·simp only [hkd,if_false] at hF ⊢;rw [if_neg (by omega),if_neg (by omega),if_pos h8] at hS;subst hS
     have e:mergeV d vs (upd vals i v)=mergeV d vs vals:=by
      funext j
      unfold mergeV upd
      by_cases h1:j=i
      ·subst h1; simp [h7]
      ·simp [h1]
     rw [e]; exact hF
   ·have h9:kills i k=true:=by
     have a1:d≤k:=by omega
     simp [kills,a1,hkl]
    rw [h9] at hk; cases hk
 ·intro i o ho w vals _ hini hav;have hil:i<l.length:=by have:=(Array.getElem?_eq_some_iff.1 ho).1; simpa using this
  have hok1:=okAt hok ho
  by_cases hid:i<d
  ·have hcw:C w:=hini false (by
    unfold availIni;rw [List.all_eq_true];intro k hk;have hk':k<l.length:=by simpa using hk
    by_cases hki:k=i
    ·simp [hki]
    ·by_cases hkd:d2≤k
     ·rcases hdeep k hk' (by omega) i (by omega) with h8 | ⟨_,h8⟩
      ·simp only [h8,Bool.or_true]
      ·omega
     ·simp [hkd])
   have hvals:∀ j ∈ waitsOf l.toArray i,vals j=vs j:=fun j hj=>by
    have hji:j<d:=by
     have:=hok1.before j hj;omega
    have h1:availAt l.toArray kills j i=true:=by
     unfold availAt;simp only [kills,Bool.and_eq_true];refine ⟨by simpa using hj,?_⟩;rw [List.all_eq_true];intro k _;have:¬ d≤j:=by omega
     simp [this]
    have:=hav j h1;dsimp only at this;rw [if_pos hji] at this;exact this
   have hcon:putAll l.toArray vals (waitsOf l.toArray i) a0=putAll l.toArray vs (waitsOf l.toArray i) a0:=qaF _ _ _ _ _ hvals;have ho2:(l.take d)[i]?=some o:=by rw [List.getElem?_take,if_pos hid]; simpa using ho
   have h3:=k4 i o ho2 vs w hcw (fun _ _=>rfl);rw [hcon];refine h3 _ fun w' hd'=>?_;refine ⟨vs i,rfl,?_,trivial,?_⟩
   ·dsimp only; rw [if_pos hid]; simp [upd]
   ·dsimp only;rw [if_neg (by omega),if_neg (by omega)]
    by_cases hp:pu i=true
    ·rw [if_pos hp] at hd' ⊢; exact hd'
    ·rw [if_neg hp] at hd' ⊢; exact fun _=>hd'
  ·have hget:l.drop i=o :: l.drop (i+1):=by
    have h1:l[i]?=some o:=by simpa using ho
    have h2:=List.drop_eq_getElem_cons hil;rw [List.getElem?_eq_getElem hil] at h1;rw [h2,Option.some.inj h1]
   have hvals:∀ j ∈ waitsOf l.toArray i,vals j=mergeV d vs vals j:=fun j hj=>by
    unfold mergeV
    split
    ·rename_i hjd
     have h1:availAt l.toArray kills j i=true:=by
      unfold availAt;simp only [kills,Bool.and_eq_true];refine ⟨by simpa using hj,?_⟩;rw [List.all_eq_true];intro k _;have:¬ d≤j:=by omega
      simp [this]
     have:=hav j h1;dsimp only at this;rw [if_pos hjd] at this;exact this
    ·rfl
   have hcon:putAll l.toArray vals (waitsOf l.toArray i) a0=putAll l.toArray (mergeV d vs vals) (waitsOf l.toArray i) a0:=qaF _ _ _ _ _ hvals
   have htail:tailP2 P l.toArray a0 d2 Kf i (l.drop i) (mergeV d vs vals) w:=by
    by_cases he:i=d
    ·subst he
     have hcw:C w:=hini false (by
      unfold availIni;rw [List.all_eq_true];intro k hk;have hk':k<l.length:=by simpa using hk
      by_cases hki:k=i
      ·simp [hki]
      ·by_cases hkd:d2≤k
       ·rcases hdeep k hk' (by omega) i (by omega) with h8 | ⟨_,h8⟩
        ·simp only [h8,Bool.or_true]
        ·omega
       ·simp [hkd])
     exact k1 _ (k3 _ fun j hj=>by simp [mergeV,hj]) w hcw
    ·have hav1:availAt l.toArray kills (i - 1) i=true:=by
      unfold availAt;rw [Bool.and_eq_true];refine ⟨hprev i hil (by omega),?_⟩;rw [List.all_eq_true];intro k hk;have hk':k<l.length:=by simpa using hk
      by_cases hki:k=i
      ·simp [hki]
      ·by_cases hki2:i<k
       ·rcases hdeep k hk' (by omega) i hki2 with h8 | ⟨⟨_,h8⟩,_⟩
        ·simp only [h8,Bool.or_true]
        ·omega
       ·have:¬ i - 1<k∨k=i - 1:=by omega
        rcases this with h1 | h1
        ·have h8:¬ l.length≤i - 1:=by omega
         simp [kills,h1,h8]
        ·simp [h1]
     have:=hav (i - 1) hav1;dsimp only at this;rw [if_neg (by omega),show i - 1+1=i by omega] at this;exact this
   rw [hget] at htail;rw [hcon];refine htail _ fun v w' hbw ht=>?_;refine ⟨v,rfl,?_,trivial,?_⟩
   ·dsimp only;rw [if_neg hid,qcy _ _ _ (by omega)];exact ht
   ·dsimp only
    by_cases h2:d2≤i
    ·rw [if_pos h2]; trivial
    ·rw [if_neg h2,if_pos (by omega)];exact fun hc=>hCs _ _ (hbw (by omega)) hc
 ·intro w vals _ hF;have hn1:l.length - 1<l.length:=by omega
  have halive:aliveAt l.toArray kills (l.length - 1)=true:=by
   unfold aliveAt;rw [List.all_eq_true];intro k hk;have hk':k<l.length:=by simpa using hk
   have:¬ l.length - 1<k:=by omega
   have h8:¬ l.length≤l.length - 1:=by omega
   simp [kills,this,h8]
  have h1:=hF (l.length - 1) (by simpa using hn1) halive;rw [if_neg (by omega),show l.length - 1+1=l.length by omega,List.drop_length] at h1
  have hcon:putAll l.toArray vals (List.range l.toArray.size) a0=putAll l.toArray (mergeV d vs vals) (List.range l.toArray.size) a0:=qaF _ _ _ _ _ fun j hj=>by
   unfold mergeV
   split
   ·rename_i hjd
    have hal:aliveAt l.toArray kills j=true:=by
     unfold aliveAt;rw [List.all_eq_true];intro k _;have:¬ d≤j:=by omega
     simp [kills,this]
    have:=hF j (by simpa using (List.mem_range.1 hj)) hal;rw [if_pos hjd] at this;exact this
   ·rfl
  rw [hcon,hps];exact h1
section
variable {ops:Array Oper} {C D:World→Prop} {a0:Act} {K:((Nat→Value)→Prop)→Prop} {i:Nat} {Φ:(Nat→Value)→Prop} {o:Oper}
theorem qaw {v:Value} (h:DetStep P ops C C Φ i a0 o v):DetStepR P ops C false Φ i a0 o v:=fun vals hp w hc E hE=>h vals hp w hc E fun w' hc'=>hE w' (by simpa using hc')
theorem qa9 {v:Value} (ps:List (Nat × Option Tmp)) (hps:∀ vals,putAll ops vals (waitsOf ops i) a0=puts vals ps a0) (hg:o.guard=none)
  (h:∀ vals,Φ vals→∀ w,C w→∀ E:Act→World→Prop,E ((puts vals ps a0).put o.dst v) w→wpList P #[] (EndOf E) [o] (puts vals ps a0) w):DetStepR P ops C true Φ i a0 o v:=by
 intro vals hp w hc E hE;have h0:=hE w (by simp);rw [hps] at h0 ⊢;have h1:=h vals hp w hc E h0;have hw:∀ (O:Array Oper) (t:Array Value),Region.wanted o (yielded O t)=true:=fun O t=>by simp [Region.wanted,hg]
 simp only [wpList,hw,if_true] at h1 ⊢;exact h1
theorem qaQ {d2:Nat} {Kf:(Nat→Value)→World→Prop} {r:List Oper} {vals:Nat→Value} {w:World} (ps:List (Nat × Option Tmp)) (hps:∀ vals,putAll ops vals (waitsOf ops i) a0=puts vals ps a0) (hg:o.guard=none)
  (h:∀ E:Act→World→Prop,(∀ v w',(i<d2→Below w.heap.size w w')→tailP2 P ops a0 d2 Kf (i+1) r (upd vals i v) w'→E ((puts vals ps a0).put o.dst v) w')→wpList P #[] (EndOf E) [o] (puts vals ps a0) w):tailP2 P ops a0 d2 Kf i (o :: r) vals w:=by
 intro E hE;rw [hps] at hE ⊢;have h1:=h E hE;have hw:∀ (O:Array Oper) (t:Array Value),Region.wanted o (yielded O t)=true:=fun O t=>by simp [Region.wanted,hg]
 simp only [wpList,hw,if_true] at h1 ⊢;exact h1
theorem qc1 {d2:Nat} {Kf:(Nat→Value)→World→Prop} {vals:Nat→Value} {w:World} (h:Kf vals w):tailP2 P ops a0 d2 Kf i [] vals w:=h
theorem DetR.next {v:Value} {rest:List Oper} {pu:Nat→Bool} (hs:DetStepR P ops C (pu i) Φ i a0 o v) (h:DetR P ops C pu a0 K (i+1) rest fun vals=>Φ vals∧vals i=v):DetR P ops C pu a0 K i (o :: rest) Φ:=⟨v,hs,h⟩
theorem DetR.done {pu:Nat→Bool} (h:K Φ):DetR P ops C pu a0 K i [] Φ:=h
end
end
end Go.Proofs.YtlkikjeccamheaaGreatDoor
namespace Go.Proofs.YtlkikjeccamheaaGreatDoor
set_option linter.unusedSimpArgs false
set_option linter.unusedVariables false
open Go.RowKit
theorem sP : (∀ (l : List Value) (i : Nat) (a : Value), l.toArray.setIfInBounds i a = (l.set i a).toArray) ∧ (∀ (x : Value) (l : List Value) (a : Value), (x :: l).set 0 a = a :: l) ∧ (∀ (x : Value) (l : List Value) (i : Nat) (a : Value), (x :: l).set (i + 1) a = x :: l.set i a) ∧
    (∀ (t : Array Value) (d : List Deferred) (i : Tmp) (v : Value), Act.put ⟨t, d⟩ (some i) v = ⟨t.setIfInBounds i v, d⟩) ∧ (∀ (a : Act) (v : Value), Act.put a none v = a) ∧
    (∀ (vals : Nat → Value) (a : Act), puts vals [] a = a) ∧ (∀ (vals : Nat → Value) (j : Nat) (d : Option Tmp) (r : List (Nat × Option Tmp)) (a : Act), puts vals ((j, d) :: r) a = puts vals r (a.put d (vals j))) :=
  ⟨fun _ _ _ => List.setIfInBounds_toArray _ _ _, fun _ _ _ => rfl, fun _ _ _ _ => rfl, fun _ _ _ _ => rfl, fun _ _ => rfl, fun _ _ => rfl, fun _ _ _ _ _ => rfl⟩
theorem sIB (l : List Value) (i : Nat) (a : Value) : l.toArray.setIfInBounds i a = (l.set i a).toArray := List.setIfInBounds_toArray _ _ _
theorem sCZ {x : Value} {l : List Value} {a : Value} : (x :: l).set 0 a = a :: l := rfl
theorem sCS {x : Value} {l : List Value} {i : Nat} {a : Value} : (x :: l).set (i + 1) a = x :: l.set i a := rfl
theorem uP {vals vals' : Nat → Value} {i j : Nat} {v x : Value} (hv : upd vals i v = vals') (h : j ≠ i) (f : vals j = x) : vals' j = x := (congrFun hv j).symm.trans ((upd_ne h).trans f)
end Go.Proofs.YtlkikjeccamheaaGreatDoor
namespace Go.Proofs.YtlkikjeccamheaaGreatDoor
set_option linter.unusedSimpArgs false
set_option linter.unusedVariables false
set_option maxRecDepth 100000
set_option maxHeartbeats 4000000
open Go.ChangeShapes Go.WideShapes Go.ChangeAt Go.RowKit Go.Joins
open Go.WideMaps Go.WideElems
open Go.ChangeMaps (open_string shut_string)
theorem own:ownKnob Tryz.prog.godebug=none:=by kernel_rfl
theorem laidOut:laidOutB Tryz.prog=true:=by kernel_rfl
section
variable {H:Type} {enc:TypeId × Value→H} {P:Program}
theorem post_of_below {f:Func} {s:ChangeSpec} {apart fresh handsOn again:Bool} {W W':World} {args:Array Value} {v:Value} {ds gs:List (DataW H)} {before pa pv:List MemPlace}
  (hW:DataW.Whole enc P f.params.toList s.vars apart W args.toList ds gs before)
  (hres:∀ (b:Nat) (sp:Nat→Bool) (hd:Bool),DataW.TrodAll enc P W' b sp hd f.resultTypes.toList (v.resultList f.resultTypes.size) (s.fn H (ds++gs)).results [])
  (hargs:∀ sp:Nat→Bool,(∀ p ∈ before,sp p.block=true)→DataW.TrodAll enc P W' 0 sp true f.params.toList args.toList (s.fn H (ds++gs)).args pa)
  (hvars:∀ sp:Nat→Bool,(∀ p ∈ before,sp p.block=true)→DataW.TrodVars enc P W' sp s.vars (s.fn H (ds++gs)).vars pv)
  (hps:before=pa++pv) (hb:Below W.heap.size W W')
  (hok:∀ (j:Nat) (t:TypeId) (r:Value),f.resultTypes[j]?=some t→(v.resultList f.resultTypes.size)[j]?=some r→Value.okWide P W' .any 0 t r) :
  s.post enc P f apart fresh handsOn again W args v W':=by
 have hlt:∀ p ∈ before,p.block<W.heap.size:=fun p hp=>hW.lt p hp;have hold:∀ p ∈ before,(fun b=>decide (b<W.heap.size)) p.block=true:=fun p hp=>by simpa using hlt p hp
 refine ⟨ds,gs,before,[],pa,pv,hW,hres _ _ _,hargs _ hold,hvars _ hold,World.keptBut_mono (fun p hp=>⟨hp,?_⟩) (hb.frame (· ∈ before)),fun _=>?_⟩
 ·rw [hps,List.mem_append] at hp;exact Or.inr hp
 ·obtain ⟨_,_,_,_,_,hz,hn⟩:=hW;refine ⟨hok,_,_,([]++pa)++pv,⟨[]++pa,pv,trodAll_append (hargs _ (fun _ _=>rfl)) (hres _ _ _),hvars _ (fun _ _=>rfl),rfl,?_,?_⟩,?_⟩
  ·intro b off hp;have hin:MemPlace.cell b off ∈ before:=by rw [hps]; simpa using hp
   rw [hb.frozen (hlt _ hin)];exact hz b off hin
  ·intro ha;have:=hn ha;rw [hps] at this
   simpa using this
  ·intro p hp _;rw [hps]
   simpa using hp
theorem stays {t:TypeId} (hl:laidOutB P=true) (hr:P.readableRec t=true) (hrow:t<P.types.size) {W W':World} {v:Value} {d:DataW H} {ps:List MemPlace}
  (h:DataW.Trod enc P W 0 (fun _=>true) true t v d ps) (hb:Below W.heap.size W W') (hlt:∀ x ∈ ps,x.block<W.heap.size) {sp:Nat→Bool} (hsp:∀ x ∈ ps,sp x.block=true) :
  DataW.Trod enc P W' 0 sp true t v d ps :=
 WideElems.Trod_stays hl hr hrow h (fun x hx=>hb.same (hlt x hx)) hsp
section
variable {w:World} {base:Nat} {spare:Nat→Bool} {held:Bool}
open Go.Deep
theorem open_agg6 {r:Reach} {b0:Nat} {t:TypeId} {f0 f1 f2 f3 f4 f5:Field} {v:Value} {d:DataW H} {p:List MemPlace} (hs:P.underlying t=some (.struct #[f0,f1,f2,f3,f4,f5])) (hone:oneCellFields P #[f0,f1,f2,f3,f4,f5]=true) (hC:P.cellsOf t=6)
  (hv:Value.okWide P w r b0 t v) (h:DataW.Trod enc P w base spare held t v d p) :
  ∃ (v0 v1 v2 v3 v4 v5:Value) (y0 y1 y2 y3 y4 y5:DataW H × List MemPlace) (n:Nat),v=.agg #[v0,v1,v2,v3,v4,v5]∧d=.agg [y0.1,y1.1,y2.1,y3.1,y4.1,y5.1]∧p=y0.2++(y1.2++(y2.2++(y3.2++(y4.2++y5.2)))) ∧
   DataW.trod enc P w base spare held n f0.type [v0]=some y0∧DataW.trod enc P w base spare held n f1.type [v1]=some y1∧DataW.trod enc P w base spare held n f2.type [v2]=some y2∧DataW.trod enc P w base spare held n f3.type [v3]=some y3∧DataW.trod enc P w base spare held n f4.type [v4]=some y4∧DataW.trod enc P w base spare held n f5.type [v5]=some y5:=by
 obtain ⟨cs,rfl,hsz⟩:=okWide_struct hs hv;obtain ⟨l⟩:=cs
 match l,hsz.trans hC with
 | [c0,c1,c2,c3,c4,c5],_ =>
  obtain ⟨fuel,hf⟩:=h;obtain ⟨xs,n,_,hx,_,hlen,hg⟩:=DataW.trod_struct hs hf;obtain ⟨o0,k0⟩:=hone_of hone 0 f0 rfl;obtain ⟨o1,k1⟩:=hone_of hone 1 f1 rfl;obtain ⟨o2,k2⟩:=hone_of hone 2 f2 rfl;obtain ⟨o3,k3⟩:=hone_of hone 3 f3 rfl;obtain ⟨o4,k4⟩:=hone_of hone 4 f4 rfl;obtain ⟨o5,k5⟩:=hone_of hone 5 f5 rfl
  match xs,hlen with
  | [y0,y1,y2,y3,y4,y5],_ =>
   simp only [Prod.mk.injEq] at hx;exact ⟨c0,c1,c2,c3,c4,c5,y0,y1,y2,y3,y4,y5,n,rfl,by simpa using hx.1,by simpa using hx.2,by simpa [Value.cells,o0,k0] using hg 0 f0 rfl,by simpa [Value.cells,o1,k1] using hg 1 f1 rfl,by simpa [Value.cells,o2,k2] using hg 2 f2 rfl,by simpa [Value.cells,o3,k3] using hg 3 f3 rfl,by simpa [Value.cells,o4,k4] using hg 4 f4 rfl,by simpa [Value.cells,o5,k5] using hg 5 f5 rfl⟩
end
theorem open_strs_rd {t e:TypeId} {fuel:Nat} {cs:List Value} {x:DataW H × List MemPlace} {W:World} {base:Nat} {sp:Nat→Bool} {held:Bool} (ht:P.underlying t=some (.slice e)) (he:P.underlying e=some .string) (hc:P.cellsOf e=1)
  (h:DataW.trod enc P W base sp held fuel t cs=some x):∃ (A:Option Addr) (c:Nat) (l:List ByteArray),cs=[.slice A l.length c]∧l.length≤c∧l.length≤maxLen∧Rd W W.heap.size A (l.map Value.string)∧(∀ s ∈ l,s.size≤maxLen):=by
 rcases open_strings ht he hc h with ⟨rfl,_⟩ | ⟨a,len,cap,ss,rfl,_,hl,hm,hz,_,hcell,hs⟩
 ·exact ⟨none,0,[],rfl,Nat.le_refl _,Nat.zero_le _,Rd.nil _ _ _,fun s hs=>by simp at hs⟩
 ·have hlen:len≤ss.length:=by rw [hz]; split <;> omega
  refine ⟨some a,cap,ss.take len,by rw [List.length_take,Nat.min_eq_left hlen],by rw [List.length_take]; omega,by rw [List.length_take]; omega,fun i u hu=>?_,fun s hs'=>hs s (List.mem_of_mem_take hs')⟩;rw [List.getElem?_map] at hu;obtain ⟨s,hs1,rfl⟩:=Option.map_eq_some_iff.1 hu;have hi:i<(ss.take len).length:=(List.getElem?_eq_some_iff.1 hs1).1;rw [List.length_take] at hi;have hcl:=hcell i (by omega);rw [List.getElem?_take,if_pos (by omega)] at hs1;have e1:ss.getD i ByteArray.empty=s:=by simp [List.getD,hs1]
  rw [e1] at hcl;refine ⟨a,rfl,?_,hcl⟩;have:=World.block_lt_of_cell? W _ hcl
  rwa [qaq] at this
end
end Go.Proofs.YtlkikjeccamheaaGreatDoor
namespace Go.Proofs.YtlkikjeccamheaaGreatDoor
set_option linter.unusedSimpArgs false
set_option linter.unusedVariables false
set_option maxRecDepth 100000
set_option maxHeartbeats 4000000
open Go.ChangeShapes Go.WideShapes Go.ChangeAt Go.RowKit Go.Joins
section
variable {H:Type} {enc:TypeId × Value→H} {P:Program}
theorem open_bytes_rd {t e:TypeId} {fuel:Nat} {cs:List Value} {x:DataW H × List MemPlace} {W:World} {base:Nat} {sp:Nat→Bool} {held:Bool} (ht:P.underlying t=some (.slice e)) (he:P.underlying e=some (.int .u8)) (hc:P.cellsOf e=1)
  (h:DataW.trod enc P W base sp held fuel t cs=some x):∃ (A:Option Addr) (c:Nat) (l:List UInt8),cs=[.slice A l.length c]∧l.length≤c∧l.length≤maxLen∧Rd W W.heap.size A (bytesV l):=by
 rcases open_ints ht he hc h with ⟨rfl,_⟩ | ⟨a,len,cap,zs,rfl,_,hl,hm,hz,_,hcell,hwz⟩
 ·exact ⟨none,0,[],rfl,Nat.le_refl _,Nat.zero_le _,Rd.nil _ _ _⟩
 ·have hlen:len≤zs.length:=by rw [hz]; split <;> omega
  have hl2:((zs.take len).map fun n=>UInt8.ofNat n.toNat).length=len:=by simp; omega
  refine ⟨some a,cap,(zs.take len).map fun n=>UInt8.ofNat n.toNat,by rw [hl2],by rw [hl2]; omega,by rw [hl2]; omega,fun i u hu=>?_⟩;rw [bytesV,List.getElem?_map,List.getElem?_map] at hu;obtain ⟨s,hs1,rfl⟩:=Option.map_eq_some_iff.1 hu;obtain ⟨n,hn1,rfl⟩:=Option.map_eq_some_iff.1 hs1;have hi:i<(zs.take len).length:=(List.getElem?_eq_some_iff.1 hn1).1;rw [List.length_take] at hi;have hcl:=hcell i (by omega);rw [List.getElem?_take,if_pos (by omega)] at hn1;have e1:zs.getD i 0=n:=by simp [List.getD,hn1]
  have hb:=range_u8 hwz i;rw [e1] at hcl;have e2:zs[i]?.getD 0=n:=by rw [hn1]; rfl
  rw [e2] at hb;refine ⟨a,rfl,?_,?_⟩
  ·have:=World.block_lt_of_cell? W _ hcl
   rwa [qaq] at this
  ·rw [hcl,byteV]
   congr 2
   simp only [UInt8.toNat_ofNat'];omega
end
theorem cells_u8:Tryz.prog.cellsOf 5=1:=by kernel_rfl
theorem open_bytes_arg {H:Type} {enc:TypeId × Value→H} {W:World} {base:Nat} {r:Reach} {b0:Nat} {sp:Nat→Bool} {held:Bool} {v:Value} {d:DataW H} {p:List MemPlace}
  (hv:Value.okWide Tryz.prog W r b0 40 v) (h:DataW.Trod enc Tryz.prog W base sp held 40 v d p) :
  ∃ (l:List UInt8) (A:Option Addr) (c:Nat),v=.slice A l.length c∧Rd W W.heap.size A (bytesV l)∧l.length≤c∧l.length≤9223372036854775807:=by
 obtain ⟨a1,len,cap,rfl⟩:=okWide_slice Tryz.underlying40 hv;obtain ⟨fuel,hf⟩:=h;obtain ⟨A,c,l,e,h1,h2,h3⟩:=open_bytes_rd Tryz.underlying40 Tryz.underlying5 cells_u8 hf;simp [Value.cells] at e;obtain ⟨rfl,rfl,rfl⟩:=e;simp only [maxLen] at h2;exact ⟨l,_,_,rfl,h3,h1,by omega⟩
end Go.Proofs.YtlkikjeccamheaaGreatDoor
namespace Go.Proofs.YtlkikjeccamheaaGreatDoor
set_option linter.unusedSimpArgs false
set_option linter.unusedVariables false
set_option maxRecDepth 100000
set_option maxHeartbeats 4000000
open Go.RowKit
section
variable (a b:Nat)
theorem xor64 (ha:a<18446744073709551616) (hb:b<18446744073709551616):bits .xor .u64 (a:Int) (b:Int)=((a ^^^ b:Nat):Int):=by
 show IntKind.u64.wrap ((BitVec.ofInt 64 (a:Int) ^^^ BitVec.ofInt 64 (b:Int)).toNat:Int)=_;have h:=Nat.xor_lt_two_pow (n:=64) (x:=a) (y:=b) ha hb;rw [BitVec.toNat_xor,BitVec.ofInt_natCast,BitVec.ofInt_natCast,BitVec.toNat_ofNat,BitVec.toNat_ofNat,Nat.mod_eq_of_lt ha,Nat.mod_eq_of_lt hb,IntKind.wrap_u64];omega
theorem and64 (ha:a<18446744073709551616) (hb:b<18446744073709551616):bits .and .u64 (a:Int) (b:Int)=((a &&& b:Nat):Int):=by
 show IntKind.u64.wrap ((BitVec.ofInt 64 (a:Int) &&& BitVec.ofInt 64 (b:Int)).toNat:Int)=_;have h:a &&& b≤a:=Nat.and_le_left;rw [BitVec.toNat_and,BitVec.ofInt_natCast,BitVec.ofInt_natCast,BitVec.toNat_ofNat,BitVec.toNat_ofNat,Nat.mod_eq_of_lt ha,Nat.mod_eq_of_lt hb,IntKind.wrap_u64];omega
theorem or32 (ha:a<4294967296) (hb:b<4294967296):bits .or .u32 (a:Int) (b:Int)=((a ||| b:Nat):Int):=by
 show IntKind.u32.wrap ((BitVec.ofInt 32 (a:Int) ||| BitVec.ofInt 32 (b:Int)).toNat:Int)=_;have h:=Nat.or_lt_two_pow (n:=32) (x:=a) (y:=b) ha hb;rw [BitVec.toNat_or,BitVec.ofInt_natCast,BitVec.ofInt_natCast,BitVec.toNat_ofNat,BitVec.toNat_ofNat,Nat.mod_eq_of_lt ha,Nat.mod_eq_of_lt hb,IntKind.wrap_u32];omega
theorem xor32 (ha:a<4294967296) (hb:b<4294967296):bits .xor .u32 (a:Int) (b:Int)=((a ^^^ b:Nat):Int):=by
 show IntKind.u32.wrap ((BitVec.ofInt 32 (a:Int) ^^^ BitVec.ofInt 32 (b:Int)).toNat:Int)=_;have h:=Nat.xor_lt_two_pow (n:=32) (x:=a) (y:=b) ha hb;rw [BitVec.toNat_xor,BitVec.ofInt_natCast,BitVec.ofInt_natCast,BitVec.toNat_ofNat,BitVec.toNat_ofNat,Nat.mod_eq_of_lt ha,Nat.mod_eq_of_lt hb,IntKind.wrap_u32];omega
theorem and32 (ha:a<4294967296) (hb:b<4294967296):bits .and .u32 (a:Int) (b:Int)=((a &&& b:Nat):Int):=by
 show IntKind.u32.wrap ((BitVec.ofInt 32 (a:Int) &&& BitVec.ofInt 32 (b:Int)).toNat:Int)=_;have h:a &&& b≤a:=Nat.and_le_left;rw [BitVec.toNat_and,BitVec.ofInt_natCast,BitVec.ofInt_natCast,BitVec.toNat_ofNat,BitVec.toNat_ofNat,Nat.mod_eq_of_lt ha,Nat.mod_eq_of_lt hb,IntKind.wrap_u32];omega
theorem wrap64n (a:Nat):IntKind.u64.wrap (a:Int)=((a%18446744073709551616:Nat):Int):=by rw [IntKind.wrap_u64]; omega
theorem wrap32n (a:Nat):IntKind.u32.wrap (a:Int)=((a%4294967296:Nat):Int):=by rw [IntKind.wrap_u32]; omega
end
theorem qaY {k:IntKind} {a b:Int} (h:a=b):Ending.returned (.int k a)=.returned (.int k b):=by rw [h]
theorem qbU {B:Nat} {a w:World} (h:Below B a w) (n:Nat):Below B a (w.drewN n):=⟨h.os,h.tape,h.output,h.size,h.block⟩
theorem sum64w (x y:Nat):IntKind.u64.wrap ((x:Int)+(y:Int))=(((x+y)%18446744073709551616:Nat):Int):=by rw [IntKind.wrap_u64]; omega
theorem sum32f (a b x y:Nat):(((a:Int)+(b:Int))%4294967296+((x:Int)+(y:Int))%4294967296)%4294967296=(((a+b+(x+y))%2^32:Nat):Int):=by omega
theorem qbV (a b:Nat):((a:Int)+(b:Int))%4294967296=(((a+b)%2^32:Nat):Int):=by omega
theorem qbs (a b:Nat):IntKind.u64.wrap ((a:Int)+(b:Int))=(((a+b)%2^64:Nat):Int):=by rw [IntKind.wrap_u64]; omega
theorem qb7 {a b m:Nat} (h:a<m):a &&& b<m:=Nat.lt_of_le_of_lt Nat.and_le_left h
theorem or_shl8 (x z:Nat) (hz:z<256):x*256 ||| z=x*256+z:=by
 have:=Nat.two_pow_add_eq_or_of_lt (i:=8) (b:=z) hz x;rw [show 2^8*x=x*256 by omega] at this;exact this.symm
theorem or_byte32 (x z:Nat) (hx:x<16777216) (hz:z<256):bits .or .u32 ((x:Int)*256%4294967296) (z:Int)=((x*256+z:Nat):Int):=by
 rw [show (x:Int)*256%4294967296=((x*256:Nat):Int) by omega,or32 _ _ (by omega) (by omega),or_shl8 x z hz]
def rotN (b x n:Nat):Nat:=x/2^n ||| x*2^(b - n)%2^b
theorem rotN_lt {b x n:Nat} (hx:x<2^b):rotN b x n<2^b :=
 Nat.or_lt_two_pow (Nat.lt_of_le_of_lt (Nat.div_le_self _ _) hx) (Nat.mod_lt _ (Nat.two_pow_pos _))
def turnedN (b x n:Nat):Nat:=if b=32 then rotN 32 (x%4294967296) n else rotN 64 x n
theorem qaK {b x n:Nat} (hx:x<18446744073709551616):turnedN b x n<18446744073709551616:=by
 unfold turnedN
 split
 ·have:=rotN_lt (b:=32) (x:=x%4294967296) (n:=n) (Nat.mod_lt _ (by decide));omega
 ·exact rotN_lt (b:=64) hx
def lastN (b x c:Nat) (shift:Bool):Nat:=if shift then x/2^c else turnedN b x c
theorem qcS {b x c:Nat} {shift:Bool} (hx:x<18446744073709551616):lastN b x c shift<18446744073709551616:=by
 unfold lastN
 split
 ·exact Nat.lt_of_le_of_lt (Nat.div_le_self _ _) hx
 ·exact qaK hx
def allN (b x p q c:Nat) (shift:Bool):Nat:=turnedN b x p ^^^ turnedN b x q ^^^ lastN b x c shift
theorem qcN {a b:Nat} (ha:a<18446744073709551616) (hb:b<18446744073709551616):a ^^^ b<18446744073709551616:=Nat.xor_lt_two_pow (n:=64) ha hb
theorem allN_lt {b x p q c:Nat} {shift:Bool} (hx:x<18446744073709551616):allN b x p q c shift<18446744073709551616 :=
 qcN (qcN (qaK hx) (qaK hx)) (qcS hx)
theorem pow_int (n:Nat):(2:Int)^n=((2^n:Nat):Int):=by simp
theorem shr_int (x n:Nat):(x:Int)/2^n=((x/2^n:Nat):Int):=by rw [pow_int]; simp
theorem shl_int (x n:Nat):(x:Int)*2^n=((x*2^n:Nat):Int):=by rw [pow_int]; simp
theorem rot_walk32 (x n:Nat) (hx:x<4294967296):bits .or .u32 ((x:Int)/2^n) (IntKind.u32.wrap ((x:Int)*2^(32 - n)))=(rotN 32 x n:Int):=by
 rw [shr_int,shl_int,wrap32n,or32 _ _ (Nat.lt_of_le_of_lt (Nat.div_le_self _ _) hx) (Nat.mod_lt _ (by decide))];rfl
theorem rot_walk32' (x n:Nat):IntKind.u64.wrap (bits .or .u32 ((x:Int)%4294967296/2^n) ((x:Int)%4294967296*2^(32 - n)%4294967296))=(turnedN 32 x n:Int):=by
 have h:=rot_walk32 (x%4294967296) n (Nat.mod_lt _ (by decide));rw [IntKind.wrap_u32] at h;rw [show (x:Int)%4294967296=((x%4294967296:Nat):Int) by omega,h,wrap64n];have h2:=rotN_lt (b:=32) (x:=x%4294967296) (n:=n) (Nat.mod_lt _ (by decide));rw [Nat.mod_eq_of_lt (by omega)];rfl
end Go.Proofs.YtlkikjeccamheaaGreatDoor
namespace Go.Proofs.YtlkikjeccamheaaGreatDoor.Sh
set_option linter.unusedSimpArgs false
set_option linter.unusedVariables false
set_option maxRecDepth 100000
set_option maxHeartbeats 4000000
open Go.RowKit
def beN (l:List UInt8):Nat:=l.foldl (fun n c=>n*256+c.toNat) 0
theorem beN_snoc (l:List UInt8) (c:UInt8):beN (l++[c])=beN l*256+c.toNat:=by simp [beN]
theorem foldl_fromN (x:Nat) (c:List UInt8):c.foldl (fun n c=>n*256+c.toNat) x=x*256^c.length+beN c:=by
 induction c generalizing x with
 | nil=>simp [beN]
 | cons z c ih =>
  have e:beN (z :: c)=c.foldl (fun n c=>n*256+c.toNat) z.toNat:=by simp [beN]
  rw [List.foldl_cons,ih,e,ih,List.length_cons,Nat.pow_succ,Nat.add_mul,Nat.mul_assoc,Nat.mul_comm 256,Nat.add_assoc]
theorem beN_append (a c:List UInt8):beN (a++c)=beN a*256^c.length+beN c:=by
 rw [beN,List.foldl_append,foldl_fromN]; rfl
theorem beN_lt (l:List UInt8):beN l<256^l.length:=by
 induction l with
 | nil=>simp [beN]
 | cons z l ih =>
  have e:=beN_append [z] l;have hz:=z.toNat_lt;have e1:beN [z]=z.toNat:=by simp [beN]
  rw [show z :: l=[z]++l from rfl,e,e1,List.length_append,List.length_singleton,Nat.pow_add,Nat.pow_one];have:z.toNat*256^l.length≤255*256^l.length:=Nat.mul_le_mul_right _ (by omega);omega
structure ShaF where
 bits:Nat
 many:Nat
 s0:Nat × Nat × Nat
 s1:Nat × Nat × Nat
 t0:Nat × Nat × Nat
 t1:Nat × Nat × Nat
def F32:ShaF:=⟨32,64,(2,13,22),(6,11,25),(7,18,3),(17,19,10)⟩
def allF (F:ShaF) (x:Nat) (p:Nat × Nat × Nat) (shift:Bool):Nat:=allN F.bits x p.1 p.2.1 p.2.2 shift
def pieceN (e:Nat) (blk:List UInt8) (t:Nat):Nat:=beN ((blk.drop (t*e)).take e)
def nextW (F:ShaF) (r:List Nat) (t:Nat):Nat :=
 (r.getD (t - 16) 0+r.getD (t - 7) 0+(allF F (r.getD (t - 15) 0) F.t0 true+allF F (r.getD (t - 2) 0) F.t1 true))%2^F.bits
def rowW (F:ShaF) (blk:List UInt8):Nat→List Nat
 | 0=>[]
 | t+1=>rowW F blk t++[if t<16 then pieceN (F.bits/8) blk t else nextW F (rowW F blk t) t]
theorem qaO (F:ShaF) (blk:List UInt8):∀ t,(rowW F blk t).length=t
 | 0=>rfl
 | t+1=>by simp [rowW,qaO F blk t]
theorem pieceN_lt (e:Nat) (blk:List UInt8) (t:Nat):pieceN e blk t<256^e:=by
 have h:=beN_lt ((blk.drop (t*e)).take e);have h2:((blk.drop (t*e)).take e).length≤e:=List.length_take_le _ _;exact Nat.lt_of_lt_of_le h (Nat.pow_le_pow_right (by omega) h2)
theorem qda (F:ShaF) (hb:256^(F.bits/8)=2^F.bits) (blk:List UInt8):∀ t,∀ x ∈ rowW F blk t,x<2^F.bits
 | 0,x,hx=>by simp [rowW] at hx
 | t+1,x,hx=>by
  simp only [rowW,List.mem_append,List.mem_singleton] at hx
  rcases hx with hx | rfl
  ·exact qda F hb blk t x hx
  ·split
   ·rw [← hb]; exact pieceN_lt _ _ _
   ·exact Nat.mod_lt _ (Nat.two_pow_pos _)
theorem qbR {l:List Nat} {b:Nat} (h:∀ x ∈ l,x<b) (hb:0<b) (i:Nat):l.getD i 0<b:=by
 by_cases hi:i<l.length
 ·rw [List.getD_eq_getElem?_getD,List.getElem?_eq_getElem hi]; exact h _ (List.getElem_mem hi)
 ·rw [List.getD_eq_getElem?_getD,List.getElem?_eq_none (by omega)]; exact hb
def wordsV (K:IntKind) (l:List Nat):List Value:=l.map fun n:Nat=>Value.int K (n:Int)
theorem qaA (K:IntKind) (l:List Nat):(wordsV K l).length=l.length:=by simp [wordsV]
def rowC (K:IntKind) (l:List Nat) (m:Nat):Array Value:=(wordsV K l++List.replicate m (Value.int K 0)).toArray
def rowP (K:IntKind) (l:List Nat) (x m:Nat):Array Value:=(wordsV K l++(Value.int K (x:Int)) :: List.replicate m (Value.int K 0)).toArray
theorem rowC_start (K:IntKind) (l:List Nat) (m:Nat):rowC K l (m+1)=rowP K l 0 m:=by simp [rowC,rowP,List.replicate_succ]
theorem rowP_end (K:IntKind) (l:List Nat) (x m:Nat):rowP K l x m=rowC K (l++[x]) m:=by simp [rowC,rowP,wordsV]
theorem rowP_size (K:IntKind) (l:List Nat) (x m:Nat):(rowP K l x m).size=l.length+m+1:=by simp [rowP,wordsV]; omega
theorem rowP_at (K:IntKind) (l:List Nat) (x m:Nat):(rowP K l x m)[l.length]?=some (Value.int K (x:Int)):=by
 simp [rowP,wordsV]
theorem rowP_set (K:IntKind) (l:List Nat) (x y m:Nat):(rowP K l x m).setIfInBounds l.length (Value.int K (y:Int))=rowP K l y m:=by
 apply Array.ext';simp [rowP,Array.toList_setIfInBounds,wordsV,List.set_append]
theorem rowC_get (K:IntKind) (l:List Nat) (m i:Nat) (h:i<l.length):(rowC K l m)[i]?=some (Value.int K ((l.getD i 0:Nat):Int)):=by
 simp [rowC,wordsV,List.getElem?_append,h]
theorem qcP (K:IntKind) (l:List Nat) (x m i:Nat) (h:i<l.length):(rowP K l x m)[i]?=some (Value.int K ((l.getD i 0:Nat):Int)):=by
 rw [rowP_end,rowC_get K _ _ i (by simp; omega)];simp [List.getElem?_append,h]
def stepsN:List Nat:=[4794697086780616226,8158064640168781261,13096744586834688815,16840607885511220156,4131703408338449720,6480981068601479193,10538285296894168987,12329834152419229976,15566598209576043074,1334009975649890238,2608012711638119052,6128411473006802146,8268148722764581231,9286055187155687089,11230858885718282805,13951009754708518548,16472876342353939154,17275323862435702243,1135362057144423861,2597628984639134821,3308224258029322869,5365058923640841347,6679025012923562964,8573033837759648693,10970295158949994411,12119686244451234320,12683024718118986047,13788192230050041572,14330467153632333762,15395433587784984357,489312712824947311,1452737877330783856,2861767655752347644,3322285676063803686,5560940570517711597,5996557281743188959,7280758554555802590,8532644243296465576,9350256976987008742,10552545826968843579,11727347734174303076,12113106623233404929,14000437183269869457,14369950271660146224,15101387698204529176,15463397548674623760,17586052441742319658,1182934255886127544,1847814050463011016,2177327727835720531,2830643537854262169,3796741975233480872,4115178125766777443,5681478168544905931,6601373596472566643,7507060721942968483,8399075790359081724,8693463985226723168,9568029438360202098,10144078919501101548,10430055236837252648,11840083180663258601,13761210420658862357,14299343276471374635,14566680578165727644,15097957966210449927,16922976911328602910,17689382322260857208,500013540394364858,748580250866718886,1242879168328830382,1977374033974150939,2944078676154940804,3659926193048069267,4368137639120453308,4836135668995329356,5532061633213252278,6448918945643986474,6902733635092675308,7801388544844847127]
theorem stepsN_length:stepsN.length=80:=by decide +kernel
theorem stepsN_all:(stepsN.all fun x=>decide (x<18446744073709551616))=true:=by decide +kernel
theorem stepsN_lt (i:Nat):stepsN.getD i 0<18446744073709551616 :=
 qbR (fun x hx=>by simpa using (List.all_eq_true.1 stepsN_all) x hx) (by decide) i
def kN (F:ShaF) (t:Nat):Nat:=stepsN.getD t 0/2^(64 - F.bits)%2^F.bits
structure S8 where
 a:Nat
 b:Nat
 c:Nat
 d:Nat
 e:Nat
 f:Nat
 g:Nat
 h:Nat
structure S8.Lt (s:S8) (m:Nat):Prop where
 a:s.a<m
 b:s.b<m
 c:s.c<m
 d:s.d<m
 e:s.e<m
 f:s.f<m
 g:s.g<m
 h:s.h<m
def mixX (F:ShaF) (s:S8) (k w:Nat):Nat:=(s.h+allF F s.e F.s1 false+((s.e &&& s.f) ^^^ ((2^F.bits - 1 - s.e) &&& s.g))+k+w)%2^F.bits
def mixY (F:ShaF) (s:S8):Nat:=(allF F s.a F.s0 false+((s.a &&& s.b) ^^^ (s.a &&& s.c) ^^^ (s.b &&& s.c)))%2^F.bits
theorem mixX_32 (h al ch k w:Nat):(h+al+ch+k+w)%2^32=((((h+al%4294967296)%2^32+ch)%2^32+k)%2^32+w)%2^32:=by omega
theorem mixY_32 (al mj:Nat):(al+mj)%2^32=(al%4294967296+mj)%2^32:=by omega
def stepS (F:ShaF) (s:S8) (k w:Nat):S8:=⟨(mixX F s k w+mixY F s)%2^F.bits,s.a,s.b,s.c,(s.d+mixX F s k w)%2^F.bits,s.e,s.f,s.g⟩
def mixTo (F:ShaF) (r:List Nat) (s:S8):Nat→S8
 | 0=>s
 | t+1=>stepS F (mixTo F r s t) (kN F t) (r.getD t 0)
def addS (F:ShaF) (s v:S8):S8:=⟨(v.a+s.a)%2^F.bits,(v.b+s.b)%2^F.bits,(v.c+s.c)%2^F.bits,(v.d+s.d)%2^F.bits,(v.e+s.e)%2^F.bits,(v.f+s.f)%2^F.bits,(v.g+s.g)%2^F.bits,(v.h+s.h)%2^F.bits⟩
def mixS (F:ShaF) (s:S8) (blk:List UInt8):S8:=addS F s (mixTo F (rowW F blk F.many) s F.many)
theorem stepS_lt {F:ShaF} {s:S8} {k w:Nat} (h:s.Lt (2^F.bits)):(stepS F s k w).Lt (2^F.bits) :=
 ⟨Nat.mod_lt _ (Nat.two_pow_pos _),h.a,h.b,h.c,Nat.mod_lt _ (Nat.two_pow_pos _),h.e,h.f,h.g⟩
theorem mixTo_lt {F:ShaF} {r:List Nat} {s:S8} (h:s.Lt (2^F.bits)):∀ t,(mixTo F r s t).Lt (2^F.bits)
 | 0=>h
 | t+1=>stepS_lt (mixTo_lt h t)
theorem addS_lt (F:ShaF) (s v:S8):(addS F s v).Lt (2^F.bits):=by
 constructor <;> exact Nat.mod_lt _ (Nat.two_pow_pos _)
def s8V (K:IntKind) (s:S8):Array Value:=#[.int K (s.a:Int),.int K (s.b:Int),.int K (s.c:Int),.int K (s.d:Int),.int K (s.e:Int),.int K (s.f:Int),.int K (s.g:Int),.int K (s.h:Int)]
def s8L (s:S8):List Nat:=[s.a,s.b,s.c,s.d,s.e,s.f,s.g,s.h]
def addC (K:IntKind) (F:ShaF) (s v:S8) (i:Nat):Array Value:=(wordsV K ((s8L (addS F s v)).take i++(s8L v).drop i)).toArray
theorem addC_zero (K:IntKind) (F:ShaF) (s v:S8):addC K F s v 0=s8V K v:=rfl
theorem addC_end (K:IntKind) (F:ShaF) (s v:S8):addC K F s v 8=s8V K (addS F s v):=rfl
theorem addC_size (K:IntKind) (F:ShaF) (s v:S8) (i:Nat):(addC K F s v i).size=8:=by
 simp [addC,wordsV,s8L]; omega
theorem s8V_at (K:IntKind) (s:S8) (i:Nat) (h:i<8):(s8V K s)[i]?=some (.int K (((s8L s).getD i 0:Nat):Int)):=by
 match i,h with
 | 0,_=>rfl
 | 1,_=>rfl
 | 2,_=>rfl
 | 3,_=>rfl
 | 4,_=>rfl
 | 5,_=>rfl
 | 6,_=>rfl
 | 7,_=>rfl
theorem addC_at (K:IntKind) (F:ShaF) (s v:S8) (i:Nat) (h:i<8):(addC K F s v i)[i]?=some (.int K (((s8L v).getD i 0:Nat):Int)):=by
 match i,h with
 | 0,_=>rfl
 | 1,_=>rfl
 | 2,_=>rfl
 | 3,_=>rfl
 | 4,_=>rfl
 | 5,_=>rfl
 | 6,_=>rfl
 | 7,_=>rfl
theorem addC_set (K:IntKind) (F:ShaF) (s v:S8) (i:Nat) (h:i<8):(addC K F s v i).setIfInBounds i (.int K ((((s8L v).getD i 0+(s8L s).getD i 0)%2^F.bits:Nat):Int))=addC K F s v (i+1):=by
 match i,h with
 | 0,_=>rfl
 | 1,_=>rfl
 | 2,_=>rfl
 | 3,_=>rfl
 | 4,_=>rfl
 | 5,_=>rfl
 | 6,_=>rfl
 | 7,_=>rfl
structure TabG (w:World):Prop where
 size:1<w.heap.size
 cell:∀ i,i<80→w.cell? ⟨1,i,none⟩=some (.int .u64 ((stepsN.getD i 0:Nat):Int))
theorem TabG.below {w w':World} {B:Nat} (h:TabG w) (hb:Below B w w') (hB:1<B):TabG w' :=
 ⟨Nat.lt_of_lt_of_le h.size hb.size,fun i hi=>(hb.cell (p:=⟨1,i,none⟩) hB).trans (h.cell i hi)⟩
end Go.Proofs.YtlkikjeccamheaaGreatDoor.Sh
namespace Go.Proofs.YtlkikjeccamheaaGreatDoor.Sh
set_option linter.unusedSimpArgs false
set_option linter.unusedVariables false
set_option maxRecDepth 100000
set_option maxHeartbeats 4000000
open Go.ChangeShapes Go.WideShapes Go.ChangeAt Go.RowKit Go.Joins
theorem gSteps:Tryz.prog.globalNamed "brevet/sha.steps" = some 1:=by kernel_rfl
theorem tSteps:(Tryz.prog.globals[1]?).map (·.type)=some 164:=by kernel_rfl
theorem c_u64:Tryz.prog.cellsOf 118=1:=by kernel_rfl
theorem steps_datum:(Rows.laid_brevet_sha_steps:DataW Unit)=.agg (stepsN.map fun n:Nat=>DataW.lit (.int .u64 (n:Int))):=by kernel_rfl
end Go.Proofs.YtlkikjeccamheaaGreatDoor.Sh
namespace Go.Proofs.YtlkikjeccamheaaGreatDoor
set_option linter.unusedSimpArgs false
set_option linter.unusedVariables false
set_option maxRecDepth 100000
set_option maxHeartbeats 4000000
open Go.ChangeShapes Go.WideShapes Go.ChangeAt Go.RowKit Go.Joins
def laidL3:List (String × DataW Unit):=[("brevet/sha.steps",Rows.laid_brevet_sha_steps),("unicode/utf8.acceptRanges",Rows.laid_unicode_utf8_acceptRanges),("unicode/utf8.first",Rows.laid_unicode_utf8_first)]
theorem door_met3 (os:Os) (args:Array Value):laidMetH Tryz.prog laidL3 ((World.laidAll Tryz.prog os laidL3).forCall (fun _ _=>0) ⟨#[],args,[]⟩).memory:=by
 rw [MakeChecks.laidMetH_plain _ _ _ (by kernel_rfl)];exact laidMet_laidAll _ (by kernel_rfl) (by kernel_rfl)
theorem tab_of_laid3 {W:World} (h:laidMetH Tryz.prog laidL3 W):Sh.TabG W:=by
 rw [MakeChecks.laidMetH_plain _ _ _ (by kernel_rfl)] at h;obtain ⟨ps,⟨g0,t0,cs0,f0,p0,q0,hg0,ht0,hv0,hd0,_,_⟩,_⟩:=h;obtain rfl:=Option.some.inj (Sh.gSteps.symm.trans hg0);obtain rfl:=Option.some.inj (Sh.tSteps.symm.trans ht0);obtain ⟨xs,m,rfl,hx,hlen,hn,hel⟩:=DataW.trod_array Tryz.underlying164 hd0;rw [Sh.steps_datum] at hx;simp only [Prod.mk.injEq,DataW.agg.injEq] at hx
 have hcell:∀ i,i<80→W.cell? ⟨1,i,none⟩=some (.int .u64 ((Sh.stepsN.getD i 0:Nat):Int)):=fun i hi=>by
  have h0:=hel i hi;rw [Sh.c_u64,Nat.mul_one] at h0;have hxl:i<xs.length:=by rw [hn]; exact hi
  have hsl:i<Sh.stepsN.length:=by rw [Sh.stepsN_length]; exact hi
  rw [List.getElem?_eq_getElem hxl] at h0;obtain ⟨k,e1,e2,_⟩:=DataW.trod_int Tryz.underlying118 h0;have h1:(xs.map (·.1))[i]?=(Sh.stepsN.map fun n:Nat=>DataW.lit (H:=Unit) (.int .u64 (n:Int)))[i]?:=by rw [hx.1]
  rw [List.getElem?_map,List.getElem?_map,List.getElem?_eq_getElem hxl,List.getElem?_eq_getElem hsl,e2] at h1;simp at h1;subst h1;rw [World.var?_cell hg0 hv0 i]
  have h2:(cs0.toList.drop i)[0]?=some (.int .u64 ((Sh.stepsN[i]:Nat):Int)):=by
   have:((cs0.toList.drop i).take 1)[0]?=some (.int .u64 ((Sh.stepsN[i]:Nat):Int)):=by rw [e1]; rfl
   rwa [List.getElem?_take,if_pos (by decide)] at this
  rw [List.getElem?_drop,Nat.add_zero] at h2;rw [List.getD_eq_getElem?_getD,List.getElem?_eq_getElem hsl,Option.getD_some,← h2];simp
 refine ⟨?_,hcell⟩;have:=World.block_lt_of_cell? W _ (hcell 0 (by decide));exact this
end Go.Proofs.YtlkikjeccamheaaGreatDoor
namespace Go.Proofs.YtlkikjeccamheaaGreatDoor
set_option linter.unusedSimpArgs false
set_option linter.unusedVariables false
set_option maxRecDepth 100000
set_option maxHeartbeats 4000000
open Go.RowKit
section
variable {α:Type}
def rowsV (f:α→Array Value) (l:List α):List Value:=l.flatMap fun x=>(f x).toList
theorem qbf (f:α→Array Value) (l r:List α):rowsV f (l++r)=rowsV f l++rowsV f r:=by simp [rowsV]
theorem qbM (f:α→Array Value) (x:α):rowsV f [x]=(f x).toList:=by simp [rowsV]
theorem rowsV_len {f:α→Array Value} {m:Nat} (hf:∀ x,(f x).size=m):∀ l:List α,(rowsV f l).length=l.length*m
 | []=>by simp [rowsV]
 | x :: r=>by
  have:=rowsV_len hf r;rw [show rowsV f (x :: r)=(f x).toList++rowsV f r by simp [rowsV],List.length_append,this];simp [hf,Nat.add_mul,Nat.add_comm]
theorem qcO {f:α→Array Value} {m:Nat} (hf:∀ x,(f x).size=m):∀ (l:List α) (i:Nat) (h:i<l.length) (j:Nat) (u:Value),(f l[i])[j]?=some u→(rowsV f l)[i*m+j]?=some u
 | x :: r,0,h,j,u,hu=>by
  rw [show rowsV f (x :: r)=(f x).toList++rowsV f r by simp [rowsV]];have hu':(f x)[j]?=some u:=by simpa using hu
  have hj:j<(f x).size:=(Array.getElem?_eq_some_iff.1 hu').1;rw [Nat.zero_mul,Nat.zero_add,List.getElem?_append_left (by simpa using hj),Array.getElem?_toList];exact hu'
 | x :: r,i+1,h,j,u,hu=>by
  have hi:i<r.length:=by simpa using h
  have:=qcO hf r i hi j u (by simpa using hu);have e:(i+1)*m=m+i*m:=by rw [Nat.add_mul]; omega
  rw [show rowsV f (x :: r)=(f x).toList++rowsV f r by simp [rowsV],List.getElem?_append_right (by simp [hf]; omega)];simp only [Array.length_toList,hf];rw [show (i+1)*m+j - m=i*m+j by omega];exact this
theorem rowsV_take {f:α→Array Value} {m:Nat} (hf:∀ x,(f x).size=m):∀ (l:List α) (k:Nat),rowsV f (l.take k)=(rowsV f l).take (k*m)
 | [],k=>by simp [rowsV]
 | x :: r,0=>by simp [rowsV]
 | x :: r,k+1=>by
  have:=rowsV_take hf r k;rw [List.take_succ_cons,show rowsV f (x :: r.take k)=(f x).toList++rowsV f (r.take k) by simp [rowsV],show rowsV f (x :: r)=(f x).toList++rowsV f r by simp [rowsV],this,List.take_append];have e:(k+1)*m=m+k*m:=by rw [Nat.add_mul]; omega
  rw [e];have hl:(f x).toList.length=m:=by simp [hf]
  rw [hl,List.take_of_length_le (l:=(f x).toList) (by rw [hl]; omega),Nat.add_sub_cancel_left]
theorem qaX {f:α→Array Value} {m:Nat} (hf:∀ x,(f x).size=m) (hm:0<m) {w:World} {B:Nat} {A:Option Addr} {l:List α} (h:Rd w B A (rowsV f l)) {i:Nat} (hi:i<l.length) :
  ∃ ad,A=some ad∧ad.block<B∧∀ j u,(f l[i])[j]?=some u→w.cell? ((ad.add (i*m)).add j)=some u:=by
 have h0:=qcO hf l i hi 0 _ (Array.getElem?_eq_getElem (by rw [hf]; exact hm));obtain ⟨ad,hA,hb,-⟩:=h _ _ h0;refine ⟨ad,hA,hb,fun j u hu=>?_⟩;obtain ⟨ad',hA',-,hc⟩:=h _ _ (qcO hf l i hi j u hu);rw [hA] at hA'
 injection hA' with e
 subst e;rw [← hc]
 congr 1
 generalize i*m=n;unfold Addr.add
 by_cases h1:n=0 <;> by_cases h2:j=0 <;> simp [h1,h2,Nat.add_assoc]
end
def Row (w:World) (B:Nat) (t:TypeId) (A:Option Addr) (xs:List Value):Prop :=
 ∀ i u,xs[i]?=some u→∃ ad cs fz,A=some ad∧ad.block<B∧w.cell? (ad.add i)=some u∧w.heap[ad.block]?=some (.cells cs t fz)
variable {w w':World} {B:Nat} {t:TypeId} {A:Option Addr} {xs:List Value}
theorem Row.rd (h:Row w B t A xs):Rd w B A xs:=fun i u hu=>by
 obtain ⟨ad,cs,fz,h1,h2,h3,_⟩:=h i u hu;exact ⟨ad,h1,h2,h3⟩
theorem Row.nil (w:World) (B:Nat) (t:TypeId) (A:Option Addr):Row w B t A []:=fun i u hu=>by simp at hu
theorem Row.below (h:Row w B t A xs) (hb:Below B w w'):Row w' B t A xs:=fun i u hu=>by
 obtain ⟨ad,cs,fz,h1,h2,h3,h4⟩:=h i u hu;exact ⟨ad,cs,fz,h1,h2,by rw [hb.cell (p:=ad.add i) (by rw [qaq]; exact h2)]; exact h3,by rw [hb.block _ h2]; exact h4⟩
theorem Row.mono {B':Nat} (h:Row w B t A xs) (hB:B≤B'):Row w B' t A xs:=fun i u hu=>by
 obtain ⟨ad,cs,fz,h1,h2,h3,h4⟩:=h i u hu;exact ⟨ad,cs,fz,h1,Nat.lt_of_lt_of_le h2 hB,h3,h4⟩
theorem Row.grow (h:Row w w.heap.size t A xs) (hb:Below w.heap.size w w'):Row w' w'.heap.size t A xs:=(h.below hb).mono hb.size
theorem Row.keep {e:TypeId} (h:Row w B t A xs) (hk:KeepBut e w w') (ht:t≠e):Row w' B t A xs:=fun i u hu=>by
 obtain ⟨ad,cs,fz,h1,h2,h3,h4⟩:=h i u hu;have h5:=qcq hk ht h4;refine ⟨ad,cs,fz,h1,h2,?_,h5⟩;rw [← h3];exact World.cell?_of_block (w:=w) (w':=w') (by rw [qaq,h5,h4])
theorem Row.of_own {base size n c:Nat} (h:OwnX w base t size (.slice A n c) n xs):Row w w.heap.size t A xs:=fun i u hu=>by
 obtain ⟨ad,h1,h2,h3⟩:=Rd.of_own h (Nat.le_refl _) i u hu
 rcases h.2 with ⟨hn,_⟩ | ⟨g,cap,cur,fz,hv,hb,hgg,hrest⟩
 ·simp at hn;rw [hn.1] at h1;simp at h1
 ·simp at hv;rw [hv.1] at h1
  injection h1 with h1
  subst h1;exact ⟨_,_,_,hv.1,h2,h3,hgg⟩
theorem Row.take (h:Row w B t A xs) (k:Nat):Row w B t A (xs.take k):=fun i u hu=>by
 rw [List.getElem?_take] at hu
 split at hu
 ·exact h i u hu
 ·simp at hu
theorem Row.drop {ad:Addr} (h:Row w B t (some ad) xs) (k:Nat):Row w B t (some (ad.add k)) (xs.drop k):=fun i u hu=>by
 rw [List.getElem?_drop] at hu;obtain ⟨ad',cs,fz,h1,h2,h3,h4⟩:=h _ u hu
 injection h1 with h1
 subst h1;refine ⟨_,cs,fz,rfl,by rw [qaq]; exact h2,?_,by rw [qaq]; exact h4⟩;rw [← h3]
 congr 1
 unfold Addr.add
 by_cases e1:k=0 <;> by_cases e2:i=0 <;> simp [e1,e2,Nat.add_assoc]
end Go.Proofs.YtlkikjeccamheaaGreatDoor
namespace Go.Proofs.YtlkikjeccamheaaGreatDoor.Js
set_option linter.unusedSimpArgs false
set_option linter.unusedVariables false
set_option maxRecDepth 100000
set_option maxHeartbeats 4000000
abbrev Bs:=List UInt8
def bs (l:Bs):ByteArray:=⟨l.toArray⟩
inductive JT where
 | mk (kind num:Int) (text:Bs) (names:List Bs) (kids:List JT)
theorem JT.ind {p:JT→Prop} (h:∀ k n t ns ks,(∀ x ∈ ks,p x)→p (.mk k n t ns ks)):∀ j,p j
 | .mk k n t ns ks=>h k n t ns ks (fun x _=>JT.ind h x)
def jzero:JT:=.mk 0 0 [] [] []
def isBl (c:UInt8):Bool:=c == 32 || c == 9 || c == 10 || c == 13
def skip:Bs→Bs
 | []=>[]
 | c :: r=>if isBl c then skip r else c :: r
def look:Bs→UInt8
 | []=>0
 | c :: _=>c
def signP (c:UInt8) (r:Bs):Bool × Bs:=if look (skip r)=c then (true,skip (skip r).tail) else (false,skip r)
def mustP (c:UInt8) (r:Bs):Except Int Bs:=if look (skip r)=c then .ok (skip (skip r).tail) else .error 13
def esc (c:UInt8):Option UInt8 :=
 if c=34 then some 34 else if c=92 then some 92 else if c=47 then some 47 else if c=98 then some 8 else if c=102 then some 12
 else if c=110 then some 10 else if c=114 then some 13 else if c=116 then some 9 else none
def low (c:UInt8):UInt8:=if 65≤c∧c≤70 then c+32 else c
def hexv (c:UInt8):Option Nat:=if 48≤c∧c≤57 then some (c.toNat - 48) else if 97≤c∧c≤102 then some (c.toNat - 87) else none
def hexP (a0 a1 a2 a3:UInt8):Option UInt8 :=
 if a0=48∧a1=48 then match hexv (low a2),hexv (low a3) with
  | some x,some y=>if 16*x+y≤126 then some (UInt8.ofNat (16*x+y)) else none
  | _,_=>none
 else none
def escP:Bs→Option (UInt8 × Bs)
 | []=>none
 | d :: r=>match esc d with
  | some b=>some (b,r)
  | none=>if d=117 then match r with
    | a0 :: a1 :: a2 :: a3 :: r2=>match hexP a0 a1 a2 a3 with
     | some b=>some (b,r2)
     | none=>none
    | _=>none
   else none
theorem escP_len {r:Bs} {b:UInt8} {r':Bs} (h:escP r=some (b,r')):r'.length<r.length:=by
 unfold escP at h
 split at h
 ·simp at h
 ·split at h
  ·injection h with h; injection h with h1 h2; subst h2; simp
  ·split at h
   ·split at h
    ·split at h
     ·injection h with h; injection h with h1 h2; subst h2; simp; omega
     ·simp at h
    ·simp at h
   ·simp at h
def strA:Nat→Bs→Bs→Option (Bs × Bs)
 | 0,_,_=>none
 | _+1,_,[]=>none
 | n+1,acc,c :: r =>
  if c<32∨126<c then none
  else if c=34 then some (acc,r)
  else if c=92 then match escP r with
   | some (b,r')=>strA n (acc++[b]) r'
   | none=>none
  else strA n (acc++[c]) r
def textP (r:Bs):Option (Bs × Bs):=if look r=34 then strA r.length [] r.tail else none
def isDig (c:UInt8):Bool:=48≤c && c≤57
def takeD:Nat→Bs→Bs × Bs
 | n+1,c :: r=>if isDig c then (c :: (takeD n r).1,(takeD n r).2) else ([],c :: r)
 | 0,r=>([],r)
 | _,[]=>([],[])
def decV (n:Nat) (d:Bs):Nat:=d.foldl (fun n c=>10*n+(c.toNat - 48)) n
def negP (r:Bs):Bool:=look r == 45
def digP (r:Bs):Bs × Bs:=takeD 17 (if negP r then r.tail else r)
def badN (neg:Bool) (d:Bs):Bool:=d.isEmpty || (look d == 48 && (1<d.length || neg)) || 1000000000000000<decV 0 d
def numP (r:Bs):Option (Int × Bs) :=
 if badN (negP r) (digP r).1=true then none else some (if negP r=true then -(decV 0 (digP r).1:Int) else (decV 0 (digP r).1:Int),(digP r).2)
def wordP (w r:Bs):Option Bs:=if w.isPrefixOf r then some (r.drop w.length) else none
def nameP (ns:List Bs) (r:Bs):Except Int (List Bs × Bs) :=
 match textP r with
 | none=>.error 13
 | some (s,r1)=>if s ∈ ns then .error 8 else match mustP 58 r1 with
  | .error e=>.error e
  | .ok r2=>.ok (ns++[s],r2)
def endC (m:Bool):UInt8:=if m then 125 else 93
def commaP (e:Bool) (r:Bs):Except Int Bs:=if e=true then .ok r else mustP 44 r
def keyP (m:Bool) (ns:List Bs) (r:Bs):Except Int (List Bs × Bs):=if m=true then nameP ns r else .ok (ns,r)
def listL (val:Bs→Except Int (JT × Bs)) (m:Bool):Nat→List Bs→List JT→Bs→Except Int (List Bs × List JT × Bs)
 | 0,_,_,_=>.error 13
 | n+1,ns,ks,r =>
  match signP (endC m) r with
  | (true,r1)=>.ok (ns,ks,r1)
  | (false,r1)=>match commaP ks.isEmpty r1 with
   | .error e=>.error e
   | .ok r2=>match keyP m ns r2 with
    | .error e=>.error e
    | .ok (ns',r3)=>match val r3 with
     | .error e=>.error e
     | .ok (k,r4)=>listL val m n ns' (ks++[k]) r4
theorem listL_ok {val:Bs→Except Int (JT × Bs)} {m:Bool} {n:Nat} {ns:List Bs} {ks:List JT} {r:Bs} {x:List Bs × List JT × Bs} (h:listL val m (n+1) ns ks r=.ok x) :
  (∃ r1,signP (endC m) r=(true,r1)∧x=(ns,ks,r1)) ∨
  ∃ r1 r2 ns' r3 k r4,signP (endC m) r=(false,r1)∧commaP ks.isEmpty r1=.ok r2∧keyP m ns r2=.ok (ns',r3)∧val r3=.ok (k,r4)∧listL val m n ns' (ks++[k]) r4=.ok x:=by
 rw [listL] at h
 split at h
 ·rename_i r1 h1
  injection h with h
  exact .inl ⟨r1,h1,h.symm⟩
 ·rename_i r1 h1
  split at h
  ·simp at h
  ·rename_i r2 h2
   split at h
   ·simp at h
   ·rename_i ns' r3 h3
    split at h
    ·simp at h
    ·rename_i k r4 h4
     exact .inr ⟨r1,r2,ns',r3,k,r4,h1,h2,h3,h4,h⟩
def listP (val:Bs→Except Int (JT × Bs)) (r:Bs):Except Int (JT × Bs) :=
 match listL val (look r == 123) r.length [] [] (skip r.tail) with
 | .error e=>.error e
 | .ok (ns,ks,r')=>.ok (.mk (if look r == 123 then 5 else 4) 0 [] ns ks,r')
def optR {α:Type}:Option (α × Bs)→(α→JT)→Except Int (JT × Bs)
 | none,_=>.error 13
 | some (a,r),f=>.ok (f a,r)
def wordR (w r:Bs) (v:JT):Except Int (JT × Bs):=match wordP w r with
 | none=>.error 13
 | some r'=>.ok (v,r')
def jtrue:JT:=.mk 1 1 [] [] []
def jfalse:JT:=.mk 1 0 [] [] []
def jint (n:Int):JT:=.mk 2 n [] [] []
def jtext (s:Bs):JT:=.mk 3 0 s [] []
def rawP (lp:Bs→Except Int (JT × Bs)) (r:Bs):Except Int (JT × Bs) :=
 if look r=110 then wordR [110,117,108,108] r jzero
 else if look r=116 then wordR [116,114,117,101] r jtrue
 else if look r=102 then wordR [102,97,108,115,101] r jfalse
 else if look r=34 then optR (textP r) jtext
 else if look r=91∨look r=123 then lp r
 else optR (numP r) jint
def skipR:Except Int (JT × Bs)→Except Int (JT × Bs)
 | .error e=>.error e
 | .ok (v,r)=>.ok (v,skip r)
def valueP:Nat→Bs→Except Int (JT × Bs)
 | 0,r=>skipR (rawP (fun _=>.error 9) (skip r))
 | d+1,r=>skipR (rawP (listP (valueP d)) (skip r))
def readP (s:Bs):Except Int JT :=
 if 2000<s.length then .error 4 else match valueP 6 s with
  | .error e=>.error e
  | .ok (v,[])=>.ok v
  | .ok (_,_ :: _)=>.error 13
def hexd (n:Nat):UInt8:=if n<10 then UInt8.ofNat (48+n) else UInt8.ofNat (87+n)
def quoteC (c:UInt8):Bs:=if c<32 then [92,117,48,48,hexd (c.toNat/16),hexd (c.toNat%16)] else if c=34∨c=92 then [92,c] else [c]
def quote (s:Bs):Bs:=34 :: (s.flatMap quoteC++[34])
def dg (k:Nat):UInt8:=UInt8.ofNat (48+k)
def digB:Nat→Nat→Bs
 | 0,_=>[]
 | f+1,n=>if n<10 then [dg n] else digB f (n/10)++[dg (n%10)]
def intB (n:Int):Bs:=if n<0 then 45 :: digB 16 n.natAbs else digB 16 n.natAbs
mutual
def writeV:JT→Bs
 | .mk k n t ns ks =>
  if k=0 then [110,117,108,108]
  else if k=1 then (if n=1 then [116,114,117,101] else [102,97,108,115,101])
  else if k=2 then intB n
  else if k=3 then quote t
  else (if k=5 then 123 else 91) :: (itemsV (k == 5) ns ks true++[if k=5 then 125 else 93])
def itemsV:Bool→List Bs→List JT→Bool→Bs
 | _,_,[],_=>[]
 | m,ns,k :: r,f=>(if f then [] else [44])++((if m then quote (ns.headD [])++[58] else [])++(writeV k++itemsV m ns.tail r false))
end
def okT (s:Bs):Bool:=s.all fun c=>c≤126
def plainJ (k n:Int) (t:Bs) (ns:List Bs) (ks:List JT):Bool :=
 (n == 0 || k == 2 || (k == 1 && n == 1)) && (ks.isEmpty || k == 4 || k == 5) && (ns.isEmpty || k == 5) && (t.isEmpty || k == 3)
def distinct:List Bs→Bool
 | []=>true
 | x :: r=>!r.contains x && distinct r
mutual
def rightV:Nat→JT→Bool
 | d,.mk k n t ns ks=>plainJ k n t ns ks && !(d == 0 && 4≤k) && (0≤k && k≤5) && (k != 5 || ns.length == ks.length) && okT t && ns.all okT
   && (k != 2 || (-1000000000000000≤n && n≤1000000000000000)) && distinct ns && rightsV (d - 1) ks
def rightsV:Nat→List JT→Bool
 | _,[]=>true
 | d,k :: r=>rightV d k && rightsV d r
end
theorem qaS (d:Nat):∀ ks:List JT,rightsV d ks=true↔∀ k ∈ ks,rightV d k=true
 | []=>by simp [rightsV]
 | k :: r=>by simp [rightsV,qaS d r]
theorem qaJ:∀ r:Bs,(skip r).length≤r.length
 | []=>by simp [skip]
 | c :: r=>by
  have:=qaJ r;unfold skip
  split <;> simp <;> omega
theorem strA_len:∀ (n:Nat) (acc r:Bs) {s r':Bs},strA n acc r=some (s,r')→r'.length<r.length
 | 0,acc,r,s,r',h=>by simp [strA] at h
 | n+1,acc,[],s,r',h=>by simp [strA] at h
 | n+1,acc,c :: r,s,r',h=>by
  unfold strA at h
  split at h
  ·simp at h
  ·split at h
   ·injection h with h; injection h with h1 h2; subst h2; simp
   ·split at h
    ·split at h
     ·rename_i b r1 he
      have h1:=escP_len he;have h2:=strA_len n _ _ h;simp; omega
     ·simp at h
    ·have h2:=strA_len n _ _ h;simp; omega
theorem textP_len {r s r':Bs} (h:textP r=some (s,r')):r'.length<r.length:=by
 unfold textP at h
 split at h
 ·have:=strA_len _ _ _ h
  cases r <;> simp at*<;> omega
 ·simp at h
theorem takeD_len:∀ (n:Nat) (r:Bs),(takeD n r).1.length+(takeD n r).2.length=r.length
 | 0,r=>by simp [takeD]
 | n+1,[]=>by simp [takeD]
 | n+1,c :: r=>by
  have:=takeD_len n r;unfold takeD
  split <;> simp; omega
theorem numP_ok {r r':Bs} {n:Int} (h:numP r=some (n,r')):badN (negP r) (digP r).1=false∧n=(if negP r=true then -(decV 0 (digP r).1:Int) else (decV 0 (digP r).1:Int))∧r'=(digP r).2:=by
 unfold numP at h
 split at h
 ·simp at h
 ·rename_i hc
  injection h with h; injection h with h1 h2
  exact ⟨by simpa using hc,h1.symm,h2.symm⟩
theorem numP_len {r r':Bs} {n:Int} (h:numP r=some (n,r')):r'.length<r.length:=by
 obtain ⟨h1,h2,rfl⟩:=numP_ok h;have h3:=takeD_len 17 (if negP r then r.tail else r);have h4:(digP r).1≠[]:=fun h=>by simp [badN,h] at h1
 have h5:=List.length_pos_iff.2 h4;have h6:(if negP r then r.tail else r).length≤r.length:=by split <;> simp
 unfold digP at h5 ⊢;omega
theorem qbN {c:UInt8} {r r':Bs} (h:mustP c r=.ok r'):r'.length≤r.length:=by
 unfold mustP at h
 split at h
 ·injection h with h; subst h
  have h1:=qaJ (skip r).tail;have h2:=qaJ r;simp at h1;omega
 ·simp at h
theorem qbJ (c:UInt8) (r:Bs):(signP c r).2.length≤r.length:=by
 have h2:=qaJ r;unfold signP
 split
 ·have h1:=qaJ (skip r).tail;simp at h1 ⊢;omega
 ·exact h2
theorem qdm {ns ns':List Bs} {r r':Bs} (h:nameP ns r=.ok (ns',r')):r'.length≤r.length:=by
 unfold nameP at h
 split at h
 ·simp at h
 ·rename_i s r1 ht
  split at h
  ·simp at h
  ·split at h
   ·simp at h
   ·rename_i r2 hm
    injection h with h; injection h with h1 h2; subst h2
    have:=textP_len ht;have:=qbN hm;omega
theorem qcf {w r r':Bs} {v v':JT} (hw:w≠[]) (h:wordR w r v=.ok (v',r')):r'.length<r.length:=by
 unfold wordR wordP at h
 split at h
 ·simp at h
 ·rename_i r1 hr
  split at hr
  ·rename_i hp
   injection hr with hr
   injection h with h; injection h with h1 h2
   rw [← h2,← hr];have:=List.IsPrefix.length_le (List.isPrefixOf_iff_prefix.1 hp);have:=List.length_pos_iff.2 hw;simp; omega
  ·simp at hr
theorem listL_len (val:Bs→Except Int (JT × Bs)) (m:Bool) (hv:∀ {r v r'},val r=.ok (v,r')→r'.length<r.length):∀ (n:Nat) (ns:List Bs) (ks:List JT) (r:Bs) {ns':List Bs} {ks':List JT} {r':Bs},listL val m n ns ks r=.ok (ns',ks',r')→r'.length≤r.length
 | 0,ns,ks,r,ns',ks',r',h=>by simp [listL] at h
 | n+1,ns,ks,r,ns',ks',r',h=>by
  have hs:=qbJ (endC m) r
  rcases listL_ok h with ⟨r1,h1,h2⟩ | ⟨r1,r2,ns1,r3,k,r4,h1,h2,h3,h4,h5⟩
  ·injection h2 with h2 h3; injection h3 with h3 h4; subst h4
   rw [h1] at hs;exact hs
  ·rw [h1] at hs
   have l2:r2.length≤r1.length:=by
    unfold commaP at h2
    split at h2
    ·injection h2 with h2; subst h2; exact Nat.le_refl _
    ·have:=qbN h2; omega
   have l3:r3.length≤r2.length:=by
    unfold keyP at h3
    split at h3
    ·exact qdm h3
    ·injection h3 with h3; injection h3 with h3 h4; subst h4; exact Nat.le_refl _
   have:=hv h4;have:=listL_len val m hv n _ _ _ h5;simp at hs;omega
theorem rawP_len {lp:Bs→Except Int (JT × Bs)} (hl:∀ {r v r'},lp r=.ok (v,r')→r≠[]→r'.length<r.length) {r:Bs} {v:JT} {r':Bs} (h:rawP lp r=.ok (v,r')):r'.length<r.length:=by
 unfold rawP at h
 split at h
 ·exact qcf (by simp) h
 split at h
 ·exact qcf (by simp) h
 split at h
 ·exact qcf (by simp) h
 split at h
 ·unfold optR at h
  split at h
  ·simp at h
  ·rename_i ht
   injection h with h; injection h with h1 h2; subst h2
   exact textP_len ht
 split at h
 ·rename_i hq
  exact hl h (by rintro rfl; simp [look] at hq)
 ·unfold optR at h
  split at h
  ·simp at h
  ·rename_i ht
   injection h with h; injection h with h1 h2; subst h2
   exact numP_len ht
theorem listP_len {val:Bs→Except Int (JT × Bs)} (hv:∀ {r v r'},val r=.ok (v,r')→r'.length<r.length) {r:Bs} {v:JT} {r':Bs} (h:listP val r=.ok (v,r')) (hr:r≠[]):r'.length<r.length:=by
 unfold listP at h
 split at h
 ·simp at h
 ·rename_i ht
  injection h with h; injection h with h1 h2; subst h2
  have h1:=listL_len val _ hv _ _ _ _ ht;have h2:=qaJ r.tail;have:=List.length_pos_iff.2 hr;simp at h2;omega
theorem qbv {x:Except Int (JT × Bs)} {v:JT} {r:Bs} (h:skipR x=.ok (v,r)):∃ r0,x=.ok (v,r0)∧r=skip r0:=by
 unfold skipR at h
 split at h
 ·simp at h
 ·rename_i v1 r1
  injection h with h; injection h with h1 h2; subst h1 h2
  exact ⟨_,rfl,rfl⟩
theorem valueP_len:∀ (d:Nat) {r:Bs} {v:JT} {r':Bs},valueP d r=.ok (v,r')→r'.length<r.length
 | 0,r,v,r',h=>by
  obtain ⟨r0,h1,rfl⟩:=qbv h;have:=rawP_len (by intro _ _ _ h; simp at h) h1;have:=qaJ r;have:=qaJ r0;omega
 | d+1,r,v,r',h=>by
  obtain ⟨r0,h1,rfl⟩:=qbv h;have:=rawP_len (fun h hr=>listP_len (fun h=>valueP_len d h) h hr) h1;have:=qaJ r;have:=qaJ r0;omega
end Go.Proofs.YtlkikjeccamheaaGreatDoor.Js
namespace Go.Proofs.YtlkikjeccamheaaGreatDoor.Js
set_option linter.unusedSimpArgs false
set_option linter.unusedVariables false
set_option maxRecDepth 100000
set_option maxHeartbeats 4000000
open Go.RowKit
structure JV where
 k:Int
 n:Int
 t:Bs
 nA:Option Addr
 nn:Nat
 nc:Nat
 kA:Option Addr
 kn:Nat
 kc:Nat
def jvCells (v:JV):Array Value:=#[.int .i64 v.k,.int .i64 v.n,.string (bs v.t),.slice v.nA v.nn v.nc,.slice v.kA v.kn v.kc]
def sCell (s:Bs):Array Value:=#[.string (bs s)]
theorem bs_self (s:ByteArray):bs s.data.toList=s:=by
 cases s
 rfl
theorem bs_inj {a b:Bs} (h:bs a=bs b):a=b:=by
 unfold bs at h
 injection h with h
 simpa using congrArg Array.toList h
theorem qaB (s:Bs):(bs s).size=s.length:=by simp [bs,ByteArray.size]
theorem qbr (a b:Bs):bs a++bs b=bs (a++b):=by
 apply ByteArray.ext;simp [bs]
theorem qai (k:JV):(jvCells k).all (·.oneCell')=true:=by simp [jvCells,Value.oneCell']
def RdS (w:World) (S:Nat→Prop) (A:Option Addr) (xs:List Value):Prop:=∀ i u,xs[i]?=some u→∃ ad,A=some ad∧S ad.block∧w.cell? (ad.add i)=some u
section
variable {w w':World} {S S':Nat→Prop} {A:Option Addr} {xs:List Value} {B:Nat}
theorem RdS.nil (w:World) (S:Nat→Prop) (A:Option Addr):RdS w S A []:=fun i u hu=>by simp at hu
theorem RdS.lt (h:RdS w S A xs) {i:Nat} {u:Value} (hu:xs[i]?=some u):∃ ad,A=some ad∧S ad.block∧ad.block<w.heap.size∧w.cell? (ad.add i)=some u:=by
 obtain ⟨ad,h1,h2,h3⟩:=h i u hu;refine ⟨ad,h1,h2,?_,h3⟩;have:=World.block_lt_of_cell? w _ h3
 rwa [qaq] at this
theorem RdS.rd (h:RdS w S A xs) (hS:∀ b,b<w.heap.size→S b→b<B):Rd w B A xs:=fun i u hu=>by
 obtain ⟨ad,h1,h2,h3,h4⟩:=h.lt hu;exact ⟨ad,h1,hS _ h3 h2,h4⟩
theorem RdS.imp (h:RdS w S A xs) (hS:∀ b,b<w.heap.size→S b→S' b):RdS w S' A xs:=fun i u hu=>by
 obtain ⟨ad,h1,h2,h3,h4⟩:=h.lt hu;exact ⟨ad,h1,hS _ h3 h2,h4⟩
theorem RdS.of_rd (h:Rd w B A xs):RdS w (fun b=>b<B) A xs:=fun i u hu=>h i u hu
theorem RdS.heap (h:RdS w S A xs) (hk:∀ b,b<w.heap.size→S b→w'.heap[b]?=w.heap[b]?):RdS w' S A xs:=fun i u hu=>by
 obtain ⟨ad,h1,h2,h3,h4⟩:=h.lt hu;refine ⟨ad,h1,h2,?_⟩;rw [← h4];exact World.cell?_of_block (w:=w) (w':=w') (by rw [qaq]; exact hk _ h3 h2)
end
inductive JRep (w:World) (S:Nat→Prop):JT→JV→Prop
 | mk (v:JV) (ns:List Bs) (ks:List JT) (kv:List JV) (hn:v.nn=ns.length) (hnc:v.nn≤v.nc) (hnr:RdS w S v.nA (rowsV sCell ns)) (hk:v.kn=ks.length) (hkc:v.kn≤v.kc) (hkv:kv.length=ks.length)
   (hkr:RdS w S v.kA (rowsV jvCells kv)) (hkids:∀ i (h:i<ks.length) (h':i<kv.length),JRep w S ks[i] kv[i]):JRep w S (.mk v.k v.n v.t ns ks) v
section
variable {w w':World} {S S':Nat→Prop} {j:JT} {v:JV}
theorem JRep.imp (h:JRep w S j v) (hS:∀ b,b<w.heap.size→S b→S' b):JRep w S' j v:=by
 induction h with
 | mk v ns ks kv hn hnc hnr hk hkc hkv hkr hkids ih=>exact .mk v ns ks kv hn hnc (hnr.imp hS) hk hkc hkv (hkr.imp hS) ih
theorem JRep.heap (h:JRep w S j v) (hk:∀ b,b<w.heap.size→S b→w'.heap[b]?=w.heap[b]?):JRep w' S j v:=by
 induction h with
 | mk v ns ks kv hn hnc hnr hk' hkc hkv hkr hkids ih=>exact .mk v ns ks kv hn hnc (hnr.heap hk) hk' hkc hkv (hkr.heap hk) ih
theorem JRep.under {B:Nat} (h:JRep w (fun b=>b<B) j v) (hb:Below B w w'):JRep w' (fun b=>b<B) j v:=h.heap fun b _ hlt=>hb.block b hlt
theorem JRep.grown {g:Option Nat} (h:JRep w S j v) (hg:w.grownBy w' g) (hS:∀ b,S b→some b≠g):JRep w' S j v:=h.heap fun b hlt hs=>hg.block b hlt (hS b hs)
theorem JRep.inv (h:JRep w S j v):∃ ns ks kv,j=.mk v.k v.n v.t ns ks∧v.nn=ns.length∧v.nn≤v.nc∧RdS w S v.nA (rowsV sCell ns)∧v.kn=ks.length∧v.kn≤v.kc∧kv.length=ks.length ∧
  RdS w S v.kA (rowsV jvCells kv)∧∀ i (h:i<ks.length) (h':i<kv.length),JRep w S ks[i] kv[i]:=by
 cases h with
 | mk v ns ks kv hn hnc hnr hk hkc hkv hkr hkids=>exact ⟨ns,ks,kv,rfl,hn,hnc,hnr,hk,hkc,hkv,hkr,hkids⟩
end
def zJV:JV:=⟨0,0,[],none,0,0,none,0,0⟩
theorem JRep.flat (w:World) (S:Nat→Prop) (k n:Int) (t:Bs):JRep w S (.mk k n t [] []) ⟨k,n,t,none,0,0,none,0,0⟩ :=
 .mk ⟨k,n,t,none,0,0,none,0,0⟩ [] [] [] rfl (Nat.le_refl _) (RdS.nil _ _ _) rfl (Nat.le_refl _) rfl (RdS.nil _ _ _) (fun i h _=>by simp at h)
theorem odd1_any (r:Int) (w:World):Calls Tryz.prog 61 #[.int .i32 r] w fun e w'=>e=.returned (.bool (decide (126<r)))∧w'=w:=by
 go_enter Tryz.func61,Tryz.ntmps61;go_wp2_with fail;go_ret;exact ⟨rfl,rfl⟩
theorem decodeN_big (n b0 b1 b2 b3:Nat) (h:128≤b0):126<(Lib.decodeN n b0 b1 b2 b3).1:=by
 unfold Lib.decodeN;rw [if_neg (by omega)]
 repeat' split
 all_goals first | (show 126<65533; decide) | (show 126<_; omega)
theorem decode_big {s:ByteArray} {pos:Nat} (h:pos<s.size) (hb:126<(s[pos]'h).toNat):126<(Utf8.decode s pos).1:=by
 by_cases h8:(s[pos]'h).toNat<128
 ·rw [decode_ascii s pos h h8];exact hb
 ·rw [Lib.decode_at]
  have:(s.get! pos).toNat=(s[pos]'h).toNat:=by
   cases s with
   | mk d=>exact congrArg UInt8.toNat (getElem!_pos d pos h)
  have h2:=decodeN_big (s.size - pos) (s.get! pos).toNat (s.get! (pos+1)).toNat (s.get! (pos+2)).toNat (s.get! (pos+3)).toNat (by rw [this]; omega);exact h2
theorem idxf_any (s:ByteArray) (w:World) :
  Calls Tryz.prog 119 #[.string s,.func (.func 61) #[] #[],.bool true] w fun e w'=>(∃ k:Int,e=.returned (.int .i64 k)∧decide (0≤k)=!okT s.data.toList)∧Below w.heap.size w w':=by
 have eg:∀ args w,(callFunc 61 args).run Tryz.prog w=.ok (.enter 61 args) w:=enters_of Tryz.func61 (by kernel_rfl) rfl;have C:=zY odd1_any;go_enter Tryz.func119,Tryz.ntmps119;go_wp2_with fail
 go_loopg [] s.size (fun gf wx=>∃ pos:Nat,wx.heap[w.heap.size]?=some (.stringIter s pos)∧Below w.heap.size w wx∧pos+gf=s.size∧okT (s.data.toList.take pos)=true)
 case atStart=>exact ⟨0,World.iter_heap w s 0,(Below.refl _ w).alloc (Nat.le_refl _) _,by omega,rfl⟩
 case round =>
  obtain ⟨pos,hit,hbw,hfu,hok⟩:=hrel
  by_cases hps:pos<s.size
  ·obtain ⟨g',rfl⟩:∃ g',gk=g'+1:=⟨gk - 1,by omega⟩;have hpl:pos<s.data.toList.length:=hps
   have hst:okT (s.data.toList.take (pos+1))=(okT (s.data.toList.take pos) && decide ((s[pos]'hps).toNat≤126)):=by
    rw [List.take_succ_eq_append_getElem hpl];simp [okT,UInt8.le_iff_toNat_le];rfl
   by_cases hc:(s[pos]'hps).toNat≤126
   ·have hnx:∀ ty,(Instr.next (.pointer (some ⟨w.heap.size,0,none⟩)) true ty).run Tryz.prog wr=_:=fun ty=>Lib.run_next_ascii_at wr w.heap.size s pos ty hit hps (by omega);have HIT:=zY (Lib.iterAt_heap wr w.heap.size s pos (pos+1) hit);have HBW:=zY (Lib.below_iterAt hbw (k:=w.heap.size) (Nat.le_refl _) s (pos+1));have HOK:=zY (show okT (s.data.toList.take (pos+1))=true by rw [hst,hok]; simpa using hc);obtain ⟨n,hn⟩:∃ n,(s[pos]'hps).toNat=n:=⟨_,rfl⟩;rw [hn] at hnx hc;have hd:decide (126<(n:Int))=false:=by simp; omega
    have HFU:=zY hfu;obtain ⟨W,hWd⟩:∃ W,wr.iterAt w.heap.size s (pos+1)=W:=⟨_,rfl⟩;rw [hWd] at hnx HIT HBW;clear hit hbw hst hok hc hn hfu hpl hps;go_wp2_with (go_at_call 61; refine qaa (C.out _ _) ?_; rintro e W' ⟨rfl,rfl⟩)
    go_roundg g'
    case measure=>omega
    case rel=>exact ⟨pos+1,HIT.out,HBW.out,by have:=HFU.out; omega,HOK.out⟩
   ·have hnx:∀ ty,(Instr.next (.pointer (some ⟨w.heap.size,0,none⟩)) true ty).run Tryz.prog wr=_:=fun ty=>Lib.run_next_any_at wr w.heap.size s pos ty hit hps;have HBW:=zY (Lib.below_iterAt hbw (k:=w.heap.size) (Nat.le_refl _) s (pos+(Utf8.decode s pos).2));have HB:=zY (decode_big hps (by omega))
    have HNO:=zY (show okT s.data.toList=false by
     cases hq:okT s.data.toList with
     | false=>rfl
     | true =>
      unfold okT at hq;have:=List.all_eq_true.1 hq _ (List.getElem_mem hpl);simp [UInt8.le_iff_toNat_le] at this;exact absurd this hc)
    obtain ⟨r,hr⟩:∃ r,(Utf8.decode s pos).1=r:=⟨_,rfl⟩;rw [hr] at hnx HB;have hd:decide (126<(r:Int))=true:=by have:=HB.out; simp; omega
    obtain ⟨W,hWd⟩:∃ W,wr.iterAt w.heap.size s (pos+(Utf8.decode s pos).2)=W:=⟨_,rfl⟩;rw [hWd] at hnx HBW;clear hit hbw hst hok hc hr hfu hpl hps;go_wp2_with (go_at_call 61; refine qaa (C.out _ _) ?_; rintro e W' ⟨rfl,rfl⟩);go_ret;exact ⟨⟨_,rfl,by rw [HNO.out]; simp⟩,HBW.out⟩
  ·have hnx:∀ ty,(Instr.next (.pointer (some ⟨w.heap.size,0,none⟩)) true ty).run Tryz.prog wr=_:=fun ty=>Lib.run_next_end_at wr w.heap.size s pos ty hit hps;have HBW:=zY hbw
   have HOK:=zY (show okT s.data.toList=true by
    have:s.data.toList.take pos=s.data.toList:=List.take_of_length_le (by show s.size≤pos; omega)
    rwa [this] at hok)
   clear hit hbw hok hfu hps;go_wp2_with fail;go_ret;exact ⟨⟨_,rfl,by rw [HOK.out]; simp⟩,HBW.out⟩
theorem strf_any (s:ByteArray) (w:World) :
  Calls Tryz.prog 94 #[.string s,.func (.func 61) #[] #[]] w fun e w'=>(∃ k:Int,e=.returned (.int .i64 k)∧decide (0≤k)=!okT s.data.toList)∧Below w.heap.size w w':=by
 have C:=zY (idxf_any s w);go_enter Tryz.func94,Tryz.ntmps94;go_wp2_with fail;refine qaa C.out ?_;rintro e w1 ⟨⟨k,rfl,hk⟩,hb⟩;have HB:=zY hb;have HK:=zY hk;clear hb hk;go_wp2_with fail;go_ret;exact ⟨⟨_,rfl,HK.out⟩,HB.out⟩
theorem conf_any (s:ByteArray) (w:World) :
  Calls Tryz.prog 60 #[.string s,.func (.func 61) #[] #[]] w fun e w'=>e=.returned (.bool (!okT s.data.toList))∧Below w.heap.size w w':=by
 have C:=zY (strf_any s w);go_enter Tryz.func60,Tryz.ntmps60;go_wp2_with fail;refine qaa C.out ?_;rintro e w1 ⟨⟨k,rfl,hk⟩,hb⟩;have HB:=zY hb;have HK:=zY hk;clear hb hk;go_wp2_with fail;go_ret;exact ⟨by rw [← HK.out]; rfl,HB.out⟩
theorem odd_any (s:ByteArray) (w:World) :
  Calls Tryz.prog 59 #[.string s] w fun e w'=>e=.returned (.bool (!okT s.data.toList))∧Below w.heap.size w w':=by
 have C:=zY (conf_any s w);go_enter Tryz.func59,Tryz.ntmps59;go_wp2_with fail;refine qaa C.out ?_;rintro e w1 ⟨rfl,hb⟩;have HB:=zY hb;clear hb;go_wp2_with fail;go_ret;exact ⟨rfl,HB.out⟩
theorem idxs_any (l:List Bs) (A:Option Addr) (c B:Nat) (w:World) (hr:Rd w B A (rowsV sCell l)) (hB:B≤w.heap.size) (hl:l.length≤1099511627776) :
  Calls Tryz.prog 95 #[.slice A l.length c,.func (.func 59) #[] #[]] w fun e w'=>(∃ k:Int,e=.returned (.int .i64 k)∧decide (0≤k)=!l.all okT)∧Below w.heap.size w w':=by
 have eg:∀ args w,(callFunc 59 args).run Tryz.prog w=.ok (.enter 59 args) w:=enters_of Tryz.func59 (by kernel_rfl) rfl;have C:=zY odd_any;obtain ⟨n,hn⟩:=eX (l.length);have HN:=zY hn;have HR:=zY (hr.mono hB);have HL:=zY (show (n:Int)≤1099511627776 by omega);rw [← hn];clear hr hB hl hn;go_enter Tryz.func95,Tryz.ntmps95;go_wp2_with fail
 go_loopw [8] (fun x wr=>∃ i:Nat,i≤n∧x=.int .i64 (i:Int)∧(l.take i).all okT=true∧Below w.heap.size w wr) (fun x _=>n - (intOf x).toNat)
 case atStart=>exact ⟨0,by omega,rfl,by simp,Below.refl _ _⟩
 case round =>
  obtain ⟨i,hi,rfl,hok,hb⟩:=hrel;have HB:=zY hb;have HOK:=zY hok;clear hb hok
  by_cases hlt:i<n
  ·have hil:i<l.length:=by rw [← HN.out]; exact hlt
   have hlt':(i:Int)<(n:Int):=by omega
   obtain ⟨ad,hA,hadb,hcell⟩:=qaX (f:=sCell) (m:=1) (fun _=>rfl) (by decide) (HR.out.below HB.out) hil;subst hA;obtain ⟨X,hX⟩:=eX (l[i]);rw [← hX] at hcell
   have hc0:wr.cell? (ad.add i)=some (.string (bs X)):=by
    have h:=hcell 0 _ rfl;rw [Nat.mul_one] at h;exact h
   have HST:=zY (show (l.take (i+1)).all okT=((l.take i).all okT && okT X) by
    rw [List.take_succ_eq_append_getElem hil,← hX]
    simp)
   have HALL:=zY (show okT X=false→l.all okT=false from fun h=>by
    cases hq:l.all okT with
    | false=>rfl
    | true =>
     have:=List.all_eq_true.1 hq X (by rw [hX]; exact List.getElem_mem hil);rw [h] at this
     cases this)
   have HLT:=zY hlt;clear hX hcell hadb hil;go_wp2_with fail;refine qaa (C.out _ _) ?_;rintro e w1 ⟨rfl,hb1⟩;have HB1:=zY (HB.out.trans (hb1.mono HB.out.size));clear hb1;rw [show (bs X).data.toList=X from rfl]
   cases hq:okT X with
   | true =>
    have hns:=HL.out;go_wp2_with fail
    go_roundw
    case rel=>exact ⟨i+1,HLT.out,by go_num,by rw [HST.out,HOK.out,hq]; rfl,HB1.out⟩
    case measure=>have:=HLT.out; simp [intOf]; omega
   | false =>
    have HQ:=zY hq;clear hq;go_wp2_with fail;go_ret;exact ⟨⟨_,rfl,by rw [HALL.out HQ.out]; simp⟩,HB1.out⟩
  ·obtain rfl:i=n:=by omega
   have HALL:=zY (show l.all okT=true by
    have:=HOK.out
    rwa [HN.out,List.take_length] at this)
   go_wp2_with fail;go_ret;exact ⟨⟨_,rfl,by rw [HALL.out]; simp⟩,HB.out⟩
theorem cons_any (l:List Bs) (A:Option Addr) (c B:Nat) (w:World) (hr:Rd w B A (rowsV sCell l)) (hB:B≤w.heap.size) (hl:l.length≤1099511627776) :
  Calls Tryz.prog 62 #[.slice A l.length c,.func (.func 59) #[] #[]] w fun e w'=>e=.returned (.bool (!l.all okT))∧Below w.heap.size w w':=by
 have C:=zY (idxs_any l A c B w hr hB hl);clear hr;generalize l.length=n at *;go_enter Tryz.func62,Tryz.ntmps62;go_wp2_with fail;refine qaa C.out ?_;rintro e w1 ⟨⟨k,rfl,hk⟩,hb⟩;have HB:=zY hb;have HK:=zY hk;clear hb hk;go_wp2_with fail;go_ret;exact ⟨by rw [← HK.out]; rfl,HB.out⟩
theorem qas (a:Bs):(bs a).toList=a:=by
 rw [Lib.toList_data];rfl
theorem idx_any (l:List Bs) (s:Bs) (A:Option Addr) (c B:Nat) (w:World) (hr:Rd w B A (rowsV sCell l)) (hl:l.length≤1099511627776) :
  Calls Tryz.prog 42 #[.slice A l.length c,.string (bs s)] w fun e w'=>(∃ k:Int,e=.returned (.int .i64 k)∧decide (0≤k)=decide (s ∈ l))∧w'=w:=by
 obtain ⟨n,hn⟩:=eX (l.length);have HN:=zY hn;have HR:=zY hr;have HL:=zY (show (n:Int)≤1099511627776 by omega);rw [← hn];clear hr hl hn;go_enter Tryz.func42,Tryz.ntmps42;go_wp2_with fail
 go_loop [8] (fun x=>∃ i:Nat,i≤n∧x=.int .i64 (i:Int)∧s ∉ l.take i) (fun x=>n - (intOf x).toNat)
 case atStart=>exact ⟨0,by omega,rfl,by simp⟩
 case round =>
  obtain ⟨i,hi,rfl,hok⟩:=hrel;have HOK:=zY hok;clear hok
  by_cases hlt:i<n
  ·have hil:i<l.length:=by rw [← HN.out]; exact hlt
   have hlt':(i:Int)<(n:Int):=by omega
   obtain ⟨ad,hA,hadb,hcell⟩:=qaX (f:=sCell) (m:=1) (fun _=>rfl) (by decide) HR.out hil;subst hA;obtain ⟨X,hX⟩:=eX (l[i]);rw [← hX] at hcell
   have hc0:w.cell? (ad.add i)=some (.string (bs X)):=by
    have h:=hcell 0 _ rfl;rw [Nat.mul_one] at h;exact h
   have HST:=zY (show s≠X→s ∉ l.take (i+1) from fun h=>by
    rw [List.take_succ_eq_append_getElem hil,← hX,List.mem_append];rintro (h1 | h1)
    ·exact HOK.out h1
    ·exact h (by simpa using h1))
   have HMEM:=zY (show X ∈ l by rw [hX]; exact List.getElem_mem hil);have HLT:=zY hlt;clear hX hcell hadb hil;have hns:=HL.out
   by_cases hq:s=X
   ·subst hq;clear HST;go_wp2_with fail;go_ret;exact ⟨⟨_,rfl,by simp [HMEM.out]⟩,rfl⟩
   ·have hq':((bs s).toList == (bs X).toList)=false:=by rw [qas,qas]; simpa using hq
    have HQ:=zY hq;clear hq;go_wp2_with fail;exact ⟨⟨i+1,HLT.out,by go_num,HST.out HQ.out⟩,by have:=HLT.out; simp [intOf]; omega⟩
  ·obtain rfl:i=n:=by omega
   have HALL:=zY (show s ∉ l by
    have:=HOK.out
    rwa [HN.out,List.take_length] at this)
   go_wp2_with fail;go_ret;exact ⟨⟨_,rfl,by simp [HALL.out]⟩,rfl⟩
theorem has_any (l:List Bs) (s:Bs) (A:Option Addr) (c B:Nat) (w:World) (hr:Rd w B A (rowsV sCell l)) (hl:l.length≤1099511627776) :
  Calls Tryz.prog 63 #[.slice A l.length c,.string (bs s)] w fun e w'=>e=.returned (.bool (decide (s ∈ l)))∧w'=w:=by
 have C:=zY (idx_any l s A c B w hr hl);clear hr;obtain ⟨b,hb⟩:=eX (decide (s ∈ l));rw [← hb] at C ⊢;clear hl hb;generalize l.length=n at *;generalize bs s=t at *;go_enter Tryz.func63,Tryz.ntmps63;go_wp2_with fail;refine qaa C.out ?_;rintro e w1 ⟨⟨k,rfl,hk⟩,rfl⟩;have HK:=zY hk;clear hk;go_wp2_with fail;go_ret;exact ⟨by rw [← HK.out]; rfl,rfl⟩
end Go.Proofs.YtlkikjeccamheaaGreatDoor.Js
namespace Go.Proofs.YtlkikjeccamheaaGreatDoor
set_option linter.unusedSimpArgs false
set_option linter.unusedVariables false
set_option maxRecDepth 100000
set_option maxHeartbeats 4000000
open Go.RowKit
section
variable {P:Program} {w:World} {ops:Array Oper} {rest:List Oper} {o:Oper} {a:Act} {Q:Exit→Act→World→Prop}
theorem run_loadVar_rd {ty:TypeId} {p:Addr} {r:List Value} {d:TypeDesc} (hr:∀ j u,r[j]?=some u→w.cell? (p.add j)=some u)
  (hu:P.underlying ty=some d) (hd:(match d with | .struct _ | .array _ _=>true | _=>false)=true) (hi:(P.info? ty).map (·.size)=some r.length) :
  (loadVar ty p).run P w=.ok (.agg r.toArray) w:=by
 have hl:(loadCells p r.length).run P w=.ok r.toArray w:=run_loadCells_list (P:=P) w p r hr
 cases hq:P.info? ty with
 | none=>simp [hq] at hi
 | some i =>
  have hs:i.size=r.length:=by simpa [hq] using hi
  have hagg:(isAgg ty).run P w=.ok true w:=by
   unfold isAgg;rw [Sem.run_bind,run_underlying hu w]
   cases d <;> simp_all
  simp [loadVar,Sem.run_bind,hagg,sizeOf,typeInfo,hq,hs,hl]
theorem qaD {ty:TypeId} {x:Operand} {p:Addr} {r:List Value} {d:TypeDesc} (hr:∀ j u,r[j]?=some u→w.cell? (p.add j)=some u)
  (hgd:o.guard=none) (ho:o.op=.load ty x) (hx:a.eval x=.pointer (some p))
  (hu:P.underlying ty=some d) (hd:(match d with | .struct _ | .array _ _=>true | _=>false)=true) (hi:(P.info? ty).map (·.size)=some r.length)
  (h:wpList P ops Q rest (a.put o.dst (.agg r.toArray)) w):wpList P ops Q (o :: rest) a w:=by
 refine wpList_plain hgd fun K hK=>?_;have hl:=run_loadVar_rd (P:=P) (w:=w) hr hu hd hi;unfold Oper.wp execOp;simp only [ho,hx,Instr.loadAt,Instr.sureAddr,Sem.run_bind,Sem.run_pure,Result.andThen_ok,hl];exact hK _ _ h
end
theorem qaN {u u':World} {o:Obj} (hw:Wrote u.heap.size (u.alloc o) u'):Below u.heap.size u u' :=
 hw.below ((Below.refl _ u).alloc (Nat.le_refl _) o) (Nat.le_refl _) (by simp)
section
variable {P:Program}
theorem qbY {w:World} {B:Nat} {src dst e:TypeId} (hs:P.underlying src=some (.slice e)) (he:P.underlying e=some (.int .u8)) (hd:P.underlying dst=some .string)
  {A:Option Addr} {l:List UInt8} (hr:Rd w B A (bytesV l)) (c:Nat):(convert src dst (.slice A l.length c)).run P w=.ok (.string ⟨l.toArray⟩) w:=by
 cases A with
 | none =>
  have hl:l=[]:=by
   cases l with
   | nil=>rfl
   | cons x r =>
    obtain ⟨ad,h,_⟩:=hr 0 (byteV x) (by simp [bytesV])
    cases h
  subst hl;rw [run_convert_bytes_nil w src e hs he _ c dst hd];rfl
 | some ad =>
  have hl:(loadCells ad l.length).run P w=.ok ((l.map fun b=>(b.toNat:Int)).map (Value.int .u8)).toArray w:=by
   have:=run_loadCells_list (P:=P) w ad ((l.map fun b=>(b.toNat:Int)).map (Value.int .u8)) (fun j v hj=>by
    obtain ⟨ad',h,_,hc⟩:=hr j v (by rw [← hj]; simp [bytesV,byteV]; rfl)
    injection h with h
    subst h;exact hc)
   simpa using this
  rw [run_convert_bytes_string w src dst e _ l.length c hs he hd,run_bytesToString w _ l.length c (l.map fun b=>(b.toNat:Int)) hl,foldl_push_bytes]
  have e1:((l.map fun b=>(b.toNat:Int)).map fun n=>UInt8.ofNat n.toNat)=l:=by
   rw [List.map_map]
   conv=>rhs; rw [← List.map_id l]
   exact List.map_congr_left fun b _=>by simp
  rw [e1];simp [ByteArray.empty,ByteArray.emptyWithCapacity];rfl
theorem qbC {w:World} {ops:Array Oper} {rest:List Oper} {o:Oper} {a:Act} {Q:Exit→Act→World→Prop} {B:Nat} {src dst e:TypeId} {x:Operand} {A:Option Addr} {l:List UInt8} {c:Nat}
  (hr:Rd w B A (bytesV l)) (hs:P.underlying src=some (.slice e)) (he:P.underlying e=some (.int .u8)) (hd:P.underlying dst=some .string)
  (hgd:o.guard=none) (ho:o.op=.convert src dst x) (hx:a.eval x=.slice A l.length c)
  (h:wpList P ops Q rest (a.put o.dst (.string ⟨l.toArray⟩)) w):wpList P ops Q (o :: rest) a w:=by
 refine wpList_plain hgd fun K hK=>?_;have hrun:=qbY (P:=P) hs he hd hr c;unfold Oper.wp execOp;simp only [ho,hx];simp only [Sem.run_bind,hrun,Result.andThen_ok,Sem.run_pure];exact hK _ _ h
end
end Go.Proofs.YtlkikjeccamheaaGreatDoor
namespace Go.Proofs.YtlkikjeccamheaaGreatDoor
set_option linter.unusedSimpArgs false
set_option linter.unusedVariables false
set_option maxRecDepth 100000
set_option maxHeartbeats 4000000
open Go.Shelf Go.Proofs
def trimL_ren:Go.Shelf.Ren:=⟨fun | 160=>55 | 232=>86 | 231=>85 | 227=>87 | 234=>89 | 233=>88 | 236=>91 | 235=>90 | 228=>111 | 271=>114 | 151=>113 | 197=>112 | 120=>129 | 152=>128 | 260=>127 | 137=>43 | 119=>135 | 224=>136 | 225=>137 | 217=>74 | 266=>105 | n=>n,fun | 9=>9 | 4=>4 | 3=>3 | 5=>5 | 117=>126 | 116=>125 | 0=>0 | 124=>129 | 21=>21 | 105=>146 | 46=>81 | 119=>170 | 139=>173 | 138=>172 | n=>n,fun | 3=>2 | 4=>3 | n=>n⟩
theorem trimL:Go.Proofs.Lays.n160 Tryz.prog trimL_ren:={
 mixed:=by kernel_rfl
 f119:=Tryz.func135.trans (congrArg some (by kernel_rfl))
 f120:=Tryz.func129.trans (congrArg some (by kernel_rfl))
 f137:=Tryz.func43.trans (congrArg some (by kernel_rfl))
 f151:=Tryz.func113.trans (congrArg some (by kernel_rfl))
 f152:=Tryz.func128.trans (congrArg some (by kernel_rfl))
 f160:=Tryz.func55.trans (congrArg some (by kernel_rfl))
 f197:=Tryz.func112.trans (congrArg some (by kernel_rfl))
 f217:=Tryz.func74.trans (congrArg some (by kernel_rfl))
 f224:=Tryz.func136.trans (congrArg some (by kernel_rfl))
 f225:=Tryz.func137.trans (congrArg some (by kernel_rfl))
 f227:=Tryz.func87.trans (congrArg some (by kernel_rfl))
 f228:=Tryz.func111.trans (congrArg some (by kernel_rfl))
 f231:=Tryz.func85.trans (congrArg some (by kernel_rfl))
 f232:=Tryz.func86.trans (congrArg some (by kernel_rfl))
 f233:=Tryz.func88.trans (congrArg some (by kernel_rfl))
 f234:=Tryz.func89.trans (congrArg some (by kernel_rfl))
 f235:=Tryz.func90.trans (congrArg some (by kernel_rfl))
 f236:=Tryz.func91.trans (congrArg some (by kernel_rfl))
 f260:=Tryz.func127.trans (congrArg some (by kernel_rfl))
 f266:=Tryz.func105.trans (congrArg some (by kernel_rfl))
 f271:=Tryz.func114.trans (congrArg some (by kernel_rfl))
 t0:=Tryz.underlying0
 a0:=Tryz.isAgg0
 z0:=Tryz.sizeOf0
 v0:=Tryz.zeroValue0
 t3:=Tryz.underlying3
 a3:=Tryz.isAgg3
 z3:=Tryz.sizeOf3
 v3:=Tryz.zeroValue3
 t4:=Tryz.underlying4
 a4:=Tryz.isAgg4
 z4:=Tryz.sizeOf4
 v4:=Tryz.zeroValue4
 t5:=Tryz.underlying5
 a5:=Tryz.isAgg5
 z5:=Tryz.sizeOf5
 v5:=Tryz.zeroValue5
 t9:=Tryz.underlying9
 a9:=Tryz.isAgg9
 z9:=Tryz.sizeOf9
 v9:=Tryz.zeroValue9
 t21:=Tryz.underlying21
 a21:=Tryz.isAgg21
 z21:=Tryz.sizeOf21
 v21:=Tryz.zeroValue21
 t46:=Tryz.underlying81
 a46:=Tryz.isAgg81
 z46:=Tryz.sizeOf81
 v46:=Tryz.zeroValue81
 t105:=Tryz.underlying146
 a105:=Tryz.isAgg146
 z105:=Tryz.sizeOf146
 v105:=Tryz.zeroValue146
 t116:=Tryz.underlying125
 a116:=Tryz.isAgg125
 z116:=Tryz.sizeOf125
 t117:=Tryz.underlying126
 a117:=Tryz.isAgg126
 z117:=Tryz.sizeOf126
 v117:=Tryz.zeroValue126
 t119:=Tryz.underlying170
 a119:=Tryz.isAgg170
 z119:=Tryz.sizeOf170
 t124:=Tryz.underlying129
 a124:=Tryz.isAgg129
 z124:=Tryz.sizeOf129
 v124:=Tryz.zeroValue129
 t138:=Tryz.underlying172
 a138:=Tryz.isAgg172
 z138:=Tryz.sizeOf172
 v138:=Tryz.zeroValue172
 t139:=Tryz.underlying173
 a139:=Tryz.isAgg173
 z139:=Tryz.sizeOf173
 v139:=Tryz.zeroValue173
 g3:=by kernel_rfl
 g4:=by kernel_rfl }
end Go.Proofs.YtlkikjeccamheaaGreatDoor
namespace Go.Proofs.YtlkikjeccamheaaGreatDoor.Js
set_option linter.unusedSimpArgs false
set_option linter.unusedVariables false
set_option maxRecDepth 100000
set_option maxHeartbeats 4000000
open Go.RowKit
def smallZ (z:Int):Bool:=decide (97≤z) && decide (z≤122)
def digitZ (z:Int):Bool:=decide (48≤z) && decide (z≤57)
def innerZ (z:Int):Bool:=smallZ z || digitZ z || z == 46 || z == 45
theorem small_any (z:Int) (w:World):Calls Tryz.prog 83 #[.int .u8 z] w fun e w'=>e=.returned (.bool (smallZ z))∧w'=w:=by
 go_enter Tryz.func83,Tryz.ntmps83;unfold smallZ
 by_cases h1:97≤z
 ·go_wp2_with fail;go_ret;simp [h1]
 ·go_wp2_with fail;go_ret;refine ⟨?_,rfl⟩;simp [h1]
  try omega
theorem digit_any (z:Int) (w:World):Calls Tryz.prog 84 #[.int .u8 z] w fun e w'=>e=.returned (.bool (digitZ z))∧w'=w:=by
 go_enter Tryz.func84,Tryz.ntmps84;unfold digitZ
 by_cases h1:48≤z
 ·go_wp2_with fail;go_ret;simp [h1]
 ·go_wp2_with fail;go_ret;refine ⟨?_,rfl⟩;simp [h1]
  try omega
theorem inner_any (z:Int) (w:World):Calls Tryz.prog 54 #[.int .u8 z] w fun e w'=>e=.returned (.bool (innerZ z))∧w'=w:=by
 have C1:=zY (small_any z w);have C2:=zY (digit_any z w);unfold innerZ;obtain ⟨a,ha⟩:=eX (smallZ z);obtain ⟨b,hb⟩:=eX (digitZ z);rw [← ha] at C1 ⊢;rw [← hb] at C2 ⊢;clear ha hb;go_enter Tryz.func54,Tryz.ntmps54;go_wp2_with fail;refine qaa C1.out ?_;rintro e u1 ⟨rfl,rfl⟩
 cases a with
 | true =>
  go_wp2_with fail;go_ret;simp
 | false =>
  go_wp2_with fail;refine qaa C2.out ?_;rintro e u2 ⟨rfl,rfl⟩
  cases b with
  | true =>
   go_wp2_with fail;go_ret;simp
  | false =>
   cases h1:z == 46 with
   | true =>
    go_wp2_with fail;go_ret;have h2:=beq_iff_eq.1 h1;simp [h2]
   | false =>
    go_wp2_with fail;go_ret;have h2:¬ z=46:=fun h=>by rw [h] at h1; cases h1
    simp [h2]
def innerC (c:UInt8):Bool:=innerZ ((c.toNat:Nat):Int)
def allD (s:Bs):Bool:=s.all innerC && !s.isEmpty
theorem all_take {s:Bs} {i:Nat} (h:i<s.length):(s.take (i+1)).all innerC=((s.take i).all innerC && innerC s[i]):=by
 rw [List.take_succ_eq_append_getElem h,List.all_append];simp
theorem all_bad {s:Bs} {i:Nat} (h:i<s.length) (hb:innerC s[i]=false):allD s=false:=by
 unfold allD
 cases hq:s.all innerC with
 | false=>rfl
 | true =>
  rw [List.all_eq_true] at hq;have:=hq _ (List.getElem_mem h);rw [hb] at this
  cases this
theorem all_any (s:ByteArray) (hs:(s.size:Int)≤100000000) (w:World) :
  Calls Tryz.prog 53 #[.string s,.func (.func 54) #[] #[]] w fun x w'=>x=.returned (.bool (allD s.data.toList))∧w'=w:=by
 have eg:∀ args w,(callFunc 54 args).run Tryz.prog w=.ok (.enter 54 args) w:=enters_of Tryz.func54 (by kernel_rfl) rfl;have C:=zY inner_any;have h5:s.data.toList.length=s.size:=rfl;have HS:=zY hs;go_enter Tryz.func53,Tryz.ntmps53;go_wp2_with fail
 go_loopw [8] (fun x wr=>∃ i:Nat,i≤s.size∧x=.int .i64 (i:Int)∧(s.data.toList.take i).all innerC=true∧wr=w) (fun x _=>s.size - (intOf x).toNat)
 case atStart=>exact ⟨0,Nat.zero_le _,rfl,by simp,rfl⟩
 case round =>
  obtain ⟨i,hi,rfl,hok,rfl⟩:=hrel;have HOK:=zY hok;clear hok
  by_cases hlt:i<s.size
  ·have hlt':(i:Int)<(s.size:Int):=by omega
   have HLT:=zY hlt;have HAT:=zY (show s.data.toList[i]'(by rw [h5]; exact hlt)=s[i] from rfl);have HC:=zY (C.out ((s[i].toNat:Nat):Int))
   cases hb:innerC s[i] with
   | true =>
    have HT:=zY (show (s.data.toList.take (i+1)).all innerC=true by rw [all_take (by rw [h5]; exact hlt),HOK.out,HAT.out,hb]; rfl);have hb':innerZ ((s[i].toNat:Nat):Int)=true:=hb;rw [hb'] at HC;clear HAT h5 hb hb' C;go_wp2_with (go_at_call 54; refine qaa (HC.out _) ?_; rintro e W' ⟨rfl,rfl⟩)
    go_roundw
    case rel=>exact ⟨i+1,HLT.out,by go_num,HT.out,by first | rfl | trivial⟩
    case measure=>have:=HLT.out; simp [intOf]; omega
   | false =>
    have HF:=zY (all_bad (s:=s.data.toList) (i:=i) (by rw [h5]; exact hlt) (by rw [HAT.out]; exact hb));have hb':innerZ ((s[i].toNat:Nat):Int)=false:=hb;rw [hb'] at HC;clear HAT h5 hb hb' C;go_wp2_with (go_at_call 54; refine qaa (HC.out _) ?_; rintro e W' ⟨rfl,rfl⟩);go_ret;exact ⟨by rw [HF.out]; rfl,rfl⟩
  ·have HF:=zY (show s.data.toList.all innerC=true by
    have:=HOK.out;rw [List.take_of_length_le (by rw [h5]; omega)] at this;exact this)
   clear h5;have hlt':¬ (i:Int)<(s.size:Int):=by omega
   go_wp2_with fail;go_ret;refine ⟨?_,rfl⟩;rw [allD,HF.out,← Lib.toList_data];rfl
def trimD (s:Bs):Bs:=Lib.trimS s [46,45]
def domB (s:Bs):Bool:=decide (s.length≤16) && (allD s && decide (trimD s=s))
theorem domain_any (s:ByteArray) (hs:(s.size:Int)≤100000000) (w:World) :
  Calls Tryz.prog 31 #[.string s] w fun x w'=>x=.returned (.bool (domB s.data.toList))∧Below w.heap.size w w':=by
 have C1:=zY (all_any s hs w);have C2:=zY (fun w=>Any.strings_Trim_laid trimL (by kernel_rfl) s ⟨#[46,45]⟩ w (by omega) (by decide) (ascii_of_all (by decide)));have HB:=zY (Below.refl w.heap.size w);have h5:s.data.toList.length=s.size:=rfl;obtain ⟨a,ha⟩:=eX (allD s.data.toList);unfold domB;rw [← ha] at C1 ⊢;rw [h5];have HN:=zY h5;clear ha h5;go_enter Tryz.func31,Tryz.ntmps31
 by_cases hl:s.size≤16
 ·have hl':(s.size:Int)≤16:=by omega
  go_wp2_with fail;refine qaa C1.out ?_;rintro e u1 ⟨rfl,rfl⟩
  cases a with
  | false =>
   go_wp2_with fail;go_ret;exact ⟨by simp,HB.out⟩
  | true =>
   go_wp2_with fail;refine qaa (C2.out _) ?_;rintro e u2 ⟨rfl,hb2⟩;have HB2:=zY hb2;clear hb2;go_wp2_with fail;go_ret;refine ⟨?_,HB2.out⟩
   by_cases ht:trimD s.data.toList=s.data.toList
   ·have ht2:=ht;unfold trimD at ht2;simp [hl,ht,ht2,Lib.toList_data]
   ·have ht2:=ht;unfold trimD at ht2;simp [hl,ht,ht2,Lib.toList_data]
 ·have hl':¬ (s.size:Int)≤16:=by omega
  go_wp2_with fail;go_ret;exact ⟨by simp [hl],HB.out⟩
theorem qcn:(Tryz.prog.info? 44).map (·.size)=some 5:=by kernel_rfl
theorem plain_any (v:JV) (ns:List Bs) (ks:List JT) (hn:v.nn=ns.length) (hk:v.kn=ks.length) (w:World) :
  Calls Tryz.prog 58 #[.agg (jvCells v)] w fun e w'=>e=.returned (.bool (plainJ v.k v.n v.t ns ks))∧Below w.heap.size w w':=by
 obtain ⟨W0,hW0⟩:=eX (w.alloc (.cells (jvCells v) 44));have HB0:=zY (show Below w.heap.size w W0 by rw [hW0]; exact (Below.refl _ w).alloc (Nat.le_refl _) _);have hkb:Blk W0 w.heap.size 44 (jvCells v):=by rw [hW0]; exact Blk.new _ _ _
 have HW0:=zY hW0;obtain ⟨vk,vn,vt,nA,nn,nc,kA,kn,kc⟩:=v;dsimp only at *;have a0:W0.cell? ⟨w.heap.size,0,none⟩=some (.int .i64 vk):=hkb.cell 0;have a1:W0.cell? ⟨w.heap.size,1,none⟩=some (.int .i64 vn):=hkb.cell 1;have a2:W0.cell? ⟨w.heap.size,2,none⟩=some (.string (bs vt)):=hkb.cell 2;have a3:W0.cell? ⟨w.heap.size,3,none⟩=some (.slice nA nn nc):=hkb.cell 3;have a4:W0.cell? ⟨w.heap.size,4,none⟩=some (.slice kA kn kc):=hkb.cell 4;have HN:=zY (show ns.isEmpty=decide ((nn:Int)=0) by rw [hn]; cases ns <;> simp; omega);have HK:=zY (show ks.isEmpty=decide ((kn:Int)=0) by rw [hk]; cases ks <;> simp; omega);have HT:=zY (show vt.isEmpty=((bs vt).toList == []) by rw [qas]; cases vt <;> rfl);clear hW0 hkb hn hk;go_enter Tryz.func58,Tryz.ntmps58
 go_upto_region 1 with (fail)
 rw [← HW0.out];generalize Value.agg (jvCells ⟨vk,vn,vt,nA,nn,nc,kA,kn,kc⟩)=AV at *
 go_cut [3] (fun x wx=>x=.bool (vn == 0 || vk == 2 || (vk == 1 && vn == 1))∧wx=W0)
 case first =>
  go_wp2_with fail
  all_goals (go_meet; exact ⟨by first | rfl | (simp; done) | (simp_all; done) | grind,rfl⟩)
 case rest =>
 obtain ⟨rfl,rfl⟩:=hcut;generalize hb1:(vn == 0 || vk == 2 || (vk == 1 && vn == 1))=b1 at *;have HB1:=zY hb1;clear hb1 a1
 go_upto_region 2 with (fail)
 go_cut [4] (fun x wx=>x=.bool (decide ((kn:Int)=0) || vk == 4 || vk == 5)∧wx=wc)
 case first =>
  go_wp2_with fail
  all_goals (go_meet; exact ⟨by first | rfl | (simp; done) | (simp_all; done) | grind,rfl⟩)
 case rest =>
 obtain ⟨rfl,rfl⟩:=hcut;generalize hb2:(decide ((kn:Int)=0) || vk == 4 || vk == 5)=b2 at *;have HB2:=zY hb2;clear hb2 a4
 go_upto_region 3 with (fail)
 go_cut [5] (fun x wx=>x=.bool (decide ((nn:Int)=0) || vk == 5)∧wx=wc)
 case first =>
  go_wp2_with fail
  all_goals (go_meet; exact ⟨by first | rfl | (simp; done) | (simp_all; done) | grind,rfl⟩)
 case rest =>
 obtain ⟨rfl,rfl⟩:=hcut;generalize hb3:(decide ((nn:Int)=0) || vk == 5)=b3 at *
 have HP:=zY (show plainJ vk vn vt ns ks=(b1 && b2 && b3 && (vt.isEmpty || vk == 3)) by
  rw [plainJ,HB1.out,HK.out,HB2.out,HN.out,hb3])
 rw [HT.out] at HP;clear hb3 a3
 cases b1
 ·go_wp2_with fail
  all_goals (go_ret; exact ⟨by rw [HP.out]; first | rfl | (simp; done),HB0.out⟩)
 cases b2
 ·go_wp2_with fail
  all_goals (go_ret; exact ⟨by rw [HP.out]; first | rfl | (simp; done),HB0.out⟩)
 cases b3
 ·go_wp2_with fail
  all_goals (go_ret; exact ⟨by rw [HP.out]; first | rfl | (simp; done),HB0.out⟩)
 have hp:plainJ vk vn vt ns ks=((bs vt).toList == [] || vk == 3):=by rw [HP.out]; simp
 have HP2:=zY hp;clear HP hp;go_wp2_with fail
 all_goals (go_ret; exact ⟨by rw [HP2.out]; first | rfl | (simp; done) | (simp_all; done) | grind,HB0.out⟩)
end Go.Proofs.YtlkikjeccamheaaGreatDoor.Js
namespace Go.Proofs.YtlkikjeccamheaaGreatDoor.Js
set_option linter.unusedSimpArgs false
set_option linter.unusedVariables false
set_option maxRecDepth 100000
set_option maxHeartbeats 4000000
theorem esc_le {c b:UInt8} (h:esc c=some b):b≤126:=by
 unfold esc at h
 repeat' split at h
 all_goals first
  | (injection h with h; subst h; decide)
  | (simp at h)
theorem hexP_le {a0 a1 a2 a3 b:UInt8} (h:hexP a0 a1 a2 a3=some b):b≤126:=by
 unfold hexP at h
 split at h
 ·split at h
  ·split at h
   ·rename_i x y _ _ hq
    injection h with h
    rw [← h,UInt8.le_iff_toNat_le];have:(UInt8.ofNat (16*x+y)).toNat≤16*x+y:=by simp; exact Nat.mod_le _ _
    exact Nat.le_trans this (by simpa using hq)
   ·simp at h
  ·simp at h
 ·simp at h
theorem escP_le {r r':Bs} {b:UInt8} (h:escP r=some (b,r')):b≤126:=by
 unfold escP at h
 split at h
 ·simp at h
 ·split at h
  ·rename_i he
   injection h with h; injection h with h1 h2; subst h1
   exact esc_le he
  ·split at h
   ·split at h
    ·split at h
     ·rename_i hx
      injection h with h; injection h with h1 h2; subst h1
      exact hexP_le hx
     ·simp at h
    ·simp at h
   ·simp at h
theorem okT_snoc {s:Bs} {c:UInt8} (h:okT s=true) (hc:c≤126):okT (s++[c])=true:=by
 unfold okT at *;rw [List.all_append,h]
 simpa using hc
theorem strA_ok:∀ (n:Nat) (acc r:Bs) {s r':Bs},okT acc=true→strA n acc r=some (s,r')→okT s=true
 | 0,acc,r,s,r',_,h=>by simp [strA] at h
 | n+1,acc,[],s,r',_,h=>by simp [strA] at h
 | n+1,acc,c :: r,s,r',ha,h=>by
  unfold strA at h
  split at h
  ·simp at h
  ·rename_i hc
   split at h
   ·injection h with h; injection h with h1 h2; subst h1; exact ha
   ·split at h
    ·split at h
     ·rename_i b r1 he
      exact strA_ok n _ _ (okT_snoc ha (escP_le he)) h
     ·simp at h
    ·refine strA_ok n _ _ (okT_snoc ha ?_) h;rw [UInt8.le_iff_toNat_le];have:¬ 126<c:=fun h=>hc (.inr h);rw [UInt8.lt_iff_toNat_lt] at this
     simpa using this
theorem textP_ok {r s r':Bs} (h:textP r=some (s,r')):okT s=true:=by
 unfold textP at h
 split at h
 ·exact strA_ok _ _ _ rfl h
 ·simp at h
theorem qbE:∀ {l:List Bs} {x:Bs},distinct l=true→x ∉ l→distinct (l++[x])=true
 | [],x,_,_=>by simp [distinct]
 | y :: l,x,h,hx=>by
  unfold distinct at h;rw [List.cons_append,distinct];simp only [Bool.and_eq_true,Bool.not_eq_true',List.contains_eq_mem,decide_eq_false_iff_not] at h ⊢;refine ⟨?_,qbE h.2 (fun h=>hx (List.mem_cons_of_mem _ h))⟩;rw [List.mem_append];rintro (h1 | h1)
  ·exact h.1 h1
  ·simp at h1;exact hx (by rw [h1]; exact List.mem_cons_self ..)
structure ListOk (d:Nat) (m:Bool) (ns:List Bs) (ks:List JT):Prop where
 names:ns.all okT=true
 dis:distinct ns=true
 kids:∀ k ∈ ks,rightV d k=true
 len:if m then ns.length=ks.length else ns=[]
theorem qdr (val:Bs→Except Int (JT × Bs)) (m:Bool) (d:Nat) (hv:∀ {r v r'},val r=.ok (v,r')→rightV d v=true):∀ (n:Nat) (ns:List Bs) (ks:List JT) (r:Bs) {ns':List Bs} {ks':List JT} {r':Bs},ListOk d m ns ks→listL val m n ns ks r=.ok (ns',ks',r')→ListOk d m ns' ks'
 | 0,ns,ks,r,ns',ks',r',_,h=>by simp [listL] at h
 | n+1,ns,ks,r,ns',ks',r',ha,h=>by
  rcases listL_ok h with ⟨r1,h1,h2⟩ | ⟨r1,r2,ns1,r3,k,r4,h1,h2,h3,h4,h5⟩
  ·injection h2 with h2 h3; injection h3 with h3 h4; subst h2 h3
   exact ha
  ·have hkids:∀ x ∈ ks++[k],rightV d x=true:=fun x hx=>by
    rcases List.mem_append.1 hx with h | h
    ·exact ha.kids x h
    ·simp at h; subst h; exact hv h4
   refine qdr val m d hv n _ _ _ ?_ h5;unfold keyP at h3
   split at h3
   ·rename_i hm
    unfold nameP at h3
    split at h3
    ·simp at h3
    ·rename_i s r5 ht
     split at h3
     ·simp at h3
     ·rename_i hne
      split at h3
      ·simp at h3
      ·injection h3 with h3; injection h3 with h3 h6; subst h3
       refine ⟨?_,qbE ha.dis hne,hkids,?_⟩
       ·rw [List.all_append,ha.names];simp [textP_ok ht]
       ·have:=ha.len;rw [if_pos hm] at this ⊢;simp [this]
   ·rename_i hm
    injection h3 with h3; injection h3 with h3 h6; subst h3
    refine ⟨ha.names,ha.dis,hkids,?_⟩;have:=ha.len;rw [if_neg hm] at this ⊢;exact this
theorem listP_right {val:Bs→Except Int (JT × Bs)} {d:Nat} (hv:∀ {r v r'},val r=.ok (v,r')→rightV d v=true) {r:Bs} {v:JT} {r':Bs} (h:listP val r=.ok (v,r')):rightV (d+1) v=true:=by
 unfold listP at h
 split at h
 ·simp at h
 ·rename_i ns ks r1 ht
  injection h with h; injection h with h1 h2; subst h1
  have hl:=qdr val _ d hv _ _ _ _ ⟨rfl,rfl,fun k hk=>by simp at hk,by split <;> rfl⟩ ht;have hk:=(qaS d ks).2 hl.kids;have h3:=hl.len
  cases hb:(look r == 123) with
  | true =>
   rw [hb] at h3;rw [if_pos rfl] at h3;have hn:=hl.names;unfold okT at hn;simp [rightV,plainJ,okT,hl.dis,hk,h3]
   simpa using hn
  | false =>
   rw [hb] at h3;rw [if_neg (by decide)] at h3;subst h3;simp [rightV,plainJ,okT,hk,distinct]
theorem numP_right {r r':Bs} {n:Int} (d:Nat) (h:numP r=some (n,r')):rightV d (jint n)=true:=by
 obtain ⟨h1,h2,_⟩:=numP_ok h
 have h3:decV 0 (digP r).1≤1000000000000000:=by
  unfold badN at h1;simp only [Bool.or_eq_false_iff] at h1
  simpa using h1.2
 have h4:-1000000000000000≤n∧n≤1000000000000000:=by
  rw [h2]
  split <;> omega
 simp [rightV,jint,plainJ,okT,distinct,rightsV,h4]
theorem rawP_right {lp:Bs→Except Int (JT × Bs)} {d:Nat} (hl:∀ {r v r'},lp r=.ok (v,r')→rightV d v=true) {r:Bs} {v:JT} {r':Bs} (h:rawP lp r=.ok (v,r')):rightV d v=true:=by
 have hw:∀ {w:Bs} {u:JT},wordR w r u=.ok (v,r')→rightV d u=true→rightV d v=true:=fun {w u} h hu=>by
  unfold wordR at h
  split at h
  ·simp at h
  ·injection h with h; injection h with h1 h2; subst h1; exact hu
 unfold rawP at h
 split at h
 ·exact hw h (by simp [rightV,jzero,plainJ,okT,distinct,rightsV])
 split at h
 ·exact hw h (by simp [rightV,jtrue,plainJ,okT,distinct,rightsV])
 split at h
 ·exact hw h (by simp [rightV,jfalse,plainJ,okT,distinct,rightsV])
 split at h
 ·unfold optR at h
  split at h
  ·simp at h
  ·rename_i ht
   injection h with h; injection h with h1 h2; subst h1
   have:=textP_ok ht;unfold okT at this;simp [rightV,jtext,plainJ,okT,distinct,rightsV]
   simpa using this
 split at h
 ·exact hl h
 ·unfold optR at h
  split at h
  ·simp at h
  ·rename_i ht
   injection h with h; injection h with h1 h2; subst h1
   exact numP_right d ht
theorem qcG:∀ (d:Nat) {r:Bs} {v:JT} {r':Bs},valueP d r=.ok (v,r')→rightV d v=true
 | 0,r,v,r',h=>by
  obtain ⟨r0,h1,rfl⟩:=qbv h;exact rawP_right (by intro _ _ _ h; simp at h) h1
 | d+1,r,v,r',h=>by
  obtain ⟨r0,h1,rfl⟩:=qbv h;exact rawP_right (fun h=>listP_right (fun h=>qcG d h) h) h1
theorem readP_right {s:Bs} {v:JT} (h:readP s=.ok v):rightV 6 v=true:=by
 unfold readP at h
 split at h
 ·simp at h
 ·split at h
  ·simp at h
  ·rename_i v' hv
   injection h with h; subst h
   exact qcG 6 hv
  ·simp at h
theorem qbh {c:UInt8} {r:Bs} (h:isBl c=false):skip (c :: r)=c :: r:=by simp [skip,h]
theorem hex_ctl {c:UInt8} (h:c<32):hexP 48 48 (hexd (c.toNat/16)) (hexd (c.toNat%16))=some c:=by
 have key:∀ k:Fin 32,hexP 48 48 (hexd ((UInt8.ofNat k.1).toNat/16)) (hexd ((UInt8.ofNat k.1).toNat%16))=some (UInt8.ofNat k.1):=by decide +kernel
 have h1:c.toNat<32:=by rwa [UInt8.lt_iff_toNat_lt] at h
 have:=key ⟨c.toNat,h1⟩
 simpa using this
theorem escP_ctl {c:UInt8} (h:c<32) (r:Bs):escP (117 :: 48 :: 48 :: hexd (c.toNat/16) :: hexd (c.toNat%16) :: r)=some (c,r):=by
 simp [escP,esc,hex_ctl h]
theorem strA_quote:∀ (s acc:Bs) (n:Nat) (r:Bs),okT s=true→(s.flatMap quoteC).length<n→strA n acc (s.flatMap quoteC++34 :: r)=some (acc++s,r)
 | [],acc,n,r,_,hn=>by
  obtain ⟨n,rfl⟩:∃ m,n=m+1:=⟨n - 1,by omega⟩;simp [strA]
 | c :: s,acc,n,r,hs,hn=>by
  obtain ⟨n,rfl⟩:∃ m,n=m+1:=⟨n - 1,by omega⟩;have hc:c≤126:=by simp [okT] at hs; exact hs.1
  have hs':okT s=true:=by simp [okT] at hs ⊢; exact hs.2
  have ih:=fun acc n=>strA_quote s acc n r hs';rw [List.flatMap_cons] at hn ⊢
  by_cases h1:c<32
  ·have e:quoteC c=[92,117,48,48,hexd (c.toNat/16),hexd (c.toNat%16)]:=by simp [quoteC,h1]
   rw [e] at hn ⊢;simp only [List.cons_append,List.nil_append,List.length_cons] at hn ⊢;rw [strA];simp only [escP_ctl h1];rw [if_neg (by decide),if_neg (by decide),if_pos trivial,ih _ _ (by omega)];simp
  ·by_cases h2:c=34∨c=92
   ·have e:quoteC c=[92,c]:=by simp only [quoteC,if_neg h1,if_pos h2]
    rw [e] at hn ⊢;simp only [List.cons_append,List.nil_append,List.length_cons] at hn ⊢;rw [strA]
    have e2:escP (c :: (s.flatMap quoteC++34 :: r))=some (c,s.flatMap quoteC++34 :: r):=by
     rcases h2 with rfl | rfl <;> simp [escP,esc]
    simp only [e2];rw [if_neg (by decide),if_neg (by decide),if_pos trivial,ih _ _ (by omega)];simp
   ·have e:quoteC c=[c]:=by simp only [quoteC,if_neg h1,if_neg h2]
    rw [e] at hn ⊢;simp only [List.cons_append,List.nil_append,List.length_cons] at hn ⊢;rw [strA]
    have h3:¬ (c<32∨126<c):=by
     rintro (h | h)
     ·exact h1 h
     ·rw [UInt8.lt_iff_toNat_lt] at h; rw [UInt8.le_iff_toNat_le] at hc; omega
    rw [if_neg h3,if_neg (fun h=>h2 (.inl h)),if_neg (fun h=>h2 (.inr h)),ih _ _ (by omega)];simp
theorem qcZ (s r:Bs) (hs:okT s=true):textP (quote s++r)=some (s,r):=by
 have h:=strA_quote s [] (quote s++r).length r hs (by simp [quote]; omega);simp only [textP,quote,List.cons_append,look,List.tail_cons,List.append_assoc,List.nil_append] at h ⊢
 simpa using h
theorem qc0:∀ (d:Bs) (n:Nat) (r:Bs),d.length<n→d.all isDig=true→isDig (look r)=false→takeD n (d++r)=(d,r)
 | [],n,r,hn,_,hr=>by
  obtain ⟨n,rfl⟩:∃ m,n=m+1:=⟨n - 1,by simp at hn; omega⟩
  cases r with
  | nil=>simp [takeD]
  | cons c r=>simp [look] at hr; simp [takeD,hr]
 | c :: d,n,r,hn,hd,hr=>by
  obtain ⟨n,rfl⟩:∃ m,n=m+1:=⟨n - 1,by simp at hn; omega⟩;simp only [List.all_cons,Bool.and_eq_true] at hd;simp only [List.cons_append,takeD,hd.1,if_true,qc0 d n r (by simpa using hn) hd.2 hr]
theorem dig_of {k:Nat} (h:k<10):isDig (dg k)=true∧(dg k).toNat - 48=k:=by
 have key:∀ k:Fin 10,isDig (dg k.1)=true∧(dg k.1).toNat - 48=k.1:=by decide
 exact key ⟨k,h⟩
theorem qdD (n:Nat) (d:Bs) (c:UInt8):decV n (d++[c])=10*decV n d+(c.toNat - 48):=by simp [decV]
theorem digB_ok:∀ (f m:Nat),m<10^f→(digB f m).all isDig=true∧decV 0 (digB f m)=m∧(digB f m).length≤f∧(0<f→digB f m≠[])∧(look (digB f m)=48→0<f→digB f m=[48])
 | 0,m,h=>by
  simp at h;subst h;simp [digB,decV]
 | f+1,m,h=>by
  rw [digB]
  split
  ·rename_i hm
   have:=dig_of hm;refine ⟨by simp [this.1],by simp [decV,this.2],by simp,by simp,?_⟩;intro h1 _;simp only [look] at h1;rw [h1]
  ·rename_i hm
   have hf:0<f:=by
    rcases Nat.eq_zero_or_pos f with rfl | h1
    ·simp at h; omega
    ·exact h1
   have hq:m/10<10^f:=by
    rw [Nat.pow_succ] at h;exact Nat.div_lt_of_lt_mul (by omega)
   obtain ⟨h1,h2,h3,h4,h5⟩:=digB_ok f (m/10) hq;have hd:=dig_of (Nat.mod_lt m (by decide:0<10));refine ⟨by rw [List.all_append,h1]; simp [hd.1],by rw [qdD,h2,hd.2]; omega,by simp; omega,by simp,?_⟩;intro h6 _
   obtain ⟨c,l,hc⟩:∃ c l,digB f (m/10)=c :: l:=by
    cases hx:digB f (m/10) with
    | nil=>exact absurd hx (h4 hf)
    | cons c l=>exact ⟨c,l,rfl⟩
   rw [hc] at h6;simp only [List.cons_append,look] at h6;have h7:=h5 (by rw [hc]; exact h6) hf;rw [h7] at h2;simp [decV] at h2;omega
theorem qbk {c:UInt8} (h:isDig c=true):c≠45∧c≠110∧c≠116∧c≠102∧c≠34∧c≠91∧c≠123∧isBl c=false∧c≠93∧c≠125:=by
 have key:∀ k:Fin 256,isDig (UInt8.ofNat k.1)=true→UInt8.ofNat k.1≠45∧UInt8.ofNat k.1≠110∧UInt8.ofNat k.1≠116∧UInt8.ofNat k.1≠102∧UInt8.ofNat k.1≠34∧UInt8.ofNat k.1≠91∧UInt8.ofNat k.1≠123∧isBl (UInt8.ofNat k.1)=false∧UInt8.ofNat k.1≠93∧UInt8.ofNat k.1≠125:=by decide +kernel
 have:=key ⟨c.toNat,c.toNat_lt⟩;simp only [UInt8.ofNat_toNat] at this;exact this h
theorem look_dig {f m:Nat} (h:m<10^f) (hf:0<f):isDig (look (digB f m))=true∧∃ l,digB f m=look (digB f m) :: l:=by
 obtain ⟨h1,h2,h3,h4,h5⟩:=digB_ok f m h
 cases hx:digB f m with
 | nil=>exact absurd hx (h4 hf)
 | cons c l =>
  rw [hx] at h1;simp only [List.all_cons,Bool.and_eq_true] at h1;exact ⟨h1.1,l,rfl⟩
theorem numP_int (n:Int) (r:Bs) (h1:-1000000000000000≤n) (h2:n≤1000000000000000) (hr:isDig (look r)=false):numP (intB n++r)=some (n,r):=by
 have hm:n.natAbs<10^16:=by omega
 obtain ⟨a1,a2,a3,a4,a5⟩:=digB_ok 16 n.natAbs hm
 have hb:∀ neg:Bool,(neg=true→n.natAbs≠0)→badN neg (digB 16 n.natAbs)=false:=fun neg hneg=>by
  unfold badN;rw [a2]
  have e1:(digB 16 n.natAbs).isEmpty=false:=by
   cases hx:digB 16 n.natAbs with
   | nil=>exact absurd hx (a4 (by decide))
   | cons c l=>rfl
  have e2:decide (1000000000000000<n.natAbs)=false:=by simp; omega
  rw [e1,e2];simp only [Bool.false_or,Bool.or_false]
  cases hq:(look (digB 16 n.natAbs) == 48) with
  | false=>rfl
  | true =>
   have h6:=a5 (by simpa using hq) (by decide);rw [h6]
   cases neg with
   | false=>rfl
   | true =>
    rw [h6] at a2;simp [decV] at a2;exact absurd (by omega) (hneg rfl)
 by_cases hn:n<0
 ·have e:intB n++r=45 :: (digB 16 n.natAbs++r):=by simp [intB,hn]
  have e1:negP (45 :: (digB 16 n.natAbs++r))=true:=by simp [negP,look]
  have e2:digP (45 :: (digB 16 n.natAbs++r))=(digB 16 n.natAbs,r):=by
   unfold digP;rw [e1,if_pos rfl,List.tail_cons];exact qc0 _ _ _ (by omega) a1 hr
  rw [e,numP,e1,e2,hb true (fun _=>by omega),if_neg (by decide),if_pos rfl,a2];have:-(n.natAbs:Int)=n:=by omega
  rw [this]
 ·obtain ⟨b1,l,b2⟩:=look_dig hm (by decide);have e:intB n++r=digB 16 n.natAbs++r:=by simp [intB,hn]
  have e1:negP (digB 16 n.natAbs++r)=false:=by
   have:=(qbk b1).1;unfold negP;rw [b2,List.cons_append]
   simpa [look] using this
  have e2:digP (digB 16 n.natAbs++r)=(digB 16 n.natAbs,r):=by
   unfold digP;rw [e1,if_neg (by decide)];exact qc0 _ _ _ (by omega) a1 hr
  rw [e,numP,e1,e2,hb false (by simp),if_neg (by decide),if_neg (by decide),a2];have:(n.natAbs:Int)=n:=by omega
  rw [this]
theorem qbt:∀ (v:JT) (d:Nat),rightV d v=true→∃ c l,writeV v=c :: l∧isBl c=false∧c≠93∧c≠125
 | .mk k n t ns ks,d,h=>by
  rw [writeV]
  by_cases h0:k=0
  ·rw [if_pos h0]; exact ⟨_,_,rfl,by decide,by decide,by decide⟩
  rw [if_neg h0]
  by_cases h1:k=1
  ·rw [if_pos h1]; split <;> exact ⟨_,_,rfl,by decide,by decide,by decide⟩
  rw [if_neg h1]
  by_cases h2:k=2
  ·rw [if_pos h2]
   have hn:n.natAbs<10^16:=by
    rw [rightV] at h;simp [h2] at h;omega
   obtain ⟨b1,l,b2⟩:=look_dig hn (by decide);have:=qbk b1;unfold intB
   split
   ·exact ⟨_,_,rfl,by decide,by decide,by decide⟩
   ·exact ⟨_,_,b2,this.2.2.2.2.2.2.2.1,this.2.2.2.2.2.2.2.2.1,this.2.2.2.2.2.2.2.2.2⟩
  rw [if_neg h2]
  by_cases h3:k=3
  ·rw [if_pos h3]; exact ⟨_,_,rfl,by decide,by decide,by decide⟩
  rw [if_neg h3]
  split <;> exact ⟨_,_,rfl,by decide,by decide,by decide⟩
theorem qdC (m:Bool):isBl (endC m)=false∧isDig (endC m)=false∧(44:UInt8)≠endC m∧(34:UInt8)≠endC m:=by cases m <;> decide
theorem qcK {l r:List Bs} {x:Bs} (h:distinct (l++x :: r)=true):x ∉ l:=by
 induction l with
 | nil=>simp
 | cons y l ih =>
  rw [List.cons_append,distinct] at h;simp only [Bool.and_eq_true,Bool.not_eq_true',List.contains_eq_mem,decide_eq_false_iff_not] at h;rintro (_ | ⟨_,h1⟩)
  ·exact h.1 (by simp)
  ·exact ih h.2 h1
theorem qdq (val:Bs→Except Int (JT × Bs)) (m:Bool) (d:Nat) (hv:∀ v r,rightV d v=true→isDig (look r)=false→val (writeV v++r)=.ok (v,skip r)) (r:Bs) :
  ∀ (ks:List JT) (ns ns0:List Bs) (ks0:List JT) (n:Nat),(∀ k ∈ ks,rightV d k=true)→(if m then ns.length=ks.length else ns=[])→ns.all okT=true→distinct (ns0++ns)=true →
   (itemsV m ns ks ks0.isEmpty++endC m :: r).length<n→listL val m n ns0 ks0 (itemsV m ns ks ks0.isEmpty++endC m :: r)=.ok (ns0++ns,ks0++ks,skip r)
 | [],ns,ns0,ks0,n,_,hl,_,_,hn=>by
  obtain ⟨n,rfl⟩:∃ m,n=m+1:=⟨n - 1,by omega⟩
  have hns:ns=[]:=by
   cases m with
   | true=>simpa using hl
   | false=>simpa using hl
  subst hns;have hs:signP (endC m) (endC m :: r)=(true,skip r):=by simp [signP,qbh (qdC m).1,look]
  rw [itemsV,List.nil_append,listL,hs];simp
 | k :: ks,ns,ns0,ks0,n,hk,hl,ho,hd,hn=>by
  obtain ⟨n,rfl⟩:∃ m,n=m+1:=⟨n - 1,by omega⟩;have hk1:=hk k (List.mem_cons_self ..);obtain ⟨c,wl,hw,hb,hc1,hc2⟩:=qbt k d hk1;have hce:c≠endC m:=by cases m <;> assumption
  obtain ⟨T,hT⟩:=eX (itemsV m ns.tail ks false++endC m :: r)
  have hT1:∃ c' l',T=c' :: l'∧isBl c'=false∧isDig c'=false:=by
   rw [hT]
   cases ks with
   | nil=>exact ⟨_,_,rfl,(qdC m).1,(qdC m).2.1⟩
   | cons k' ks'=>rw [itemsV]; exact ⟨_,_,rfl,by decide,by decide⟩
  obtain ⟨c',l',hT1,hT2,hT3⟩:=hT1
  have hvk:val (writeV k++T)=.ok (k,T):=by
   rw [hv k T hk1 (by rw [hT1]; exact hT3),hT1,qbh hT2]
  obtain ⟨U,hU⟩:=eX ((if m then quote (ns.headD [])++[58] else [])++(writeV k++T))
  have hU1:∃ c' l',U=c' :: l'∧isBl c'=false∧c'≠endC m:=by
   rw [hU]
   cases m with
   | true=>exact ⟨_,_,rfl,by decide,by decide⟩
   | false=>rw [hw]; exact ⟨_,_,rfl,hb,hce⟩
  obtain ⟨cu,lu,hU1,hU2,hU3⟩:=hU1
  have hin:itemsV m ns (k :: ks) ks0.isEmpty++endC m :: r=(if ks0.isEmpty then [] else [44])++U:=by
   rw [itemsV,hU,hT];simp [List.append_assoc]
  rw [hin] at hn ⊢
  have hs:signP (endC m) ((if ks0.isEmpty then [] else [44])++U)=(false,(if ks0.isEmpty then [] else [44])++U):=by
   cases ks0.isEmpty with
   | true=>simp only [if_true,List.nil_append,signP,hU1,qbh hU2,look,if_neg hU3]
   | false=>simp only [Bool.false_eq_true,if_false,List.cons_append,List.nil_append,signP,qbh (show isBl 44=false by decide),look,if_neg (qdC m).2.2.1]
  have hcm:commaP ks0.isEmpty ((if ks0.isEmpty then [] else [44])++U)=.ok U:=by
   cases ks0.isEmpty with
   | true=>simp [commaP]
   | false=>simp [commaP,mustP,qbh (show isBl 44=false by decide),look,hU1,qbh hU2]
  have hky:keyP m ns0 U=.ok (ns0++(if m then [ns.headD []] else []),writeV k++T):=by
   cases m with
   | false=>simp [keyP,hU]
   | true =>
    cases ns with
    | nil=>simp at hl
    | cons s ns' =>
     have hos:okT s=true:=by simp at ho; exact ho.1
     have h1:U=quote s++58 :: (writeV k++T):=by rw [hU]; simp
     have h2:mustP 58 (58 :: (writeV k++T))=.ok (writeV k++T):=by
      simp [mustP,qbh (show isBl 58=false by decide),look,hw,qbh hb]
     rw [keyP,if_pos rfl,nameP,h1,qcZ s _ hos];simp only [if_neg (qcK hd),h2];simp
  have ih:=qdq val m d hv r ks ns.tail (ns0++(if m then [ns.headD []] else [])) (ks0++[k]) n (fun x hx=>hk x (List.mem_cons_of_mem _ hx))
   (by cases m with
    | true=>simp at hl ⊢; omega
    | false=>simp at hl ⊢; rw [hl]; rfl)
   (by cases ns with
    | nil=>rfl
    | cons s ns'=>simp at ho ⊢; exact ho.2)
   (by cases m with
    | true =>
     cases ns with
     | nil=>simp at hl
     | cons s ns'=>simpa using hd
    | false=>simp at hl; subst hl; simpa using hd)
  have he:(ks0++[k]).isEmpty=false:=by simp
  rw [he,← hT] at ih
  have hlen:T.length<n:=by
   rw [hU] at hn;simp [hw] at hn;omega
  rw [listL,hs];simp only [hcm,hky,hvk,ih hlen]
  cases m with
  | true =>
   cases ns with
   | nil=>simp at hl
   | cons s ns'=>simp
  | false=>simp at hl; subst hl; simp
theorem qcX (w r:Bs) (v:JT):wordR w (w++r) v=.ok (v,r):=by
 have h:w.isPrefixOf (w++r)=true:=List.isPrefixOf_iff_prefix.2 (List.prefix_append _ _);simp [wordR,wordP,h]
theorem qc5:∀ r:Bs,skip (skip r)=skip r
 | []=>rfl
 | c :: r=>by
  by_cases h:isBl c=true
  ·simp only [skip,h,if_true,qc5 r]
  ·simp [skip,h]
theorem rawP_write (lp:Bs→Except Int (JT × Bs)) (d:Nat) (v:JT) (r:Bs) (h:rightV d v=true) (hr:isDig (look r)=false)
  (hl:∀ k n t ns ks,v=.mk k n t ns ks→k=4∨k=5→lp (writeV v++r)=.ok (v,skip r)):∃ r1,rawP lp (writeV v++r)=.ok (v,r1)∧skip r1=skip r:=by
 obtain ⟨k,n,t,ns,ks⟩:=v;have h':=h;rw [rightV] at h;simp only [plainJ,Bool.and_eq_true,Bool.or_eq_true,Bool.not_eq_true',beq_iff_eq,decide_eq_true_eq,List.isEmpty_iff,bne_iff_ne] at h;obtain ⟨⟨⟨⟨⟨⟨⟨⟨⟨⟨⟨hn,hk⟩,hns⟩,ht⟩,_⟩,hk0⟩,_⟩,hot⟩,_⟩,hint⟩,_⟩,_⟩:=h
 by_cases h0:k=0
 ·subst h0;obtain rfl:n=0:=by simpa using hn
  obtain rfl:ks=[]:=by simpa using hk
  obtain rfl:ns=[]:=by simpa using hns
  obtain rfl:t=[]:=by simpa using ht
  rw [writeV,if_pos rfl];simp only [rawP,List.cons_append,look,if_true];exact ⟨r,qcX [110,117,108,108] r jzero,rfl⟩
 by_cases h1:k=1
 ·subst h1;obtain rfl:ks=[]:=by simpa using hk
  obtain rfl:ns=[]:=by simpa using hns
  obtain rfl:t=[]:=by simpa using ht
  rw [writeV,if_neg (by decide),if_pos rfl]
  by_cases hn1:n=1
  ·subst hn1;rw [if_pos rfl];have:=qcX [116,114,117,101] r jtrue;exact ⟨r,by simpa [rawP,look,jtrue,jfalse] using this,rfl⟩
  ·obtain rfl:n=0:=by
    simp at hn
    rcases hn with h | h
    ·exact h
    ·exact absurd h hn1
   rw [if_neg (by decide)];have:=qcX [102,97,108,115,101] r jfalse;exact ⟨r,by simpa [rawP,look,jtrue,jfalse] using this,rfl⟩
 by_cases h2:k=2
 ·subst h2;obtain rfl:ks=[]:=by simpa using hk
  obtain rfl:ns=[]:=by simpa using hns
  obtain rfl:t=[]:=by simpa using ht
  have hb:-1000000000000000≤n∧n≤1000000000000000:=by simpa using hint
  obtain ⟨b1,l,b2⟩:=look_dig (show n.natAbs<10^16 by omega) (by decide);have hx:=qbk b1;rw [writeV,if_neg (by decide),if_neg (by decide),if_pos rfl]
  have hlook:look (intB n++r)=if n<0 then 45 else look (digB 16 n.natAbs):=by
   unfold intB
   split
   ·rfl
   ·rw [b2]; rfl
  have hq:∀ c:UInt8,c≠45→(∀ x,isDig x=true→x≠c)→look (intB n++r)≠c:=fun c h1 h2=>by
   rw [hlook]
   split
   ·exact fun h=>h1 h.symm
   ·exact h2 _ b1
  rw [rawP,if_neg (hq 110 (by decide) (fun x h=>(qbk h).2.1)),if_neg (hq 116 (by decide) (fun x h=>(qbk h).2.2.1)),if_neg (hq 102 (by decide) (fun x h=>(qbk h).2.2.2.1)),
   if_neg (hq 34 (by decide) (fun x h=>(qbk h).2.2.2.2.1)),if_neg (by
    rintro (h | h)
    ·exact hq 91 (by decide) (fun x h=>(qbk h).2.2.2.2.2.1) h
    ·exact hq 123 (by decide) (fun x h=>(qbk h).2.2.2.2.2.2.1) h),numP_int n r hb.1 hb.2 hr]
  exact ⟨r,rfl,rfl⟩
 by_cases h3:k=3
 ·subst h3;obtain rfl:n=0:=by simpa using hn
  obtain rfl:ks=[]:=by simpa using hk
  obtain rfl:ns=[]:=by simpa using hns
  rw [writeV,if_neg (by decide),if_neg (by decide),if_neg (by decide),if_pos rfl];have:=qcZ t r hot;have hlk:look (quote t++r)=34:=rfl;rw [rawP,hlk,if_neg (by decide),if_neg (by decide),if_neg (by decide),if_pos rfl,this];exact ⟨r,rfl,rfl⟩
 have hk45:k=4∨k=5:=by omega
 have hlk:look (writeV (.mk k n t ns ks)++r)=91∨look (writeV (.mk k n t ns ks)++r)=123:=by
  rw [writeV,if_neg h0,if_neg h1,if_neg h2,if_neg h3]
  rcases hk45 with rfl | rfl
  ·exact .inl rfl
  ·exact .inr rfl
 have hl:=hl _ _ _ _ _ rfl hk45;rw [rawP]
 rcases hlk with e | e
 ·rw [e,if_neg (by decide),if_neg (by decide),if_neg (by decide),if_neg (by decide),if_pos (.inl rfl)];exact ⟨_,hl,qc5 r⟩
 ·rw [e,if_neg (by decide),if_neg (by decide),if_neg (by decide),if_neg (by decide),if_pos (.inr rfl)];exact ⟨_,hl,qc5 r⟩
theorem skip_write {v:JT} {d:Nat} (h:rightV d v=true) (r:Bs):skip (writeV v++r)=writeV v++r:=by
 obtain ⟨c,l,h1,h2,_⟩:=qbt v d h;rw [h1,List.cons_append,qbh h2]
theorem qcE:∀ (d:Nat) (v:JT) (r:Bs),rightV d v=true→isDig (look r)=false→valueP d (writeV v++r)=.ok (v,skip r)
 | 0,v,r,h,hr=>by
  obtain ⟨r1,h1,h2⟩:=rawP_write (fun _=>.error 9) 0 v r h hr (by
   rintro k n t ns ks rfl hk;rw [rightV] at h
   rcases hk with rfl | rfl <;> simp at h)
  rw [valueP,skip_write h,h1,skipR,h2]
 | d+1,v,r,h,hr=>by
  obtain ⟨r1,h1,h2⟩:=rawP_write (listP (valueP d)) (d+1) v r h hr (by
   rintro k n t ns ks rfl hk
   have hw:writeV (.mk k n t ns ks)=(if k=5 then 123 else 91) :: (itemsV (k == 5) ns ks true++[if k=5 then 125 else 93]):=by
    rw [writeV,if_neg (by omega),if_neg (by omega),if_neg (by omega),if_neg (by omega)]
   rw [rightV] at h;simp only [plainJ,Bool.and_eq_true,Bool.or_eq_true,Bool.not_eq_true',beq_iff_eq,decide_eq_true_eq,List.isEmpty_iff,bne_iff_ne] at h;obtain ⟨⟨⟨⟨⟨⟨⟨⟨⟨⟨⟨hn,_⟩,hns⟩,ht⟩,_⟩,_⟩,hlen⟩,_⟩,hnames⟩,_⟩,hdis⟩,hkids⟩:=h;have hkids:=(qaS d ks).1 (by simpa using hkids);have hn0:n=0:=by omega
   have ht0:t=[]:=by
    rcases ht with h | h
    ·exact h
    ·omega
   subst hn0 ht0;have e1:(k == 5)=true↔k=5:=by simp
   have key:=qdq (valueP d) (k == 5) d (fun v r h hr=>qcE d v r h hr) r ks ns [] [] (writeV (.mk k 0 [] ns ks)++r).length hkids
    (by rcases hk with rfl | rfl; exact (by simpa using hns); exact (by simpa using hlen)) hnames (by simpa using hdis)
    (by rw [hw]; simp)
   have hin:writeV (.mk k 0 [] ns ks)++r=(if k=5 then 123 else 91) :: (itemsV (k == 5) ns ks true++endC (k == 5) :: r):=by
    rw [hw]
    rcases hk with rfl | rfl <;> simp [endC]
   have hl2:(look ((if k=5 then 123 else 91) :: (itemsV (k == 5) ns ks true++endC (k == 5) :: r)) == 123)=(k == 5):=by
    rcases hk with rfl | rfl <;> rfl
   have hsk:skip (itemsV (k == 5) ns ks true++endC (k == 5) :: r)=itemsV (k == 5) ns ks true++endC (k == 5) :: r:=by
    cases ks with
    | nil=>rw [itemsV,List.nil_append,qbh (qdC _).1]
    | cons k1 kr =>
     obtain ⟨c,l,h1,h2,_⟩:=qbt k1 d (hkids k1 (List.mem_cons_self ..));rw [itemsV]
     rcases hk with rfl | rfl
     ·simp [h1,qbh h2]
     ·simp [quote,qbh (show isBl 34=false by decide)]
   rw [hin] at key ⊢;simp only [List.isEmpty_nil,List.nil_append] at key;rw [listP,hl2,List.tail_cons,hsk,key];simp only
   rcases hk with rfl | rfl <;> rfl)
  rw [valueP,skip_write h,h1,skipR,h2]
theorem readP_write (v:JT) (h:rightV 6 v=true) (hl:(writeV v).length≤2000):readP (writeV v)=.ok v:=by
 have:=qcE 6 v [] h (by decide);rw [List.append_nil] at this;rw [readP,if_neg (by omega),this];rfl
def Out (c x c':Bs):Prop:=c.length≤c'.length∧c'.length≤c.length+x.length∧(c'=c++x∨(2000<c'.length∧2000<(c++x).length))
theorem Out.refl (c:Bs):Out c [] c:=⟨Nat.le_refl _,by simp,.inl (by simp)⟩
theorem Out.all (c x:Bs):Out c x (c++x):=⟨by simp,by simp,.inl rfl⟩
theorem Out.stop {c:Bs} (x:Bs) (h:2000<c.length):Out c x c:=⟨Nat.le_refl _,by omega,.inr ⟨h,by simp; omega⟩⟩
theorem Out.trans {c x c' y c'':Bs} (h:Out c x c') (h':Out c' y c''):Out c (x++y) c'':=by
 obtain ⟨l1,m1,h1⟩:=h;obtain ⟨l2,m2,h2⟩:=h';refine ⟨Nat.le_trans l1 l2,by simp; omega,?_⟩
 rcases h1 with rfl | ⟨a,b⟩
 ·rcases h2 with rfl | ⟨a2,b2⟩
  ·exact .inl (by simp)
  ·exact .inr ⟨a2,by simpa [Nat.add_assoc] using b2⟩
 ·exact .inr ⟨by omega,by simp at b ⊢; omega⟩
theorem Out.end_ {x c':Bs} (h:Out [] x c'):(c'.length≤2000→c'=x∧x.length≤2000)∧(2000<c'.length→2000<x.length):=by
 rcases h.2.2 with h | ⟨a,b⟩
 ·simp at h;subst h;exact ⟨fun h=>⟨rfl,h⟩,fun h=>h⟩
 ·exact ⟨fun h=>by omega,fun _=>by simpa using b⟩
end Go.Proofs.YtlkikjeccamheaaGreatDoor.Js
namespace Go.Proofs.YtlkikjeccamheaaGreatDoor.Js
set_option linter.unusedSimpArgs false
set_option linter.unusedVariables false
set_option maxRecDepth 100000
set_option maxHeartbeats 4000000
open Go.RowKit
mutual
def smallJ:JT→Bool
 | .mk _ _ _ ns ks=>decide (ns.length≤4096) && decide (ks.length≤4096) && smallsJ ks
def smallsJ:List JT→Bool
 | []=>true
 | k :: r=>smallJ k && smallsJ r
end
theorem qbo:∀ ks:List JT,smallsJ ks=true↔∀ k ∈ ks,smallJ k=true
 | []=>by simp [smallsJ]
 | k :: r=>by simp [smallsJ,qbo r]
def RVal (d:Nat):Prop:=∀ (j:JT) (v:JV) (B:Nat) (w:World),smallJ j=true→JRep w (fun b=>b<B) j v→B≤w.heap.size →
 Calls Tryz.prog 34 #[.agg (jvCells v),.int .i64 (d:Int)] w fun e w'=>e=.returned (.bool (rightV d j))∧Below w.heap.size w w'
theorem right2_any (d:Nat) (hd9:(d:Int)≤1000) (IH:RVal d) (j:JT) (v:JV) (B g:Nat) (w:World) (hs:smallJ j=true) (hj:JRep w (fun b=>b<B) j v) (hB:B≤w.heap.size) (hg:w.cell? ⟨g,0,none⟩=some (.int .i64 (d+1:Int))) :
  Calls Tryz.prog 65 #[.agg (jvCells v),.pointer (some ⟨g,0,none⟩)] w fun e w'=>e=.returned (.bool (!rightV d j))∧Below w.heap.size w w':=by
 have hu:=Tryz.underlying44;obtain ⟨W0,hW0⟩:=eX (w.alloc (.cells (jvCells v) 44));have hb0:Below w.heap.size w W0:=by rw [hW0]; exact (Below.refl _ w).alloc (Nat.le_refl _) _
 have HB0:=zY hb0;have HKB:=zY (show Blk W0 w.heap.size 44 (jvCells v) by rw [hW0]; exact Blk.new _ _ _)
 have a1:W0.cell? ⟨g,0,none⟩=some (.int .i64 (d+1:Int)):=by
  rw [hb0.cell (p:=⟨g,0,none⟩) (by exact World.block_lt_of_cell? w _ hg)];exact hg
 have C:=zY (IH j v B W0 hs (hj.under (hb0.mono hB)) (Nat.le_trans hB hb0.size));have HW0:=zY hW0;clear hW0 hb0 hg hs hj hB IH;go_enter Tryz.func65,Tryz.ntmps65
 go_upto_region 1 with (fail)
 rw [← HW0.out];go_wp2_with (refine qad (x:=.tmp 2) HKB.out rfl rfl rfl hu rfl qcn ?_);refine qaa C.out ?_;rintro e w1 ⟨rfl,hb1⟩;have HB1:=zY (HB0.out.trans (hb1.mono HB0.out.size));clear hb1;go_wp2_with fail;go_ret;exact ⟨rfl,HB1.out⟩
theorem idxj_any (d:Nat) (hd9:(d:Int)≤1000) (IH:RVal d) (ks:List JT) (kv:List JV) (A:Option Addr) (c B g:Nat) (w:World) (hs:smallsJ ks=true) (hkl:ks.length≤4096) (hkv:kv.length=ks.length) (hkr:Rd w B A (rowsV jvCells kv))
  (hkids:∀ i (h:i<ks.length) (h':i<kv.length),JRep w (fun b=>b<B) ks[i] kv[i]) (hB:B≤w.heap.size) (hg:w.cell? ⟨g,0,none⟩=some (.int .i64 (d+1:Int))) :
  Calls Tryz.prog 96 #[.slice A ks.length c,.func (.func 65) #[] #[.pointer (some ⟨g,0,none⟩)]] w fun e w' =>
   (∃ k:Int,e=.returned (.int .i64 k)∧decide (0≤k)=!rightsV d ks)∧Below w.heap.size w w':=by
 have hu:=Tryz.underlying44;have eg:∀ args w,(callFunc 65 args).run Tryz.prog w=.ok (.enter 65 args) w:=enters_of Tryz.func65 (by kernel_rfl) rfl;obtain ⟨n,hn⟩:=eX (ks.length);have HN:=zY hn;have HKV:=zY hkv;have HR:=zY hkr;have HKD:=zY hkids;have HS:=zY ((qbo ks).1 hs);have HB:=zY hB;have HG:=zY hg;have hns:(n:Int)≤4096:=by omega
 have HD9:=zY hd9;have HIH:=zY IH;rw [← hn];clear hs hkl hkv hkr hkids hB hg hn hd9 IH;go_enter Tryz.func96,Tryz.ntmps96;go_wp2_with fail
 go_loopw [8] (fun x wr=>∃ i:Nat,i≤n∧x=.int .i64 (i:Int)∧(∀ k ∈ ks.take i,rightV d k=true)∧Below w.heap.size w wr) (fun x _=>n - (intOf x).toNat)
 case atStart=>exact ⟨0,by omega,rfl,by simp,Below.refl _ _⟩
 case round =>
  obtain ⟨i,hi,rfl,hok,hb⟩:=hrel;have HBE:=zY hb;have HOK:=zY hok;clear hb hok
  by_cases hlt:i<n
  ·have hil:i<ks.length:=by rw [← HN.out]; exact hlt
   have hiv:i<kv.length:=by rw [HKV.out]; exact hil
   have hlt':(i:Int)<(n:Int):=by omega
   have HLT:=zY hlt;obtain ⟨ad,hA,hadb,hcell⟩:=qaX (f:=jvCells) (m:=5) (fun _=>rfl) (by decide) (HR.out.below (HBE.out.mono HB.out)) hiv;subst hA;obtain ⟨X,hX⟩:=eX (kv[i]);obtain ⟨J,hJ⟩:=eX (ks[i])
   have C:=zY (right2_any d HD9.out HIH.out J X B g wr (by rw [hJ]; exact HS.out _ (List.getElem_mem hil)) (by rw [hX,hJ]; exact (HKD.out i hil hiv).under (HBE.out.mono HB.out)) (Nat.le_trans HB.out HBE.out.size)
    (by rw [HBE.out.cell (p:=⟨g,0,none⟩) (by exact World.block_lt_of_cell? w _ HG.out)]; exact HG.out))
   have HST:=zY (show rightV d J=true→∀ k ∈ ks.take (i+1),rightV d k=true from fun h k hk=>by
    rw [List.take_succ_eq_append_getElem hil,← hJ] at hk
    rcases List.mem_append.1 hk with h1 | h1
    ·exact HOK.out k h1
    ·rw [List.mem_singleton.1 h1]; exact h)
   have HNO:=zY (show rightV d J=false→rightsV d ks=false from fun h=>by
    cases hq:rightsV d ks with
    | false=>rfl
    | true =>
     have:=(qaS d ks).1 hq J (by rw [hJ]; exact List.getElem_mem hil);rw [h] at this
     cases this)
   rw [← hX] at hcell;have HCE:=zY (show ∀ j x,(jvCells X).toList[j]?=some x→wr.cell? ((ad.add (i*5)).add j)=some x from fun j x hx=>hcell j x (by simpa using hx));clear hX hJ hcell hadb hil hiv;go_wp2_with (refine qaD (r:=(jvCells X).toList) HCE.out rfl rfl rfl hu rfl qcn ?_);refine qaa C.out ?_;rintro e w1 ⟨rfl,hb1⟩;have HB1:=zY (HBE.out.trans (hb1.mono HBE.out.size));clear hb1
   cases hq:rightV d J with
   | true =>
    have HQ:=zY (HST.out hq);clear hq;go_wp2_with fail
    go_roundw
    case rel=>exact ⟨i+1,HLT.out,by go_num,HQ.out,HB1.out⟩
    case measure=>have:=HLT.out; simp [intOf]; omega
   | false =>
    have HQ:=zY (HNO.out hq);clear hq;go_wp2_with fail;go_ret;exact ⟨⟨_,rfl,by rw [HQ.out]; simp⟩,HB1.out⟩
  ·obtain rfl:i=n:=by omega
   have HALL:=zY (show rightsV d ks=true by
    have:=HOK.out;rw [HN.out,List.take_length] at this;exact (qaS d ks).2 this)
   go_wp2_with fail;go_ret;exact ⟨⟨_,rfl,by rw [HALL.out]; simp⟩,HBE.out⟩
theorem conj_any (d:Nat) (hd9:(d:Int)≤1000) (IH:RVal d) (ks:List JT) (kv:List JV) (A:Option Addr) (c B g:Nat) (w:World) (hs:smallsJ ks=true) (hkl:ks.length≤4096) (hkv:kv.length=ks.length) (hkr:Rd w B A (rowsV jvCells kv))
  (hkids:∀ i (h:i<ks.length) (h':i<kv.length),JRep w (fun b=>b<B) ks[i] kv[i]) (hB:B≤w.heap.size) (hg:w.cell? ⟨g,0,none⟩=some (.int .i64 (d+1:Int))) :
  Calls Tryz.prog 64 #[.slice A ks.length c,.func (.func 65) #[] #[.pointer (some ⟨g,0,none⟩)]] w fun e w' =>
   e=.returned (.bool (!rightsV d ks))∧Below w.heap.size w w':=by
 have C:=zY (idxj_any d hd9 IH ks kv A c B g w hs hkl hkv hkr hkids hB hg);clear hs hkv hkr hkids hB hg;generalize rightsV d ks=b at *;generalize ks.length=n at *;go_enter Tryz.func64,Tryz.ntmps64;go_wp2_with fail;refine qaa C.out ?_;rintro e w1 ⟨⟨k,rfl,hk⟩,hb⟩;have HB:=zY hb;have HK:=zY hk;clear hb hk;go_wp2_with fail;go_ret;exact ⟨by rw [← HK.out]; rfl,HB.out⟩
theorem conj_nil (A:Option Addr) (c:Nat) (F:Value) (w:World) :
  Calls Tryz.prog 64 #[.slice A 0 c,F] w fun e w'=>e=.returned (.bool false)∧w'=w:=by
 have C:=zY (show Calls Tryz.prog 96 #[.slice A 0 c,F] w fun e w'=>e=.returned (.int .i64 (-1))∧w'=w by
  go_enter Tryz.func96,Tryz.ntmps96;go_wp2_with fail
  go_loop [8] (fun x=>x=.int .i64 0) (fun _=>0)
  case atStart=>rfl
  case round =>
   obtain rfl:=hrel;go_wp2_with fail;go_ret;exact ⟨rfl,rfl⟩)
 go_enter Tryz.func64,Tryz.ntmps64;go_wp2_with fail;refine qaa C.out ?_;rintro e w1 ⟨rfl,rfl⟩;go_wp2_with fail;go_ret;exact ⟨rfl,rfl⟩
structure RightQ (d:Nat) (k n:Int) (t:Bs) (ns:List Bs) (ks:List JT) (P:Bool):Prop where
 eq:rightV d (.mk k n t ns ks)=(P && !(d == 0 && decide (4≤k)) && (decide (0≤k) && decide (k≤5)) && (k != 5 || ns.length == ks.length) && okT t && ns.all okT
   && (k != 2 || (decide (-1000000000000000≤n) && decide (n≤1000000000000000))) && distinct ns && rightsV (d - 1) ks)
theorem distinct_take {l:List Bs} {i:Nat} (hi:i<l.length) (h:distinct (l.take i)=true):(l[i] ∈ l.take i→distinct l=false)∧(l[i] ∉ l.take i→distinct (l.take (i+1))=true):=by
 constructor
 ·intro hm
  cases hq:distinct l with
  | false=>rfl
  | true =>
   have e:l=l.take i++l[i] :: l.drop (i+1):=by
    rw [← List.drop_eq_getElem_cons hi,List.take_append_drop]
   rw [e] at hq;exact absurd hm (qcK hq)
 ·intro hm;rw [List.take_succ_eq_append_getElem hi];exact qbE h hm
theorem right_step (d:Nat) (hd9:(d:Int)≤1000) (IH:∀ d',d=d'+1→RVal d'):RVal d:=by
 intro j v B w hs hj hB;have hu:=Tryz.underlying44;obtain ⟨ns,ks,kv,rfl,hn,hnc,hnr,hkn,_,hkv,hkr,hkids⟩:=hj.inv;rw [smallJ] at hs;simp only [Bool.and_eq_true,decide_eq_true_eq] at hs;obtain ⟨⟨hsn,hsk⟩,hsm⟩:=hs;obtain ⟨G,hG⟩:=eX (w.heap.size);obtain ⟨W0,hW0⟩:=eX ((w.alloc (.cells (jvCells v) 44)).alloc (.cells #[.int .i64 (d:Int)] 3));have hb0:Below w.heap.size w W0:=by rw [hW0]; exact ((Below.refl _ w).alloc (Nat.le_refl _) _).alloc (by simp) _
 have HB0:=zY hb0;have hkb:Blk W0 G 44 (jvCells v):=by rw [hW0,hG]; exact (Blk.new _ _ _).alloc _
 have hkd:Blk W0 (G+1) 3 #[.int .i64 (d:Int)]:=by
  have:=Blk.new (w.alloc (.cells (jvCells v) 44)) 3 #[.int .i64 (d:Int)];rw [hW0,hG]
  simpa using this
 have HKB:=zY hkb;have HKD:=zY hkd;have HNR:=zY (show Rd W0 B v.nA (rowsV sCell ns) from (hnr.rd (fun _ _ h=>h)).below (hb0.mono hB));have HKR:=zY (show Rd W0 B v.kA (rowsV jvCells kv) from (hkr.rd (fun _ _ h=>h)).below (hb0.mono hB));have HKI:=zY (show ∀ i (h:i<ks.length) (h':i<kv.length),JRep W0 (fun b=>b<B) ks[i] kv[i] from fun i h h'=>(hkids i h h').under (hb0.mono hB));have HBB:=zY (show B≤W0.heap.size from Nat.le_trans hB hb0.size);have HW0:=zY hW0;have HSN:=zY hsn;have HSK:=zY hsk;have HSM:=zY hsm;have HKV:=zY hkv;have HIH:=zY IH;have HD9:=zY hd9;have HNC:=zY hnc;have HP:=zY (plain_any v ns ks hn hkn W0);obtain ⟨vk,vn,vt,nA,nn,nc,kA,kn,kc⟩:=v;dsimp only at *;obtain ⟨P,hP⟩:=eX (plainJ vk vn vt ns ks);rw [← hP] at HP;have HPL:=zY hP;have HQ:RightQ d vk vn vt ns ks P:=⟨by rw [rightV,hP]⟩;have HN:=zY hn;have HKN:=zY hkn;have HE:=zY (show (ns.length == ks.length)=!((nn:Int) != (kn:Int)) by rw [hn,hkn,Bool.eq_iff_iff,beq_iff_eq]; simp; omega);have a0:W0.cell? ⟨G,0,none⟩=some (.int .i64 vk):=hkb.cell 0;have a1:W0.cell? ⟨G,1,none⟩=some (.int .i64 vn):=hkb.cell 1;have a2:W0.cell? ⟨G,2,none⟩=some (.string (bs vt)):=hkb.cell 2;have a3:W0.cell? ⟨G,3,none⟩=some (.slice nA nn nc):=hkb.cell 3;have a4:W0.cell? ⟨G,4,none⟩=some (.slice kA kn kc):=hkb.cell 4;have a5:W0.cell? ⟨G+1,0,none⟩=some (.int .i64 (d:Int)):=hkd.cell 0;clear hW0 hb0 hkb hkd hnr hkr hkids hB hsn hsk hsm hkv IH hd9 hn hkn hP hnc hj;rw [hG] at *;clear hG;go_enter Tryz.func34,Tryz.ntmps34
 go_upto_region 1 with (fail)
 rw [← HW0.out];clear HW0;generalize Value.agg (jvCells ⟨vk,vn,vt,nA,nn,nc,kA,kn,kc⟩)=AV;generalize Value.int IntKind.i64 (d:Int)=DV;clear a0 a1 a2 a3 a4 a5
 go_cut [43] (fun x wx=>x=.bool (!P || (decide ((d:Int)=0) && decide (4≤vk)) || decide (vk<0) || decide (5<vk) || (vk == 5 && ((nn:Int) != (kn:Int))))∧Below W0.heap.size W0 wx)
 case first =>
  go_wp2_with (refine qad (x:=.tmp 2) HKB.out rfl rfl rfl hu rfl qcn ?_);refine qaa HP.out ?_;rintro e w1 ⟨rfl,hb1⟩;have HB1:=zY hb1;have hkb:=HKB.out.below hb1 HKB.out.lt;have hkd:=HKD.out.below hb1 HKD.out.lt;have a0:w1.cell? ⟨w.heap.size,0,none⟩=some (.int .i64 vk):=hkb.cell 0;have a3:w1.cell? ⟨w.heap.size,3,none⟩=some (.slice nA nn nc):=hkb.cell 3;have a4:w1.cell? ⟨w.heap.size,4,none⟩=some (.slice kA kn kc):=hkb.cell 4;have a5:w1.cell? ⟨w.heap.size+1,0,none⟩=some (.int .i64 (d:Int)):=hkd.cell 0;clear hb1 hkb hkd;generalize Value.agg (jvCells ⟨vk,vn,vt,nA,nn,nc,kA,kn,kc⟩)=AV2
  cases P with
  | false =>
   go_wp2_with fail
   all_goals (go_meet; exact ⟨by first | rfl | (simp; done),HB1.out⟩)
  | true =>
   go_wp2_with fail
   all_goals (go_meet; exact ⟨by first | rfl | (simp; done) | (simp_all; done),HB1.out⟩)
 case rest =>
 obtain ⟨rfl,hbel⟩:=hcut;have HBE:=zY hbel;clear hbel;obtain ⟨X1,hX1⟩:=eX ((!P || (decide ((d:Int)=0) && decide (4≤vk)) || decide (vk<0) || decide (5<vk) || (vk == 5 && ((nn:Int) != (kn:Int)))));rw [← hX1]
 have HQ1:=zY (show rightV d (.mk vk vn vt ns ks)=(!X1 && okT vt && ns.all okT && (vk != 2 || (decide (-1000000000000000≤vn) && decide (vn≤1000000000000000))) && distinct ns && rightsV (d - 1) ks) by
  have e1:(d == 0)=decide ((d:Int)=0):=by rw [Bool.eq_iff_iff,beq_iff_eq,decide_eq_true_iff]; omega
  have e2:decide (0≤vk)=!decide (vk<0):=by rw [Bool.eq_iff_iff]; simp
  have e3:decide (vk≤5)=!decide (5<vk):=by rw [Bool.eq_iff_iff]; simp
  rw [HQ.eq,HE.out,e1,e2,e3,hX1];unfold bne
  cases P <;> cases decide ((d:Int)=0) <;> cases decide (4≤vk) <;> cases decide (vk<0) <;> cases decide (5<vk) <;> cases (vk == 5) <;> simp)
 have HX1:=zY (show X1=false→d=0→ks=[] from fun h1 h2=>by
  rw [hX1] at h1;simp only [Bool.or_eq_false_iff,Bool.not_eq_false',Bool.and_eq_false_imp,decide_eq_true_eq,decide_eq_false_iff_not] at h1;have hp:=HPL.out;rw [h1.1.1.1.1] at hp;have h4:=h1.1.1.1.2 (by omega);have h5:=hp.symm;unfold plainJ at h5;simp only [Bool.and_eq_true,Bool.or_eq_true,List.isEmpty_iff,beq_iff_eq] at h5
  rcases h5.1.1.2 with (h | h) | h
  ·exact h
  ·omega
  ·omega)
 clear hX1
 cases X1 with
 | true =>
  go_wp2_with fail;go_ret;exact ⟨by rw [HQ1.out]; simp,HB0.out.trans (HBE.out.mono HB0.out.size)⟩
 | false =>
  have HKE:=zY (HX1.out rfl);clear HX1 HP HPL HQ
  have cells:∀ u,Below W0.heap.size W0 u→u.cell? ⟨w.heap.size,0,none⟩=some (.int .i64 vk)∧u.cell? ⟨w.heap.size,1,none⟩=some (.int .i64 vn)∧u.cell? ⟨w.heap.size,2,none⟩=some (.string (bs vt))∧u.cell? ⟨w.heap.size,3,none⟩=some (.slice nA nn nc) ∧
    u.cell? ⟨w.heap.size,4,none⟩=some (.slice kA kn kc)∧u.cell? ⟨w.heap.size+1,0,none⟩=some (.int .i64 (d:Int)):=fun u hu=>by
   have h:=HKB.out.below hu HKB.out.lt;have h':=HKD.out.below hu HKD.out.lt;exact ⟨h.cell 0,h.cell 1,h.cell 2,h.cell 3,h.cell 4,h'.cell 0⟩
  have CE:=zY cells;clear cells
  go_upto_region 4 with (fail)
  go_cut [68] (fun x wx=>x=.bool (!okT vt || !ns.all okT || (vk == 2 && (decide (vn< -1000000000000000) || decide (1000000000000000<vn))))∧Below W0.heap.size W0 wx)
  case first =>
   obtain ⟨a0,a1,a2,a3,_⟩:=CE.out _ HBE.out;have eg:∀ args w,(callFunc 59 args).run Tryz.prog w=.ok (.enter 59 args) w:=enters_of Tryz.func59 (by kernel_rfl) rfl;go_wp2_with fail;refine qaa (odd_any (bs vt) _) ?_;rintro e w2 ⟨rfl,hb2⟩;rw [show (bs vt).data.toList=vt from rfl];have HB2:=zY (HBE.out.trans (hb2.mono HBE.out.size));clear a0 a1 a2 a3 hb2;obtain ⟨a0,a1,a2,a3,_⟩:=CE.out _ HB2.out
   cases hq1:okT vt with
   | false =>
    go_wp2_with fail
    all_goals (go_meet; exact ⟨by first | rfl | (simp; done) | (simp [hq1]; done),HB2.out⟩)
   | true =>
    have HC:=zY (cons_any ns nA nc B w2 (HNR.out.below (HB2.out.mono HBB.out)) (Nat.le_trans HBB.out HB2.out.size) (by have:=HSN.out; omega));rw [← HN.out] at HC;go_wp2_with fail;refine qaa HC.out ?_;rintro e w3 ⟨rfl,hb3⟩;have HB3:=zY (HB2.out.trans (hb3.mono HB2.out.size));clear a0 a1 a2 a3 hb3 HC;obtain ⟨a0,a1,a2,a3,_⟩:=CE.out _ HB3.out
    cases hq2:ns.all okT with
    | false =>
     go_wp2_with fail
     all_goals (go_meet; exact ⟨by first | rfl | (simp; done) | (simp only [hq1,hq2]; rfl),HB3.out⟩)
    | true =>
     go_wp2_with fail
     all_goals (go_meet; exact ⟨by rw [hq1,hq2]; first | rfl | (simp; done) | (simp_all; done) | grind,HB3.out⟩)
  case rest =>
  obtain ⟨rfl,hbel⟩:=hcut;clear HBE;have HBE:=zY hbel;clear hbel;obtain ⟨X2,hX2⟩:=eX ((!okT vt || !ns.all okT || (vk == 2 && (decide (vn< -1000000000000000) || decide (1000000000000000<vn)))));rw [← hX2]
  have HQ2:=zY (show rightV d (.mk vk vn vt ns ks)=(!X2 && distinct ns && rightsV (d - 1) ks) by
   have e1:decide (-1000000000000000≤vn)=!decide (vn< -1000000000000000):=by rw [Bool.eq_iff_iff]; simp
   have e2:decide (vn≤1000000000000000)=!decide (1000000000000000<vn):=by rw [Bool.eq_iff_iff]; simp
   rw [HQ1.out,hX2,e1,e2];unfold bne
   cases okT vt <;> cases ns.all okT <;> cases (vk == 2) <;> cases decide (vn< -1000000000000000) <;> cases decide (1000000000000000<vn) <;> simp)
  clear hX2 HQ1
  cases X2 with
  | true =>
   go_wp2_with fail;go_ret;exact ⟨by rw [HQ2.out]; simp,HB0.out.trans (HBE.out.mono HB0.out.size)⟩
  | false =>
   obtain ⟨_,_,_,a3,_⟩:=CE.out _ HBE.out;go_wp2_with fail;clear a3;have hsn:(nn:Int)≤4096:=by have:=HSN.out; have:=HN.out; omega
   have hnl:nn=ns.length:=by have:=HN.out; omega
   have HNL:=zY hnl;clear hnl
   go_loopw [72] (fun x wr=>∃ i:Nat,i≤nn∧x=.int .i64 (i:Int)∧distinct (ns.take i)=true∧Below W0.heap.size W0 wr) (fun x _=>nn - (intOf x).toNat)
   case atStart=>exact ⟨0,by omega,rfl,by simp [distinct],HBE.out⟩
   case round =>
    obtain ⟨i,hi,rfl,hok,hb⟩:=hrel;have HB3:=zY hb;have HOK:=zY hok;clear hb hok;obtain ⟨_,_,_,a3,a4,_⟩:=CE.out _ HB3.out
    by_cases hlt:i<nn
    ·have hil:i<ns.length:=by rw [← HNL.out]; exact hlt
     have hlt':(i:Int)<(nn:Int):=by omega
     have HLT:=zY hlt;obtain ⟨ad,hA,hadb,hcell⟩:=qaX (f:=sCell) (m:=1) (fun _=>rfl) (by decide) (HNR.out.below (HB3.out.mono HBB.out)) hil;subst hA;obtain ⟨X,hX⟩:=eX (ns[i]);have hdt:=distinct_take hil HOK.out;rw [← hX] at hcell hdt;have HDT:=zY hdt
     have hc0:wr.cell? (ad.add i)=some (.string (bs X)):=by
      have h:=hcell 0 _ rfl;rw [Nat.mul_one] at h;exact h
     have HC:=zY (has_any (ns.take i) X (some ad) nc B wr (fun j u hu=>(HNR.out.below (HB3.out.mono HBB.out)) j u (by
      have h1:rowsV sCell (ns.take i)=(rowsV sCell ns).take (i*1):=rowsV_take (f:=sCell) (m:=1) (fun _=>rfl) ns i;rw [h1,List.getElem?_take] at hu
      split at hu
      ·exact hu
      ·cases hu)) (by rw [List.length_take]; have:=HSN.out; omega))
     have hli:(ns.take i).length=i:=by rw [List.length_take]; omega
     rw [hli] at HC;obtain ⟨b,hb⟩:=eX (decide (X ∈ ns.take i));rw [← hb] at HC;have HBX:=zY hb;have hnc:(i:Int)≤(nc:Int):=by have:=HNC.out; omega
     clear hX hdt hcell hadb hil hli hb;go_wp2_with fail;refine qaa HC.out ?_;rintro e w2 ⟨rfl,rfl⟩
     cases b with
     | true =>
      have HD:=zY (HDT.out.1 (by have:=HBX.out; exact of_decide_eq_true this.symm));go_wp2_with fail;go_ret;exact ⟨by rw [HQ2.out,HD.out]; rfl,HB0.out.trans (HB3.out.mono HB0.out.size)⟩
     | false =>
      have HD:=zY (HDT.out.2 (by have:=HBX.out; exact of_decide_eq_false this.symm));go_wp2_with fail
      go_roundw
      case rel=>exact ⟨i+1,HLT.out,by go_num,HD.out,HB3.out⟩
      case measure=>have:=HLT.out; simp [intOf]; omega
    ·obtain rfl:i=nn:=by omega
     have HD:=zY (show distinct ns=true by
      have:=HOK.out
      rwa [HNL.out,List.take_length] at this)
     have hmf:∀ (fn:Fn) (first cap:Array Value) (u:World),(Instr.makeFunc fn first cap).run Tryz.prog u=.ok (.func fn first cap) u:=fun _ _ _ _=>rfl;clear a3;go_wp2_with fail
     have HFIN:=zY (show Calls Tryz.prog 64 #[.slice kA kn kc,.func (.func 65) #[] #[.pointer (some ⟨w.heap.size+1,0,none⟩)]] wr fun e w'=>e=.returned (.bool (!rightsV (d - 1) ks))∧Below W0.heap.size W0 w' by
      have hkn:kn=ks.length:=by have:=HKN.out; omega
      by_cases h0:d=0
      ·have hk0:=HKE.out h0;subst hk0;subst hkn;refine qaa (conj_nil kA kc _ wr) ?_;rintro e w5 ⟨rfl,rfl⟩;exact ⟨by simp [rightsV],HB3.out⟩
      ·obtain ⟨d',rfl⟩:∃ d',d=d'+1:=⟨d - 1,by omega⟩;have h5:=(CE.out _ HB3.out).2.2.2.2.2;subst hkn;refine qaa (conj_any d' (by have:=HD9.out; omega) (HIH.out d' rfl) ks kv kA kc B _ wr HSM.out HSK.out HKV.out (HKR.out.below (HB3.out.mono HBB.out)) (fun i h h'=>(HKI.out i h h').under (HB3.out.mono HBB.out)) (Nat.le_trans HBB.out HB3.out.size) (by simpa using h5)) ?_;rintro e w5 ⟨rfl,hb5⟩;exact ⟨rfl,HB3.out.trans (hb5.mono HB3.out.size)⟩)
     refine qaa HFIN.out ?_;rintro e w4 ⟨rfl,hb4⟩;have HB4:=zY hb4;clear hb4;go_wp2_with fail;go_ret;exact ⟨by rw [HQ2.out,HD.out]; simp,HB0.out.trans (HB4.out.mono HB0.out.size)⟩
theorem right_any:∀ d:Nat,(d:Int)≤1000→RVal d:=by
 intro d
 induction d with
 | zero=>exact fun h=>right_step 0 h (fun d' h'=>by omega)
 | succ d ih=>exact fun h=>right_step (d+1) h (fun d' h'=>by
   have:d'=d:=by omega
   subst this;exact ih (by omega))
end Go.Proofs.YtlkikjeccamheaaGreatDoor.Js
namespace Go.Proofs.YtlkikjeccamheaaGreatDoor
set_option linter.unusedSimpArgs false
set_option linter.unusedVariables false
set_option maxRecDepth 100000
set_option maxHeartbeats 4000000
open Go.RowKit
structure BT (T:TypeId):Prop where
 lies:liesAt Tryz.prog Tryz.prog.depth T (2/Tryz.prog.cellsOf T) 0 66 1=true
 ne:T≠5
theorem bldT_size:(Tryz.prog.info? 66).map (·.size)=some 2:=by kernel_rfl
def SelfOk (p:Nat) (v:Value):Prop:=v=.pointer none∨v=.pointer (some ⟨p,0,none⟩)
theorem Blk.shape {w:World} {g:Nat} {t:TypeId} {cs:Array Value} (h:Blk w g t cs):w.shape? g=some (t,cs.size):=by
 unfold Blk at h;simp [World.shape?,h]
theorem Wrote.refl (g:Nat) (w:World):Wrote g w w:=⟨World.grownBy.refl _ _,rfl⟩
theorem qdF {T:TypeId} (HT:BT T) (p:Nat) (self sl:Value) (w:World) (hb:Blk w p T #[self,sl]) (hs:SelfOk p self) :
  Calls Tryz.prog 93 #[.pointer (some ⟨p,0,none⟩)] w fun e w'=>e=.returned (.tuple #[])∧Blk w' p T #[.pointer (some ⟨p,0,none⟩),sl]∧Wrote p w w':=by
 obtain ⟨j,hj,hjs⟩:=Option.map_eq_some_iff.1 bldT_size;have t41:=Tryz.underlying64;have c0:w.cell? ⟨p,0,none⟩=some self:=hb.cell 0;have hsh:=hb.shape;have HB:=zY hb
 rcases hs with rfl | rfl
 ·clear hb;go_enter Tryz.func93,Tryz.ntmps93;go_wp2_with fail;rw [Lib.run_to_unsafe w ⟨p,0,none⟩ t41 Tryz.underlying154 hj (by rw [hjs]; decide) hsh (by simp)];simp only [Result.andThen];rw [Oper.upon_value];go_wp2;rw [run_callFunc_extern Tryz.func118 (by kernel_rfl) (by kernel_rfl) (by kernel_rfl) (e:=Extern.AbiNoEscape.same) (by kernel_rfl)];rw [Lib.run_noEscape];simp only [Result.andThen];rw [Oper.upon_value];go_wp2_with fail;rw [Lib.run_from_unsafe w ⟨p,0,none⟩ Tryz.underlying154 t41 hj hsh HT.lies];simp only [Result.andThen];rw [Oper.upon_value];go_wp2_with (refine qag (x:=.tmp 13) (i:=0) HB.out rfl rfl rfl rfl (by kernel_rfl) (by simp) rfl ?_; intro w1 hb1 hw1)
  go_end0
  exact ⟨rfl,hb1,hw1⟩
 ·clear hb;go_enter Tryz.func93,Tryz.ntmps93;go_wp2;rw [Lib.run_neq_ptr_same w _ t41 hj];go_wp2
  go_end0
  exact ⟨rfl,HB.out,Wrote.refl _ _⟩
def IsB (w:World) (B:Nat) (T:TypeId) (p:Nat) (l:List UInt8):Prop :=
 B≤p∧∃ self A c,SelfOk p self∧Blk w p T #[self,.slice A l.length c]∧OwnX w B 5 1 (.slice A l.length c) l.length (bytesV l)
theorem IsB.lt {w:World} {B:Nat} {T:TypeId} {p:Nat} {l:List UInt8} (h:IsB w B T p l):B≤p∧p<w.heap.size:=by
 obtain ⟨h1,_,_,_,_,h2,_⟩:=h;exact ⟨h1,h2.lt⟩
theorem IsB.below {w w':World} {B:Nat} {T:TypeId} {p:Nat} {l:List UInt8} (h:IsB w B T p l) (hb:Below w.heap.size w w'):IsB w' B T p l:=by
 obtain ⟨h1,self,A,c,h2,h3,h4⟩:=h;exact ⟨h1,self,A,c,h2,h3.below hb h3.lt,h4.below hb (Nat.le_refl _)⟩
theorem IsB.new (w:World) (T:TypeId) {B:Nat} (hB:B≤w.heap.size):IsB (w.alloc (.cells #[.pointer none,.slice none 0 0] T)) B T w.heap.size [] :=
 ⟨hB,_,none,0,.inl rfl,Blk.new _ _ _,OwnX.nil _ _ _ _⟩
theorem sl_u8:SlT Tryz.prog 40 5 1 1:=SlT.mk1 (z:=.int .u8 0) Tryz.underlying40 (by kernel_rfl) rfl (by decide)
structure BK (B p:Nat) (w w':World):Prop where
 below:Below B w w'
 size:w.heap.size≤w'.heap.size
 keep:∀ (k:Nat) (cs:Array Value) (t:TypeId) (fz:Nat × Nat),k≠p→t≠5→w.heap[k]?=some (Obj.cells cs t fz)→w'.heap[k]?=some (Obj.cells cs t fz)
section
variable {B p:Nat} {w w1 w2 w':World}
theorem BK.refl (B p:Nat) (w:World):BK B p w w:=⟨Below.refl _ _,Nat.le_refl _,fun _ _ _ _ _ _ h=>h⟩
theorem BK.trans (h:BK B p w w1) (h':BK B p w1 w2):BK B p w w2:=⟨h.below.trans h'.below,Nat.le_trans h.size h'.size,fun k cs t fz h1 h2 h3=>h'.keep k cs t fz h1 h2 (h.keep k cs t fz h1 h2 h3)⟩
theorem BK.drew (h:BK B p w w1):BK B p w w1.drew:=⟨h.below.drew,h.size,h.keep⟩
theorem BK.wrote (h:Wrote p w w1) (hB:B≤p) (hs:B≤w.heap.size):BK B p w w1:=⟨h.below (Below.refl _ _) hB hs,by rw [h.size]; exact Nat.le_refl _,fun k cs t fz h1 _ h3=>(h.grown.block k (Array.getElem?_eq_some_iff.1 h3).1 (by simpa using h1)).trans h3⟩
theorem BK.own {e s n:Nat} {v:Value} {xs:List Value} (ho:OwnX w B 5 s v n xs) (hg:w.grownBy w1 v.ownBlock) (hs:B≤w.heap.size):BK B p w w1 :=
 ⟨(Below.refl B w).grown hg hs (fun k hk=>(ho.lt k hk).1),hg.size,fun k cs t fz _ h2 h3=>(qbG ho hg).2 k cs t fz h2 h3⟩
theorem BK.fresh {g:Nat} (hg:w.grownBy w1 (some g)) (hs:w.heap.size≤g) (hB:B≤w.heap.size):BK B p w w1 :=
 ⟨(Below.refl B w).grown hg hB (fun k hk=>by injection hk with hk; omega),hg.size,fun k cs t fz _ _ h3=>by
  have hlt:=(Array.getElem?_eq_some_iff.1 h3).1;exact (hg.block k hlt (by intro e; injection e with e; omega)).trans h3⟩
theorem BK.all (h:Below w.heap.size w w1) (hB:B≤w.heap.size):BK B p w w1:=⟨h.mono hB,h.size,fun k cs t fz _ _ h3=>(h.block k (Array.getElem?_eq_some_iff.1 h3).1).trans h3⟩
theorem BK.blk {g:Nat} {t:TypeId} {cs:Array Value} (h:BK B p w w1) (hb:Blk w g t cs) (hg:g≠p) (ht:t≠5):Blk w1 g t cs:=h.keep g cs t (0,0) hg ht hb
end
theorem isB_put {T:TypeId} {B p n m c2:Nat} {A2:Option Addr} {s v:Value} {xs:List Value} {l':List UInt8} {w w1 w2 w3:World} (hB:B≤p) (hp:p<w.heap.size) (hs:SelfOk p s) (hw1:Wrote p w w1) (ho1:OwnX w1 B 5 1 v m xs) (hg2:w1.grownBy w2 v.ownBlock) (HT:BT T)
  (hb2:Blk w2 p T #[s,v]) (ho2:OwnX w2 B 5 1 (.slice A2 n c2) n (bytesV l')) (hn:n=l'.length) (hb3:Blk w3 p T (#[s,v].setIfInBounds 1 (.slice A2 n c2))) (hw3:Wrote p w2 w3):IsB w3 B T p l'∧BK B p w w3:=by
 subst hn;refine ⟨⟨hB,s,A2,c2,hs,hb3,hw3.own ho2 (qay ho2 hb2 HT.ne)⟩,?_⟩;have h1:BK B p w w1:=.wrote hw1 hB (by omega);have h2:BK B p w1 w2:=.own (e:=0) ho1 hg2 (by have:=hw1.size; omega);have h3:BK B p w2 w3:=.wrote hw3 hB (by have:=h2.size; have:=h1.size; omega);exact (h1.trans h2).trans h3
theorem qb5 {T:TypeId} (HT:BT T) (B p:Nat) (l:List UInt8) (x:UInt8) (w:World) (hb:IsB w B T p l) (hl:l.length+1≤140737488355328) :
  Calls Tryz.prog 57 #[.pointer (some ⟨p,0,none⟩),byteV x] w fun e w'=>e=.returned .nilIface∧IsB w' B T p (l++[x])∧BK B p w w':=by
 obtain ⟨hB,self,A,c,hs,hblk,hown⟩:=hb;have C:=zY (qdF HT p self _ w hblk hs);have HO:=zY hown;have HK:=zY hblk;have hl':(l.length:Int)≤140737488355327:=by omega
 clear hblk hown;unfold byteV;go_enter Tryz.func57,Tryz.ntmps57;go_wp2_with fail;refine qaa C.out ?_;rintro e w1 ⟨rfl,hb1,hw1⟩;have hne:(Value.slice A l.length c).ownBlock≠some p:=qay HO.out HK.out HT.ne;have ho1:=hw1.own HO.out hne;have c1:w1.cell? ⟨p,1,none⟩=some (.slice A l.length c):=hb1.cell 1;have HW:=zY hw1;have HB1:=zY hb1;have HO1:=zY ho1;have hBw:B≤w1.heap.size:=by have:=HK.out.lt; have:=hw1.size; omega
 clear hw1 hb1 ho1
 go_wp2_with (first
  | (refine qal sl_u8 rfl rfl HO1.out rfl rfl rfl (by rfl) (by unfold maxLen; omega) (by omega) hBw ?_; intro A2 c2 w2 ho2 hg2 hn2; have hb2:=zY (HB1.out.grown hg2 (by intro h; exact hne h.symm)))
  | (refine qag (x:=.tmp 16) (i:=1) hb2.out rfl rfl rfl rfl (by kernel_rfl) (by simp) rfl ?_; intro w3 hb3 hw3))
 go_ret;exact ⟨rfl,isB_put hB HK.out.lt (.inr rfl) HW.out HO1.out hg2 HT hb2.out (by rw [qaE]; exact ho2) (by simp) hb3 hw3⟩
theorem bld_str {T:TypeId} (HT:BT T) (B p:Nat) (l:List UInt8) (s:ByteArray) (w:World) (hb:IsB w B T p l) (hl:l.length+s.size≤140737488355328) :
  Calls Tryz.prog 66 #[.pointer (some ⟨p,0,none⟩),.string s] w fun e w'=>e=.returned (.tuple #[.int .i64 s.size,.nilIface])∧IsB w' B T p (l++s.data.toList)∧BK B p w w':=by
 obtain ⟨hB,self,A,c,hs,hblk,hown⟩:=hb;have C:=zY (qdF HT p self _ w hblk hs);have HO:=zY hown;have HK:=zY hblk;have hl':(l.length:Int)+(s.size:Int)≤140737488355328:=by omega
 have zero_u8':∃ i,Tryz.prog.info? 5=some i∧i.zero=some (.int .u8 0):=by
  obtain ⟨i,h1,h2,_⟩:=info_parts (show (Tryz.prog.info? 5).map (fun i=>(i.zero,i.size,i.bytes))=some (some (.int .u8 0),1,1) by kernel_rfl);exact ⟨i,h1,h2⟩
 have HZ:=zY zero_u8';clear hblk hown zero_u8';go_enter Tryz.func66,Tryz.ntmps66;go_wp2_with fail;refine qaa C.out ?_;rintro e w1 ⟨rfl,hb1,hw1⟩;have hne:(Value.slice A l.length c).ownBlock≠some p:=qay HO.out HK.out HT.ne;have ho1:=hw1.own HO.out hne;have c1:w1.cell? ⟨p,1,none⟩=some (.slice A l.length c):=hb1.cell 1;have HW:=zY hw1;have HB1:=zY hb1;have HO1:=zY ho1;have hBw:B≤w1.heap.size:=by have:=HK.out.lt; have:=hw1.size; omega
 clear hw1 hb1 ho1
 go_wp2_with (first
  | (refine qcv sl_u8 HZ.out Tryz.underlying9 rfl rfl HO1.out rfl rfl (by omega) hBw ?_; intro A2 c2 w2 ho2 hg2 hn2; have hb2:=zY (HB1.out.grown hg2 (by intro h; exact hne h.symm)))
  | (refine qag (x:=.tmp 16) (i:=1) hb2.out rfl rfl rfl rfl (by kernel_rfl) (by simp) rfl ?_; intro w3 hb3 hw3))
 go_ret2;exact ⟨rfl,isB_put hB HK.out.lt (.inr rfl) HW.out HO1.out hg2 HT hb2.out (by rw [qaE]; exact ho2) (by rw [List.length_append]; rfl) hb3 hw3⟩
theorem bld_write {T:TypeId} (HT:BT T) (B p B2 m cx:Nat) (Ad:Option Addr) (l s:List UInt8) (w:World) (hb:IsB w B T p l) (hr:Rd w B2 Ad (bytesV s)) (hpr:∀ ad,Ad=some ad→ad.block≠p) (hm:s.length=m) (hl:l.length+m≤140737488355328) :
  Calls Tryz.prog 97 #[.pointer (some ⟨p,0,none⟩),.slice Ad m cx] w fun e w'=>e=.returned (.tuple #[.int .i64 m,.nilIface])∧IsB w' B T p (l++s)∧BK B p w w':=by
 obtain ⟨hB,self,A,c,hs,hblk,hown⟩:=hb;have C:=zY (qdF HT p self _ w hblk hs);have HO:=zY hown;have HK:=zY hblk;have HR:=zY hr;have hl':(l.length:Int)+(m:Int)≤140737488355328:=by omega
 clear hblk hown hr;go_enter Tryz.func97,Tryz.ntmps97;go_wp2_with fail;refine qaa C.out ?_;rintro e w1 ⟨rfl,hb1,hw1⟩;have hne:(Value.slice A l.length c).ownBlock≠some p:=qay HO.out HK.out HT.ne;have ho1:=hw1.own HO.out hne;have c1:w1.cell? ⟨p,1,none⟩=some (.slice A l.length c):=hb1.cell 1;have HW:=zY hw1;have HB1:=zY hb1;have HO1:=zY ho1;have hBw:B≤w1.heap.size:=by have:=HK.out.lt; have:=hw1.size; omega
 have HR1:=zY (show Rd w1 w1.heap.size Ad (bytesV s) from fun i u hu=>by
  obtain ⟨ad,h1,_,h3⟩:=HR.out i u hu;have hlt:=World.block_lt_of_cell? w _ h3;rw [qaq] at hlt;refine ⟨ad,h1,by have:=hw1.size; omega,?_⟩;rw [← h3];exact World.cell?_of_block (w:=w) (w':=w1) (by rw [qaq]; exact hw1.grown.block _ hlt (by simpa using hpr ad h1)))
 have H1:=zY (show ∀ u ∈ bytesV s,u.oneCell'=true from fun u hu=>by
  simp [bytesV,byteV] at hu;obtain ⟨x,_,rfl⟩:=hu
  rfl)
 clear hw1 hb1 ho1
 go_wp2_with (first
  | (refine qaH (cx:=cx) (m:=m) sl_u8 rfl rfl HO1.out rfl rfl (by rw [qak]; omega) HR1.out H1.out (by unfold maxLen; omega) (by omega) hBw ?_; intro A2 c2 w2 ho2 hg2 hn2; have hb2:=zY (HB1.out.grown hg2 (by intro h; exact hne h.symm)))
  | (refine qag (x:=.tmp 16) (i:=1) hb2.out rfl rfl rfl rfl (by kernel_rfl) (by simp) rfl ?_; intro w3 hb3 hw3))
 go_ret2;exact ⟨rfl,isB_put hB HK.out.lt (.inr rfl) HW.out HO1.out hg2 HT hb2.out (by rw [qaE]; exact ho2) (by simp; omega) hb3 hw3⟩
theorem bld_len {T:TypeId} (B p:Nat) (l:List UInt8) (w:World) (hb:IsB w B T p l) :
  Calls Tryz.prog 36 #[.pointer (some ⟨p,0,none⟩)] w fun e w'=>e=.returned (.int .i64 l.length)∧w'=w:=by
 obtain ⟨hB,self,A,c,hs,hblk,hown⟩:=hb;have c1:w.cell? ⟨p,1,none⟩=some (.slice A l.length c):=hblk.cell 1;clear hblk hown;go_enter Tryz.func36,Tryz.ntmps36;go_wp2_with fail;go_ret;exact ⟨rfl,rfl⟩
theorem qcC {T:TypeId} (B p:Nat) (l:List UInt8) (w:World) (hb:IsB w B T p l) (h0:l≠[]) :
  Calls Tryz.prog 37 #[.pointer (some ⟨p,0,none⟩)] w fun e w'=>e=.returned (.string ⟨l.toArray⟩)∧Below B w w':=by
 obtain ⟨hB,self,A,c,hs,hblk,hown⟩:=hb;have hl0:l.length≠0:=by simpa using h0
 obtain ⟨g,cur,fz,rfl,hbg,hg,hnc,hcm,hcs,htake⟩:∃ g cur fz,A=some ⟨g,0,none⟩∧B≤g∧w.heap[g]?=some (.cells cur 5 fz)∧l.length≤c∧c≤maxLen∧cur.size=c*1∧cur.toList.take (l.length*1)=bytesV l:=by
  rcases hown.2 with ⟨_,hz⟩ | ⟨g,cap,cur,fz,hv,h1,h2,h3,h4,h5,h6,_⟩
  ·exact absurd hz hl0
  ·injection hv with e1 e2 e3
   subst e3;exact ⟨g,cur,fz,e1,h1,h2,h3,h4,h5,h6⟩
 have c1:w.drew.cell? ⟨p,1,none⟩=some (.slice (some ⟨g,0,none⟩) l.length c):=hblk.cell 1
 have hSD:(Builtin.unsafeSliceData_ #[40] 111 #[.slice (some ⟨g,0,none⟩) l.length c]).run Tryz.prog w.drew=.ok (.pointer (some ⟨g,0,none⟩)) w.drew :=
  Lib.run_unsafeSliceData_row _ _ _ _ _ _ (by omega)
 have hUS:(Builtin.unsafeString_ #[111,3] 9 #[.pointer (some ⟨g,0,none⟩),.int .i64 l.length]).run Tryz.prog w.drew=.ok (.string ⟨l.toArray⟩) (w.drew.freeze ⟨g,0,none⟩ l.length):=by
  refine Lib.run_unsafeString_row w.drew 111 3 9 5 Tryz.underlying111 (by kernel_rfl) g cur.size (by have hg':w.drew.heap[g]?=some (.cells cur 5 fz):=hg; simp [World.shape?,hg']) l h0 (by omega) (by unfold maxLen at hcm; omega) ?_;intro j x hx;exact hown.cells (g:=g) rfl j (.int .u8 x.toNat) (by simp [bytesV,byteV,hx])
 have hbel:Below B w (w.drew.freeze ⟨g,0,none⟩ l.length):=Lib.below_freeze (Below.drew (Below.refl B w)) (p:=⟨g,0,none⟩) hbg _;have mixed:Tryz.prog.follows .mixedOrders=true:=by kernel_rfl
 clear hg hown hblk;go_enter Tryz.func37,Tryz.ntmps37;go_wp2
 go_region_o
 all_goals (go_wp2; go_ret; exact ⟨rfl,hbel⟩)
end Go.Proofs.YtlkikjeccamheaaGreatDoor
namespace Go.Proofs.YtlkikjeccamheaaGreatDoor.Js
set_option linter.unusedSimpArgs false
set_option linter.unusedVariables false
set_option maxRecDepth 100000
set_option maxHeartbeats 4000000
open Go.RowKit
theorem enc_one (n:Nat) (h:n<128):Utf8.encode (n:Int)=⟨#[UInt8.ofNat n]⟩:=by
 have hv:Utf8.valid (n:Int)=true:=by rw [validRune_eq]; simp [validRune]; omega
 simp [Utf8.encode,hv,h]
theorem jwT:BT 68:=⟨by kernel_rfl,by decide⟩
theorem hex_at (n:Nat) (h:n<16) (h2:n<(⟨#[48,49,50,51,52,53,54,55,56,57,97,98,99,100,101,102]⟩:ByteArray).size):((⟨#[48,49,50,51,52,53,54,55,56,57,97,98,99,100,101,102]⟩:ByteArray)[n]'h2)=hexd n:=by
 have:n=0∨n=1∨n=2∨n=3∨n=4∨n=5∨n=6∨n=7∨n=8∨n=9∨n=10∨n=11∨n=12∨n=13∨n=14∨n=15:=by omega
 rcases this with h | h | h | h | h | h | h | h | h | h | h | h | h | h | h | h <;> subst h <;> rfl
theorem cat6 (a b:UInt8):((⟨#[92,117,48,48]⟩:ByteArray)++⟨#[a]⟩++⟨#[b]⟩).data.toList=[92,117,48,48,a,b]:=by
 rw [ByteArray.data_append,ByteArray.data_append];rfl
theorem cat2 (a:UInt8):((⟨#[92]⟩:ByteArray)++⟨#[a]⟩).data.toList=[92,a]:=by
 rw [ByteArray.data_append];rfl
theorem qbI {s:ByteArray} {l:Bs} (h:s.data.toList=l):s.size=l.length:=by rw [← h]; rfl
structure StepQ (c L C1:Bs) (k:Nat) (x:UInt8):Prop where
 eq:C1++quoteC x=c++34 :: (L.take (k+1)).flatMap quoteC
theorem quoteC_len (x:UInt8):1≤(quoteC x).length:=by unfold quoteC; split <;> (try split) <;> simp
theorem quote_len (L:Bs):L.length≤(quote L).length:=by
 have h:∀ L:Bs,L.length≤(L.flatMap quoteC).length:=fun L=>by
  induction L with
  | nil=>simp
  | cons x r ih =>
   have:=quoteC_len x;rw [List.flatMap_cons,List.length_append,List.length_cons];omega
 have:=h L;simp only [quote,List.length_cons,List.length_append];omega
def WB (w0:World) (B p:Nat) (c:Bs) (w:World):Prop:=IsB w B 68 p c∧BK B p w0 w
theorem WB.drew {w0 w:World} {B p:Nat} {c:Bs} (h:WB w0 B p c w):WB w0 B p c w.drew:=⟨h.1,h.2.drew⟩
theorem WB.next {w0 w w':World} {B p:Nat} {c c':Bs} (h:WB w0 B p c w) (h1:IsB w' B 68 p c') (h2:BK B p w w'):WB w0 B p c' w':=⟨h1,h.2.trans h2⟩
theorem qcU (s:ByteArray) (B p:Nat) (c:Bs) (w0 w:World) (hb:WB w0 B p c w) (hl:c.length+(quote s.data.toList).length≤1099511627776) :
  Calls Tryz.prog 68 #[.pointer (some ⟨p,0,none⟩),.string s] w fun e w'=>e=.returned (.tuple #[])∧WB w0 B p (c++quote s.data.toList) w':=by
 obtain ⟨L,hL⟩:=eX (s.data.toList);have hLs:L.length=s.size:=by rw [hL]; rfl
 rw [← hL] at hl ⊢;have hq:(quote L).length=(L.flatMap quoteC).length+2:=by simp [quote]
 have hs:s.size≤1099511627776:=by have:=quote_len L; omega
 have hsz:(s.size:Int)≤1099511627776:=by omega
 have HQ:=zY hl;have HQ2:=zY hq;have HLS:=zY hLs;have CB:=zY (fun (c:Bs) (x:UInt8) (u:World) (h:IsB u B 68 p c) (h2:c.length+1≤140737488355328)=>qb5 jwT B p c x u h h2);have CS:=zY (fun (c:Bs) (x:ByteArray) (u:World) (h:IsB u B 68 p c) (h2:c.length+x.size≤140737488355328)=>bld_str jwT B p c x u h h2);have HB:=zY hb;have HL:=zY hL;clear hb hl hq hLs hL hs;unfold byteV at CB;go_enter Tryz.func68,Tryz.ntmps68;go_wp2_with fail;refine qaa (CB.out c 34 _ HB.out.1 (by have:=HQ.out; have:=HQ2.out; omega)) ?_;rintro e w1 ⟨rfl,hb1,hw1⟩;have HB1:=zY (HB.out.next hb1 hw1);clear hb1 hw1;go_wp2_with fail
 go_loopw [12] (fun i wr=>∃ k:Nat,k≤s.size∧i=.int .i64 (k:Int)∧WB w0 B p (c++34 :: (L.take k).flatMap quoteC) wr) (fun i _=>s.size - (intOf i).toNat)
 case atStart=>exact ⟨0,by omega,rfl,by simpa using HB1.out⟩
 case round =>
  obtain ⟨k,hk,rfl,hwr⟩:=hrel;have HWR:=zY hwr;clear hwr
  by_cases hlt:k<s.size
  ·have hlt':(k:Int)<(s.size:Int):=by omega
   have hkL:k<L.length:=by have:=HLS.out; omega
   have hx:L[k]'hkL=s[k]:=by
    have:=HL.out;subst this;rfl
   obtain ⟨x,hxx⟩:=eX (s[k])
   have HST:=StepQ.mk (show (c++34 :: (L.take k).flatMap quoteC)++quoteC x=c++34 :: (L.take (k+1)).flatMap quoteC by
    rw [List.take_succ_eq_append_getElem hkL,List.flatMap_append,hx,hxx]
    simp)
   have HLN:=zY (show (c++34 :: (L.take k).flatMap quoteC).length+6≤140737488355328 by
    have h1:=HQ.out;have h2:=HQ2.out;have h3:L.flatMap quoteC=(L.take k).flatMap quoteC++(L.drop k).flatMap quoteC:=by rw [← List.flatMap_append,List.take_append_drop]
    rw [h3] at h2;simp at h2 ⊢
    omega)
   obtain ⟨C1,hC1⟩:=eX (c++34 :: (L.take k).flatMap quoteC);rw [← hC1] at HST HLN HWR;clear hx hkL hC1;obtain ⟨n,hn⟩:∃ n:Nat,n=x.toNat:=⟨_,rfl⟩;have hn':s[k].toNat=n:=by rw [hn,hxx]
   have hxn:UInt8.ofNat n=x:=by rw [hn]; simp
   have HN:=zY hn;have HXN:=zY hxn;have HNL:=zY (show n<256 by rw [hn]; exact x.toNat_lt);clear hn hxn hxx
   by_cases h32:n<32
   ·have h32':((s[k].toNat:Nat):Int)<32:=by omega
    have HQC:=zY (show quoteC x=[92,117,48,48,hexd (n/16),hexd (n%16)] by
     have:x<32:=by rw [UInt8.lt_iff_toNat_lt,← HN.out]; exact h32
     rw [quoteC,if_pos this,← HN.out])
    have a1:n/16<16:=by omega
    have a2:n%16<16:=by omega
    have HH1:=zY (show (hexd (n/16)).toNat<128 by unfold hexd; split <;> simp <;> omega);have HH2:=zY (show (hexd (n%16)).toNat<128 by unfold hexd; split <;> simp <;> omega);have HC0:=HWR.out.drew;have d32:decide ((n:Int)<32)=true:=by rw [decide_eq_true_iff]; omega
    clear HWR;go_wp2_with fail;clear h32 h32' hn' d32;refine qah (fun u=>WB w0 B p C1 u) (fun u=>WB w0 B p (C1++quoteC x) u) [(0,some 26),(1,some 27),(2,some 28),(3,some 29),(4,some 30),(5,some 31),(6,some 32),(7,some 33),(8,some 34),(9,some 35),(10,some 36),(11,some 37),(12,some 38),(13,some 39)] (by kernel_rfl) (by kernel_rfl) (by decide) (by kernel_rfl) (fun _=>rfl) HC0 ?_;apply yN_
    ·apply dP [];exact fun _=>rfl;rfl;rintro vals - w1 hC1 E hE;simp only [sP] at hE ⊢;go_wp2;exact .mk (hE _ hC1)
    apply yN_
    ·apply dP [(0,some 26)];exact fun _=>rfl;rfl;intro vals vq w1 hC1 E hE;simp only [sP,vq] at hE ⊢;clear vq;go_wp2;exact .mk (hE _ hC1)
    apply yN_
    ·apply dP [(1,some 27)];exact fun _=>rfl;rfl;intro vals vq w1 hC1 E hE;simp only [sP,vq] at hE ⊢;clear vq;go_wp2;exact .mk (hE _ hC1)
    apply yN_
    ·apply dP [];exact fun _=>rfl;rfl;intro vals vq w1 hC1 E hE;clear vq;simp only [sP] at hE ⊢;go_wp2;exact .mk (hE _ hC1)
    apply yN_ (v:=.int .u8 ((n/16:Nat):Int))
    ·apply dP [(3,some 29)];exact fun _=>rfl;rfl;intro vals vq w1 hC1 E hE;simp only [sP,vq] at hE ⊢;clear vq;go_wp2;exact .mk (hE _ hC1)
    apply yN_
    ·apply dP [(4,some 30)];exact fun _=>rfl;rfl;intro vals vq w1 hC1 E hE;simp only [sP,vq] at hE ⊢;clear vq;go_wp2;rw [hex_at (n/16) a1];exact .mk (hE _ hC1)
    apply yN_
    ·apply dP [(5,some 31)];exact fun _=>rfl;rfl;intro vals vq w1 hC1 E hE;simp only [sP,vq] at hE ⊢;clear vq;go_wp2;rw [enc_one _ HH1.out];exact .mk (hE _ hC1)
    apply yN_
    ·apply dP [(6,some 32)];exact fun _=>rfl;rfl;intro vals vq w1 hC1 E hE;simp only [sP,vq] at hE ⊢;clear vq;go_wp2;exact .mk (hE _ hC1)
    apply yN_
    ·apply dP [];exact fun _=>rfl;rfl;intro vals vq w1 hC1 E hE;clear vq;simp only [sP] at hE ⊢;go_wp2;exact .mk (hE _ hC1)
    apply yN_ (v:=.int .u8 ((n%16:Nat):Int))
    ·apply dP [(8,some 34)];exact fun _=>rfl;rfl;intro vals vq w1 hC1 E hE;simp only [sP,vq] at hE ⊢;clear vq;go_wp2;exact .mk (hE _ hC1)
    apply yN_
    ·apply dP [(9,some 35)];exact fun _=>rfl;rfl;intro vals vq w1 hC1 E hE;simp only [sP,vq] at hE ⊢;clear vq;go_wp2;rw [hex_at (n%16) a2];exact .mk (hE _ hC1)
    apply yN_
    ·apply dP [(10,some 36)];exact fun _=>rfl;rfl;intro vals vq w1 hC1 E hE;simp only [sP,vq] at hE ⊢;clear vq;go_wp2;rw [enc_one _ HH2.out];exact .mk (hE _ hC1)
    apply yN_
    ·apply dP [(7,some 33),(11,some 37)];exact fun _=>rfl;rfl;intro vals vq w1 hC1 E hE;simp only [sP,vq] at hE ⊢;clear vq;go_wp2;exact .mk (hE _ hC1)
    apply yL_
    ·apply dP [(2,some 28),(12,some 38)];exact fun _=>rfl;rfl;intro vals vq w1 hC1 E hE;simp only [sP,vq] at hE ⊢;clear vq;go_wp2_with fail;refine qaa (CS.out _ _ _ hC1.1 (by rw [qbI (cat6 _ _)]; exact HLN.out)) ?_;rintro e w2 ⟨rfl,hb2,hw2⟩;go_wp2_with fail;exact .mk (hE _ (by have h:=hC1.next hb2 hw2; rw [cat6] at h; rw [HQC.out]; exact h))
    intro vals vq w1 hC1;simp only [sP,vq];clear vq;have HR:=zY hC1;clear hC1 HC0;go_wp2_with fail
    go_roundw
    case rel=>exact ⟨k+1,by omega,by go_num,by rw [← HST.eq]; exact HR.out⟩
    case measure=>simp [intOf]; omega
   ·obtain ⟨z,hz⟩:∃ z:Int,((s[k].toNat:Nat):Int)=z:=⟨_,rfl⟩;have HZ:=zY (show z=(n:Int) by rw [← hz,hn']);have hz32:¬ z<32:=by have:=HZ.out; omega
    by_cases hq:z=34∨z=92
    ·have HX:=zY (show z=((x.toNat:Nat):Int) by rw [HZ.out,HN.out])
     have HQC:∃ y:UInt8,y.toNat<128∧z=((y.toNat:Nat):Int)∧quoteC x=[92,y]:=by
      have h2:=HX.out;refine ⟨x,by omega,h2,?_⟩;have h3:¬ x<32:=by rw [UInt8.lt_iff_toNat_lt]; show ¬ x.toNat<32; omega
      have h4:x=34∨x=92:=by
       rcases hq with h | h
       ·exact .inl (UInt8.toNat.inj (by show x.toNat=34; omega))
       ·exact .inr (UInt8.toNat.inj (by show x.toNat=92; omega))
      rw [quoteC,if_neg h3,if_pos h4]
     obtain ⟨y,hy1,hy2,hy3⟩:=HQC;have HE:=zY (show Utf8.encode z=⟨#[y]⟩ by rw [hy2,enc_one _ hy1]; simp);have HY:=zY hy3;have e3:(z == 34 || z == 92)=true:=by rcases hq with h | h <;> simp [h]
     clear hn' h32 hy1 hy2 hy3
     rcases hq with rfl | rfl
     ·clear hz32 e3;go_wp2_with fail;rw [HE.out];refine qaa (CS.out C1 _ _ HWR.out.1 (by rw [qbI (cat2 _)]; have:=HLN.out; simp; omega)) ?_;rintro e w2 ⟨rfl,hb2,hw2⟩;have HB2:=zY (HWR.out.next hb2 hw2);clear hb2 hw2;go_wp2_with fail
      go_roundw
      case rel=>exact ⟨k+1,by omega,by go_num,by rw [← HST.eq,HY.out]; have h:=HB2.out; rw [cat2] at h; exact h⟩
      case measure=>simp [intOf]; omega
     ·clear hz32 e3;go_wp2_with fail;rw [HE.out];refine qaa (CS.out C1 _ _ HWR.out.1 (by rw [qbI (cat2 _)]; have:=HLN.out; simp; omega)) ?_;rintro e w2 ⟨rfl,hb2,hw2⟩;have HB2:=zY (HWR.out.next hb2 hw2);clear hb2 hw2;go_wp2_with fail
      go_roundw
      case rel=>exact ⟨k+1,by omega,by go_num,by rw [← HST.eq,HY.out]; have h:=HB2.out; rw [cat2] at h; exact h⟩
      case measure=>simp [intOf]; omega
    ·have e34:(z == 34)=false:=by simpa using fun h=>hq (.inl h)
     have e92:(z == 92)=false:=by simpa using fun h=>hq (.inr h)
     have HQC:=zY (show quoteC x=[x] by
      have h1:=HN.out;have h2:=HZ.out;have h3:¬ x<32:=by rw [UInt8.lt_iff_toNat_lt]; show ¬ x.toNat<32; omega
      have h4:¬ (x=34∨x=92):=by
       rintro (rfl | rfl)
       ·exact hq (.inl (by rw [h2,h1]; rfl))
       ·exact hq (.inr (by rw [h2,h1]; rfl))
      rw [quoteC,if_neg h3,if_neg h4])
     clear hq hn' h32;go_wp2_with fail;rw [show z=((x.toNat:Nat):Int) by rw [HZ.out,HN.out]];refine qaa (CB.out C1 x _ HWR.out.1 (by have:=HLN.out; omega)) ?_;rintro e w2 ⟨rfl,hb2,hw2⟩;have HB2:=zY (HWR.out.next hb2 hw2);clear hb2 hw2;go_wp2_with fail
     go_roundw
     case rel=>exact ⟨k+1,by omega,by go_num,by rw [← HST.eq,HQC.out]; exact HB2.out⟩
     case measure=>simp [intOf]; omega
  ·obtain rfl:k=s.size:=by omega
   have HE:=zY (show L.take s.size=L by rw [← HLS.out,List.take_length])
   have HLN:=zY (show (c++34 :: (L.take s.size).flatMap quoteC).length+1≤140737488355328 by
    have h1:=HQ.out;have h2:=HQ2.out;rw [HE.out];simp at h2 ⊢
    omega)
   go_wp2_with fail;refine qaa (CB.out _ 34 _ HWR.out.1 HLN.out) ?_;rintro e w2 ⟨rfl,hb2,hw2⟩;have HB2:=zY (HWR.out.next hb2 hw2);clear hb2 hw2;go_wp2_with fail
   go_end0
   refine ⟨rfl,?_⟩;have h:=HB2.out;rw [HE.out] at h
   simpa [quote] using h
theorem isB_kept {w w':World} {B g p:Nat} {T:TypeId} {l:Bs} (h:IsB w B T p l) (hg:w.grownBy w' (some g)) (hlt:w.heap.size≤g):IsB w' B T p l:=by
 obtain ⟨h1,self,A,c,h2,h3,h4⟩:=h;exact ⟨h1,self,A,c,h2,h3.grown hg (by intro e; injection e with e; have:=h3.lt; omega),h4.kept hg (.inr (fun e=>by have:=(h4.lt g e).2; omega))⟩
structure DigS (N j m:Nat) (suf:Bs):Prop where
 eq:digB 16 N=digB (16 - j) m++suf
 len:suf.length=j
 lt:m<10^(16 - j)
 j16:j<16
theorem DigS.start {N:Nat} (h:N<10^16):DigS N 0 N []:=⟨by simp,rfl,h,by decide⟩
theorem DigS.last {N j m:Nat} {suf:Bs} (h:DigS N j m suf) (hm:m<10):digB 16 N=dg m :: suf:=by
 obtain ⟨k,hk⟩:∃ k,16 - j=k+1:=⟨15 - j,by have:=h.j16; omega⟩;have e0:digB (k+1) m=[dg m]:=by rw [digB,if_pos hm]
 rw [h.eq,hk,e0];rfl
theorem DigS.next {N j m:Nat} {suf:Bs} (h:DigS N j m suf) (hm:¬ m<10):DigS N (j+1) (m/10) (dg (m%10) :: suf):=by
 obtain ⟨k,hk⟩:∃ k,16 - j=k+1:=⟨15 - j,by have:=h.j16; omega⟩;have h1:=h.eq;have h2:=h.lt;rw [hk] at h1 h2;rw [show digB (k+1) m=digB k (m/10)++[dg (m%10)] by rw [digB,if_neg hm]] at h1;rw [Nat.pow_succ] at h2;have e:16 - (j+1)=k:=by omega
 have h3:m/10<10^k:=Nat.div_lt_of_lt_mul (by omega);refine ⟨by rw [e,h1]; simp,by simp [h.len],by rw [e]; exact h3,?_⟩
 rcases Nat.eq_zero_or_pos k with rfl | h4
 ·simp at h3; omega
 ·omega
theorem rd_tail {w:World} {g a:Nat} {t:TypeId} {cs:List Value} {l:Bs} (h:Blk w g t cs.toArray) (hd:cs.drop a=bytesV l):Rd w (g+1) (some ⟨g,a,none⟩) (bytesV l):=fun i u hu=>by
 refine ⟨_,rfl,Nat.lt_succ_self g,?_⟩;rw [← hd,List.getElem?_drop] at hu
 have e:(⟨g,a,none⟩:Addr).add i=⟨g,a+i,none⟩:=by
  unfold Addr.add
  by_cases h2:i=0 <;> simp [h2]
 rw [e,h.cell]
 simpa using hu
theorem slice16 (g a:Nat) (h:a<16) (w:World):(Instr.sliceAt 140 (.pointer (some ⟨g,0,none⟩)) (some (.int .i64 a)) none none).run Tryz.prog w=.ok (.slice (some ((⟨g,0,none⟩:Addr).add a)) (16 - a) (16 - a)) w:=by
 have e1:Tryz.prog.arrayLen 140=16:=by kernel_rfl
 have e2:Tryz.prog.elem 140=5:=by kernel_rfl
 have hs:(Tryz.prog.info? 5).map (·.size)=some 1:=by kernel_rfl
 rw [run_sliceAt_array_l w 140 ⟨g,0,none⟩ (by rw [e1,e2]; exact Tryz.underlying140) .i64 a (by omega) (by rw [e1]; omega),e1,e2]
 cases hq:Tryz.prog.info? 5 with
 | none=>simp [hq] at hs
 | some j =>
  have hj:j.size=1:=by simpa [hq] using hs
  have:¬ 16=a:=by omega
  simp [sizeOf,typeInfo,hq,hj,slicedAt,this,Result.andThen]
theorem wnum_any (n:Int) (hn1:-1000000000000000≤n) (hn2:n≤1000000000000000) (B p:Nat) (c:Bs) (w0 w:World) (hb:WB w0 B p c w) (hl:c.length+(intB n).length≤1099511627776) :
  Calls Tryz.prog 67 #[.pointer (some ⟨p,0,none⟩),.int .i64 n] w fun e w'=>e=.returned (.tuple #[])∧WB w0 B p (c++intB n) w':=by
 obtain ⟨N,hN⟩:=eX (n.natAbs);obtain ⟨c1,hc1⟩:=eX (c++(if n<0 then [45] else []))
 have hall:c++intB n=c1++digB 16 N:=by
  rw [hc1,hN,intB]
  split <;> simp
 have hdl:(digB 16 N).length≤16:=(digB_ok 16 N (by omega)).2.2.1
 have hcl:c1.length+16≤140737488355328:=by
  have:(c++intB n).length≤1099511627776:=by simpa using hl
  rw [hc1];simp at this ⊢
  split <;> simp <;> omega
 rw [hall];have CB:=zY (fun (c:Bs) (x:UInt8) (u:World) (h:IsB u B 68 p c) (h2:c.length+1≤140737488355328)=>qb5 jwT B p c x u h h2);have HB:=zY hb;have HN:=zY hN;have HCL:=zY hcl;have HDL:=zY hdl;have HC1:=zY hc1;have HNB:=zY (show N<10^16 by omega);have HCC:=zY (show c.length+1≤140737488355328 by omega);have HR1:=zY hn1;have HR2:=zY hn2;unfold byteV at CB;clear hb hN hc1 hall hdl hcl hl hn1 hn2;go_enter Tryz.func67,Tryz.ntmps67
 go_upto_if 7 with (fail)
 go_cut [1] (fun x wr=>x=.int .i64 (N:Int)∧WB w0 B p c1 wr)
 case first =>
  by_cases h0:n<0
  ·have d0:decide (n<0)=true:=by simpa using h0
   go_wp2_with fail;refine qaa (CB.out c 45 _ HB.out.1 HCC.out) ?_;rintro e w1 ⟨rfl,hb1,hw1⟩;have HB1:=zY (HB.out.next hb1 hw1);clear hb1 hw1;have hr:-n<9223372036854775808:=by have:=HR1.out; omega
   go_wp2_with fail
   go_meet
   exact ⟨by rw [HN.out]; congr 1; omega,by rw [HC1.out,if_pos h0]; exact HB1.out⟩
  ·have d0:decide (n<0)=false:=by simpa using h0
   go_wp2_with fail
   go_meet
   exact ⟨by rw [HN.out]; congr 1; omega,by rw [HC1.out,if_neg (by omega),List.append_nil]; exact HB.out⟩
 case rest =>
 obtain ⟨rfl,hwx⟩:=hcut;have HWC:=zY hwx;clear hwx;go_wp2_with fail
 go_loopw [1,5] (fun x a wr=>∃ (j m:Nat) (suf:Bs) (cs:List Value),DigS N j m suf∧x=.int .i64 (m:Int)∧a=.int .i64 ((16 - j:Nat):Int)∧Blk wr wc.heap.size 140 cs.toArray∧cs.length=16∧cs.drop (16 - j)=bytesV suf∧wc.grownBy wr (some wc.heap.size)) (fun _ a _=>(intOf a).toNat)
 case atStart=>exact ⟨0,N,[],List.replicate 16 (.int .u8 0),DigS.start HNB.out,rfl,rfl,Blk.new _ _ _,rfl,rfl,grown_alloc (World.grownBy.refl _ _) _⟩
 case round =>
  obtain ⟨j,m,suf,cs,hd,rfl,rfl,hk,hcs,hsuf,hgr⟩:=hrel;have hj:=hd.j16;obtain ⟨a,ha⟩:=eX (15 - j);have e1:(16 - j:Nat)=a+1:=by omega
  rw [e1];have ha':(a:Int)<16:=by omega
  have hm0:(0:Int)≤(m:Int):=by omega
  have hr0:(0:Int)≤(m:Int)%10:=by omega
  have hr1:(m:Int)%10<10:=by omega
  have HK:=zY hk;have HD:=zY hd;have HCS:=zY hcs;have HSUF:=zY hsuf;have HGR:=zY hgr;have HA:=zY ha;obtain ⟨q,hq⟩:=eX (m/10)
  have hwq:wrap64 ((m:Int)/10)=(q:Int):=by
   have h1:=hd.lt;have h2:10^(16 - j)≤10^16:=Nat.pow_le_pow_right (by decide) (by omega);rw [show wrap64 ((m:Int)/10)=(m:Int)/10 by unfold wrap64; omega,hq];omega
  have HQ:=zY hq;obtain ⟨y,hy⟩:=eX (dg (m%10));have HY:=zY hy
  have HYV:=zY (show Value.int IntKind.u8 (48+(m:Int)%10)=byteV y by
   have h1:m%10<10:=by omega
   have h2:=(dig_of h1).2
   have h3:(dg (m%10)).toNat=48+m%10:=by
    unfold dg;rw [UInt8.toNat_ofNat'];omega
   unfold byteV;rw [hy,h3]
   congr 1)
  have HCU:=zY (show ∀ v,(cs.set a v).drop a=v :: cs.drop (a+1) from fun v=>by
   rw [List.set_eq_take_append_cons_drop,if_pos (by omega),List.drop_left' (by rw [List.length_take]; omega)])
  clear hk hd hcs hsuf hgr ha e1 hq hy
  by_cases hz:q=0
  ·have hz':((q:Int) == 0)=true:=by simp [hz]
   have HZ:=zY hz;clear hz;go_wp2_with (refine qag (x:=.tmp 21) (i:=a) HK.out rfl rfl rfl rfl (by kernel_rfl) (by rw [List.size_toArray,HCS.out]; omega) rfl ?_; intro w5 hb5 hw5);have hg5:=HGR.out.trans hw5.grown;have hwb:=HWC.out;have HW5:=zY (show WB w0 B p c1 w5 from ⟨isB_kept hwb.1 hg5 (Nat.le_refl _),hwb.2.trans (.fresh hg5 (Nat.le_refl _) (by have:=hwb.1.lt; omega))⟩);have HB5:=zY (show Blk w5 wc.heap.size 140 (cs.set a (byteV y)).toArray by rw [← HYV.out,← List.setIfInBounds_toArray]; exact hb5)
   have HDR:=zY (show (cs.set a (byteV y)).drop a=bytesV (y :: suf) by
    have h1:=HA.out;have h2:=HD.out.j16;rw [HCU.out,show a+1=16 - j by omega,HSUF.out]
    rfl)
   have HEND:=zY (show digB 16 N=y :: suf by
    have h1:=HQ.out;have h2:=HZ.out;have h3:m<10:=by omega
    rw [HD.out.last h3,HY.out,Nat.mod_eq_of_lt h3])
   have HLN:=zY (show (y :: suf).length=16 - a by
    have h1:=HA.out;have h2:=HD.out.j16;have h3:=HD.out.len;simp
    omega)
   have HGP:=zY (show wc.heap.size≠p by have:=hwb.1.lt; omega);have HAL:=zY (show a<16 by omega);clear hb5 hw5 hg5 hwb;have HC0:WB w0 B p c1 w5.drew∧Blk w5.drew wc.heap.size 140 (cs.set a (byteV y)).toArray:=⟨HW5.out.drew,HB5.out⟩;clear hwq hz';refine qah (fun u=>WB w0 B p c1 u∧Blk u wc.heap.size 140 (cs.set a (byteV y)).toArray) (fun u=>WB w0 B p (c1++(y :: suf)) u) [(0,some 26),(1,some 27),(2,some 28),(3,some 29),(4,some 30),(5,some 31)] (by kernel_rfl) (by kernel_rfl) (by decide) (by kernel_rfl) (fun _=>rfl) HC0 ?_;apply yN_
   ·apply dP [];exact fun _=>rfl;rfl;rintro vals - w1 hC1 E hE;simp only [sP] at hE ⊢;go_wp2;exact .mk (hE _ hC1)
   apply yN_
   ·apply dP [(0,some 26)];exact fun _=>rfl;rfl;intro vals vq w1 hC1 E hE;simp only [sP,vq] at hE ⊢;clear vq;go_wp2;exact .mk (hE _ hC1)
   apply yN_
   ·apply dP [(1,some 27)];exact fun _=>rfl;rfl;intro vals vq w1 hC1 E hE;simp only [sP,vq] at hE ⊢;clear vq;go_wp2;exact .mk (hE _ hC1)
   apply yN_
   ·apply dP [];exact fun _=>rfl;rfl;intro vals vq w1 hC1 E hE;clear vq;simp only [sP] at hE ⊢;go_wp2;exact .mk (hE _ hC1)
   apply yN_
   ·apply dP [(3,some 29)];exact fun _=>rfl;rfl;intro vals vq w1 hC1 E hE;simp only [sP,vq] at hE ⊢;clear vq;have hsl:=slice16 wc.heap.size a HAL.out w1;go_wp2;exact .mk (hE _ hC1)
   apply yL_
   ·apply dP [(2,some 28),(4,some 30)];exact fun _=>rfl;rfl;intro vals vq w1 hC1 E hE;simp only [sP,vq] at hE ⊢;clear vq;go_wp2_with fail;refine qaa (bld_write jwT B p (wc.heap.size+1) (16 - a) (16 - a) _ c1 (y :: suf) _ hC1.1.1 (rd_tail hC1.2 HDR.out) (fun ad h=>by injection h with h; rw [← h]; exact HGP.out) HLN.out (by have:=HCL.out; omega)) ?_;rintro e w2 ⟨rfl,hb2,hw2⟩;go_wp2_with fail;exact .mk (hE _ (hC1.1.next hb2 hw2))
   intro vals vq w1 hC1;simp only [sP,vq];clear vq;have HR:=zY hC1;clear hC1 HC0;go_wp2_with fail
   go_end0
   exact ⟨rfl,by rw [HEND.out]; exact HR.out⟩
  ·have hz':((q:Int) == 0)=false:=by simpa using hz
   have HZ:=zY hz;clear hz;go_wp2_with (refine qag (x:=.tmp 21) (i:=a) HK.out rfl rfl rfl rfl (by kernel_rfl) (by rw [List.size_toArray,HCS.out]; omega) rfl ?_; intro w5 hb5 hw5);refine ⟨⟨j+1,q,y :: suf,cs.set a (byteV y),?_,by rw [hwq],?_,?_,by rw [List.length_set]; exact HCS.out,?_,HGR.out.trans hw5.grown⟩,by simp [intOf]⟩
   ·have h1:=HQ.out;have h2:=HZ.out;rw [HQ.out,HY.out];exact HD.out.next (by omega)
   ·have h1:=HA.out
    congr 2
    omega
   ·rw [← HYV.out,← List.setIfInBounds_toArray];exact hb5
   ·have h1:=HA.out;have h2:=HD.out.j16;rw [show 16 - (j+1)=a by omega,HCU.out,show a+1=16 - j by omega,HSUF.out];rfl
end Go.Proofs.YtlkikjeccamheaaGreatDoor.Js
