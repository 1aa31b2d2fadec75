/-
  Joined texts: Sqa Base Laws Box Part Region Guard Det Tail Tailb Sqz Open OpenB Words ShaM ShaX Laid Turned Cut32 Row32 Mix32 ShaS Own Zeros SumC Sum32 Top2 Fld Fw Fa.
-/
import Derived.Lib.Hide
import Derived.WalkKit
import Derived.WalkSpells
import Derived.WalkLawsBesides
import Derived.Lib.Strings
import Derived.Maps.AppendAt
import Derived.Deep.Draws
import Derived.Lib.AppendStr
import Derived.Laws.Rows
import Derived.Laws.Tables
import Derived.Lib.SmallJoins
import Derived.Laws.CopyRow
import Derived.Laws.Unary
import Derived.Laws.Bits64
import Derived.Laws.BitsLemmas
import Derived.Orders
import Derived.Test.YtcbkaaodmjphdaaGreatDoorRows
import Derived.ProofKit
import Derived.OpenShut
import Derived.SizedLaws
import Derived.SliceStrings
import Derived.LaidMore
import Derived.Stop.Joined
import Derived.Test.YtcbkaaodmjphdaaGreatDoorProg
import Derived.BigQuiet
import Derived.Deep.QuietTactic
import Derived.IntWalk
import Derived.Deep.DeepCutAuto
namespace Go.Proofs.YtcbkaaodmjphdaaGreatDoor
set_option linter.unusedSimpArgs false
set_option linter.unusedVariables false
open Go.RowKit
theorem zY {p : Prop} (h : p) : Hid p := Lib.hid h
theorem eX {α : Sort _} (a : α) : ∃ x, x = a := ⟨a, rfl⟩
end Go.Proofs.YtcbkaaodmjphdaaGreatDoor
namespace Go.Proofs.YtcbkaaodmjphdaaGreatDoor
set_option linter.unusedSimpArgs false
set_option linter.unusedVariables false
set_option maxRecDepth 100000
set_option maxHeartbeats 4000000
open Go.RowKit
def byteV (b:UInt8):Value:=.int .u8 (b.toNat:Int)
def bytesV (l:List UInt8):List Value:=l.map byteV
theorem qaT (l r:List UInt8):bytesV (l++r)=bytesV l++bytesV r:=by simp [bytesV]
theorem qap (l:List UInt8):(bytesV l).length=l.length:=by simp [bytesV]
theorem ret_bool {a b:Bool} (h:a=b):Ending.returned (.bool a)=.returned (.bool b):=by rw [h]
theorem qab {P:Program} {f:FuncId} {args:Array Value} {w:World} {R K:Ending→World→Prop} (h:Calls P f args w R) (hk:∀ e w',R e w'→K e w'):Calls P f args w K:=h.mono hk
structure SlT (P:Program) (t e:TypeId) (size bytes:Nat):Prop where
 und:P.underlying t=some (.slice e)
 info:∃ i z,P.info? e=some i∧i.zero=some z∧i.size=size∧i.bytes=bytes∧z.cells.size=size
 pos:0<size
theorem SlT.mk1 {P:Program} {t e:TypeId} {z:Value} {size bytes:Nat} (hu:P.underlying t=some (.slice e)) (h:(P.info? e).map (fun i=>(i.zero,i.size,i.bytes))=some (some z,size,bytes))
  (hz:z.cells.size=size) (hp:0<size):SlT P t e size bytes:=by
 obtain ⟨i,hi,h0,h1,h2⟩:=info_parts h;exact ⟨hu,⟨i,z,hi,h0,h1,h2,hz⟩,hp⟩
def Next (w:World) (v v':Value):Prop:=v'.ownBlock=v.ownBlock∨∀ k,v'.ownBlock=some k→w.heap.size≤k
theorem Next.refl (w:World) (v:Value):Next w v v:=.inl rfl
theorem Next.trans {w w1:World} {v v1 v2:Value} (h:Next w v v1) (h1:Next w1 v1 v2) (hs:w.heap.size≤w1.heap.size):Next w v v2:=by
 rcases h1 with h1 | h1
 ·rcases h with h | h
  ·exact .inl (h1.trans h)
  ·exact .inr fun k hk=>h k (h1▸hk)
 ·exact .inr fun k hk=>Nat.le_trans hs (h1 k hk)
theorem Next.back {w w1:World} {v v':Value} (h:Next w1 v v') (hs:w.heap.size≤w1.heap.size):Next w v v' :=
 h.imp id fun h k hk=>Nat.le_trans hs (h k hk)
theorem grown_drew {w w1:World} {r:Option Nat} (h:w.grownBy w1 r):w.grownBy w1.drew r:=⟨h.os,h.tape,h.output,h.size,h.block⟩
theorem qbc {B:Nat} {w w1:World} {v:Value} (h:w.grownBy w1 v.ownBlock) (hB:B≤w.heap.size) (hv:∀ k,v.ownBlock=some k→B≤k):Below B w w1 :=
 (Below.refl B w).grown h hB hv
def OwnX (w:World) (base:Nat) (e:TypeId) (size:Nat) (v:Value) (n:Nat) (xs:List Value):Prop :=
 xs.length=n*size ∧
 ((v=.slice none 0 0∧n=0) ∨
  ∃ g cap cur fz,v=.slice (some ⟨g,0,none⟩) n cap∧base≤g∧w.heap[g]?=some (.cells cur e fz)∧n≤cap∧cap≤maxLen∧cur.size=cap*size∧cur.toList.take (n*size)=xs∧(fz=(0,0)∨cap=n))
section
variable {w w':World} {base e size n:Nat} {v:Value} {xs:List Value}
theorem OwnX.of (h:w.ownsRow base e size v n xs):OwnX w base e size v n xs:=by
 refine ⟨h.1,?_⟩
 rcases h.2 with h | ⟨g,cap,cur,h1,h2,h3,h4,h5,h6,h7⟩
 ·exact .inl h
 ·exact .inr ⟨g,cap,cur,(0,0),h1,h2,h3,h4,h5,h6,h7,.inl rfl⟩
theorem OwnX.nil (w:World) (base e size:Nat):OwnX w base e size (.slice none 0 0) 0 []:=⟨by simp,.inl ⟨rfl,rfl⟩⟩
theorem OwnX.lt (h:OwnX w base e size v n xs):∀ k,v.ownBlock=some k→base≤k∧k<w.heap.size:=by
 intro k hk
 rcases h.2 with ⟨rfl,_⟩ | ⟨g,cap,cur,fz,rfl,hb,hg,_⟩
 ·simp [Value.ownBlock] at hk
 ·simp [Value.ownBlock] at hk;subst hk;exact ⟨hb,(Array.getElem?_eq_some_iff.1 hg).1⟩
theorem OwnX.kept {row:Option Nat} (h:OwnX w base e size v n xs) (hg:w.grownBy w' row) (hne:v.ownBlock=none∨v.ownBlock≠row):OwnX w' base e size v n xs:=by
 refine ⟨h.1,?_⟩
 rcases h.2 with hn | ⟨g,cap,cur,fz,rfl,hb,hgg,rest⟩
 ·exact .inl hn
 ·refine .inr ⟨g,cap,cur,fz,rfl,hb,?_,rest⟩;rw [hg.block g (Array.getElem?_eq_some_iff.1 hgg).1 (by simpa [Value.ownBlock] using hne)];exact hgg
theorem OwnX.alloc (h:OwnX w base e size v n xs) (o:Obj):OwnX (w.alloc o) base e size v n xs :=
 h.kept (World.grownBy_alloc w o none) (by cases hv:v.ownBlock <;> simp)
theorem OwnX.below (h:OwnX w base e size v n xs) {B:Nat} (hb:Below B w w') (hB:w.heap.size≤B):OwnX w' base e size v n xs:=by
 refine ⟨h.1,?_⟩
 rcases h.2 with hn | ⟨g,cap,cur,fz,rfl,hbb,hgg,rest⟩
 ·exact .inl hn
 ·exact .inr ⟨g,cap,cur,fz,rfl,hbb,(hb.block g (Nat.lt_of_lt_of_le (Array.getElem?_eq_some_iff.1 hgg).1 hB)).trans hgg,rest⟩
theorem OwnX.le_cap {A:Option Addr} {c:Nat} (h:OwnX w base e size (.slice A n c) n xs):n≤c:=by
 rcases h.2 with ⟨_,hn⟩ | ⟨g,cap,cur,fz,hv,_,_,hnc,_⟩
 ·omega
 ·injection hv with _ _ h3; omega
theorem OwnX.mono (h:OwnX w base e size v n xs) {base':Nat} (hb:base'≤base):OwnX w base' e size v n xs :=
 ⟨h.1,h.2.elim .inl fun ⟨g,cap,cur,fz,hv,hg,r⟩=>.inr ⟨g,cap,cur,fz,hv,Nat.le_trans hb hg,r⟩⟩
theorem OwnX.cells (h:OwnX w base e size v n xs) {g:Nat} (hg:v.ownBlock=some g):∀ j u,xs[j]?=some u→w.cell? ((⟨g,0,none⟩:Addr).add j)=some u:=by
 intro j u hu
 rcases h.2 with ⟨rfl,_⟩ | ⟨g',cap,cur,fz,rfl,_,hgg,_,_,_,htake,_⟩
 ·simp [Value.ownBlock] at hg
 ·simp [Value.ownBlock] at hg;subst hg;have hadd:(⟨g',0,none⟩:Addr).add j=⟨g',j,none⟩:=by unfold Addr.add; split <;> simp_all
  rw [hadd,cell_of_row w g' j cur e fz hgg];rw [← htake,List.getElem?_take] at hu
  split at hu
  ·simpa using hu
  ·cases hu
end
def Rd (w:World) (B:Nat) (A:Option Addr) (xs:List Value):Prop:=∀ i u,xs[i]?=some u→∃ ad,A=some ad∧ad.block<B∧w.cell? (ad.add i)=some u
theorem qaW (a:Addr) (n:Nat):(a.add n).block=a.block:=by unfold Addr.add; split <;> rfl
theorem Rd.below {w w':World} {B:Nat} {A:Option Addr} {xs:List Value} (h:Rd w B A xs) (hb:Below B w w'):Rd w' B A xs:=fun i u hu=>by
 obtain ⟨ad,ha,hlt,hc⟩:=h i u hu;exact ⟨ad,ha,hlt,(hb.cell (by rw [qaW]; exact hlt)).trans hc⟩
theorem Rd.mono {w:World} {B B':Nat} {A:Option Addr} {xs:List Value} (h:Rd w B A xs) (hb:B≤B'):Rd w B' A xs:=fun i u hu=>by
 obtain ⟨ad,ha,hlt,hc⟩:=h i u hu;exact ⟨ad,ha,Nat.lt_of_lt_of_le hlt hb,hc⟩
theorem Rd.nil (w:World) (B:Nat) (A:Option Addr):Rd w B A []:=fun i u hu=>by simp at hu
theorem Rd.at_ {w:World} {B k:Nat} {A:Option Addr} {xs:List Value} (h:Rd w B A xs) (hk:k<xs.length):∃ ad,A=some ad∧ad.block<B∧w.cell? (ad.add k)=some xs[k] :=
 h k _ (List.getElem?_eq_getElem hk)
theorem Rd.of_own {w:World} {base B:Nat} {e:TypeId} {size n c:Nat} {A:Option Addr} {xs:List Value} (h:OwnX w base e size (.slice A n c) n xs) (hB:w.heap.size≤B):Rd w B A xs:=fun i u hu=>by
 rcases h.2 with ⟨hv,hn⟩ | ⟨g,cap,cur,fz,hv,hbg,hg,_⟩
 ·have:=h.1;rw [hn,Nat.zero_mul] at this;rw [List.eq_nil_of_length_eq_zero this] at hu;simp at hu
 ·have hA:A=some ⟨g,0,none⟩:=by injection hv
  subst hA;exact ⟨_,rfl,by have:=(Array.getElem?_eq_some_iff.1 hg).1; show g<B; omega,h.cells (g:=g) rfl i u hu⟩
def KeepBut (e:TypeId) (w w':World):Prop:=w.heap.size≤w'.heap.size∧∀ (k:Nat) (cs:Array Value) (t:TypeId) (fz:Nat × Nat),t≠e→w.heap[k]?=some (Obj.cells cs t fz)→w'.heap[k]?=some (Obj.cells cs t fz)
theorem heap_keep {e:TypeId} {w w':World} (h:KeepBut e w w') {k:Nat} {cs:Array Value} {t:TypeId} {fz:Nat × Nat} (ht:t≠e) (hk:w.heap[k]?=some (.cells cs t fz)):w'.heap[k]?=some (.cells cs t fz):=h.2 k cs t fz ht hk
def Alloc1 (w w':World):Prop:=∃ o,w'=w.alloc o
theorem qes {w w':World} (h:Alloc1 w w') {k:Nat} {o:Obj} (hk:w.heap[k]?=some o):w'.heap[k]?=some o:=by
 obtain ⟨o',rfl⟩:=h;exact (Below.heap_alloc w o' k (Array.getElem?_eq_some_iff.1 hk).1).trans hk
def One (e:TypeId) (y:Value) (x:Value) (w:World):Prop:=∃ g,x=.slice (some ⟨g,0,none⟩) 1 1∧w.heap[g]?=some (.cells #[y] e (0,0))
theorem One.keep {e f:TypeId} {y x:Value} {w w':World} (h:One e y x w) (hk:KeepBut f w w') (hne:e≠f):One e y x w':=by
 obtain ⟨g,hx,hg⟩:=h; exact ⟨g,hx,heap_keep hk hne hg⟩
theorem One.alloc1 {e:TypeId} {y x:Value} {w w':World} (h:One e y x w) (hk:Alloc1 w w'):One e y x w':=by
 obtain ⟨g,hx,hg⟩:=h; exact ⟨g,hx,qes hk hg⟩
theorem One.full {e:TypeId} {y x:Value} {w w':World} (h:One e y x w) (hk:Below w.heap.size w w'):One e y x w':=by
 obtain ⟨g,hx,hg⟩:=h; exact ⟨g,hx,(hk.block g (Array.getElem?_eq_some_iff.1 hg).1).trans hg⟩
theorem One.new (e:TypeId) (y:Value) (w:World):One e y (.slice (some ⟨w.heap.size,0,none⟩) 1 1) (w.alloc (.cells #[y] e)):=⟨_,rfl,heap_alloc_new w _⟩
section
variable {P:Program}
theorem qed {w:World} {base e size n m old:Nat} {z:Value} {xs news:List Value} (hx:xs.length=n*size) (hl:news.length=m*size) (hzs:z.cells.size=size) (h63:n+m≤maxLen) (hbase:base≤w.heap.size) :
  (w.drew.alloc (.cells (xs.toArray++news.toArray++Builtin.zeroCells z.cells (grownCap w (n+m) old e - (n+m))) e)).ownsRow base e size
   (.slice (some ⟨w.heap.size,0,none⟩) (n+m) (grownCap w (n+m) old e)) (n+m) (xs++news):=by
 have hge:=grownCap_ge w (n+m) old e;have hcm:grownCap w (n+m) old e≤maxLen:=grownCap_le_maxLen w (n+m) old e h63;have hlen:(xs++news).length=(n+m)*size:=by rw [List.length_append,hx,hl,Nat.add_mul]
 refine ⟨hlen,.inr ⟨w.heap.size,_,_,rfl,hbase,heap_alloc_new w.drew _,hge,hcm,?_,?_⟩⟩
 ·simp only [Array.size_append,List.size_toArray,size_zeroCells,hzs,hx,hl,← Nat.add_mul]
  congr 1
  omega
 ·simp only [Array.toList_append,List.append_assoc];rw [← List.append_assoc,← hlen];exact List.take_left
theorem qbY (w:World) (o:Obj) (r:Option Nat):w.grownBy (w.drew.alloc o) r:=⟨rfl,rfl,rfl,by simp,fun k hk _=>Below.heap_alloc w.drew o k hk⟩
def App (w:World) (base e size:Nat) (v:Value) (n:Nat) (xs:List Value) (x:Value) (w':World):Prop :=
 OwnX w' base e size x n xs∧w.grownBy w' v.ownBlock∧Next w v x
theorem qb8 {w:World} {t ty e:TypeId} {size bytes:Nat} (T:SlT P t e size bytes) {base n:Nat} {v:Value} {xs:List Value} (hown:OwnX w base e size v n xs)
  {Ad:Option Addr} {m c:Nat} {news:List Value} (hl:news.length=m*size) (hnews:∀ j u,news[j]?=some u→∃ ad,Ad=some ad∧w.cell? (ad.add j)=some u) (h1:∀ u ∈ news,u.oneCell'=true)
  (h63:n+m≤maxLen) (hbytes:(n+m)*bytes≤140737488355328) (hbase:base≤w.heap.size) :
  ∃ A c' w',(Builtin.append_ #[t,t] ty #[v,.slice Ad m c]).run P w=.ok (.slice A (n+m) c') w'∧App w base e size v (n+m) (xs++news) (.slice A (n+m) c') w':=by
 obtain ⟨i,z,hi,hz,hsz,hby,hzs⟩:=T.info
 by_cases hm:m=0
 ·subst hm;have hnn:news=[]:=List.eq_nil_of_length_eq_zero (by simpa using hl);subst hnn
  rcases hown.2 with ⟨rfl,rfl⟩ | ⟨g,cap,cur,fz,rfl,hb,hgg,hnc,rest⟩
  ·refine ⟨none,0,w,?_,by simpa using hown,World.grownBy.refl _ _,.inl rfl⟩
   cases Ad <;> simp [Builtin.append_,run_underlying T.und,sizeOf,typeInfo,hi,Builtin.lenOf,Builtin.firstCells,loadCells,loadCellsFrom]
  ·refine ⟨some ⟨g,0,none⟩,cap,w,?_,by simpa using hown,World.grownBy.refl _ _,.inl rfl⟩
   cases Ad <;> simp [Builtin.append_,run_underlying T.und,sizeOf,typeInfo,hi,Builtin.lenOf,Builtin.firstCells,loadCells,loadCellsFrom,hnc,storeCells]
 ·have hpos:0<news.length:=by rw [hl]; exact Nat.mul_pos (by omega) T.pos
  obtain ⟨ad,rfl,_⟩:=hnews 0 _ (List.getElem?_eq_getElem hpos)
  have hcells:∀ j u,news[j]?=some u→w.cell? (ad.add j)=some u:=fun j u hu=>by
   obtain ⟨ad',he,hc⟩:=hnews j u hu
   injection he with he
   subst he;exact hc
  by_cases hf:w.ownsRow base e size v n xs
  ·obtain ⟨v',w',hr,h2,h3,_,h5⟩:=run_append_own_at (P:=P) w base t ty e i z size bytes T.und hi hz hsz hby hzs T.pos v n xs hf ad m c news hl hcells h1 h63 hbytes hbase
   have hn:Next w v v':=by
    rcases h5 with h5 | h5
    ·exact .inl h5
    ·exact .inr fun k hk=>by rw [h5] at hk; simp at hk; omega
   rcases h2.2 with ⟨_,h0⟩ | ⟨g,cap,cur,rfl,_⟩
   ·omega
   ·exact ⟨_,_,w',hr,.of h2,h3,hn⟩
  ·rcases hown.2 with hnil | ⟨g,cap,cur,fz,rfl,hb,hgg,hnc,hcm,hcs,htk,hfz⟩
   ·exact absurd ⟨hown.1,.inl hnil⟩ hf
   ·rcases hfz with rfl | rfl
    ·exact absurd ⟨hown.1,.inr ⟨g,cap,cur,rfl,hb,hgg,hnc,hcm,hcs,htk⟩⟩ hf
    ·have holds:=hown.cells (g:=g) rfl;subst hsz;subst hby;have hr:=run_append_grow (P:=P) w t ty e i z T.und hi hz ⟨g,0,none⟩ cap cap xs hown.1 holds ad m c news hl hcells (by omega) (by simp only [maxLen] at h63; omega) (growslice_fits (by omega) hbytes);exact ⟨_,_,_,hr,.of (qed hown.1 hl hzs h63 hbase),qbY _ _ _,.inr fun k hk=>by simp [Value.ownBlock] at hk; omega⟩
theorem qaU {w:World} {ops:Array Oper} {rest:List Oper} {o:Oper} {a:Act} {Q:Exit→Act→World→Prop} {sl x:Operand} {t u:TypeId} {v y:Value} {R:Value→World→Prop}
  (hgd:o.guard=none) (ho:o.op=.call { callee:=.builtin .append,args:=#[sl,x],argTypes:=#[t,u] }) (hs:a.eval sl=v) (hx:a.eval x=y)
  (hrun:∃ v' w',(Builtin.append_ #[t,u] o.type #[v,y]).run P w=.ok v' w'∧R v' w') (h:∀ v' w',R v' w'→wpList P ops Q rest (a.put o.dst v') w') :
  wpList P ops Q (o :: rest) a w:=by
 refine wpList_plain hgd fun K hK=>?_;obtain ⟨v',w',hr,h2⟩:=hrun;unfold Oper.wp execOp;simp only [ho,resolve,invoke,builtin,Sem.run_bind,Sem.run_pure,Result.andThen_ok,List.map_toArray,List.map_cons,List.map_nil,hs,hx,hr];exact hK _ _ (h v' w' h2)
theorem qao {w0:World} {y:Value} {ops:Array Oper} {rest:List Oper} {o:Oper} {a:Act} {Q:Exit→Act→World→Prop} {s x:Operand} {t e:TypeId} {bytes:Nat} (T:SlT P t e 1 bytes)
  (hgd:o.guard=none) (ho:o.op=.call { callee:=.builtin .append,args:=#[s,x],argTypes:=#[t,t] })
  {base n:Nat} {v:Value} {xs:List Value} {ad:Nat} (hown:OwnX w0 base e 1 v n xs) (hs:a.eval s=v) (hx:a.eval x=.slice (some ⟨ad,0,none⟩) 1 1) (had:ad=w0.heap.size)
  (hy:y.oneCell'=true)
  (h63:n+1≤maxLen) (hbytes:(n+1)*bytes≤140737488355328) (hbase:base≤w0.heap.size)
  (h:∀ A c w',OwnX w' base e 1 (.slice A (n+1) c) (n+1) (xs++[y])→w0.grownBy w' v.ownBlock→Next w0 v (.slice A (n+1) c)→wpList P ops Q rest (a.put o.dst (.slice A (n+1) c)) w') :
  wpList P ops Q (o :: rest) a (w0.alloc (.cells #[y] e)):=by
 subst had
 obtain ⟨A,c,w',hr,h2,h3,h4⟩:=qb8 (ty:=o.type) (c:=1) (Ad:=some ⟨w0.heap.size,0,none⟩) T (hown.alloc (.cells #[y] e)) (news:=[y]) (m:=1) rfl (fun j u hu=>⟨_,rfl,cell_one_new _ _ _ j u hu⟩)
  (by intro u hu; simp at hu; subst hu; exact hy) h63 hbytes (by simp; omega)
 refine qaU (R:=fun v' w1=>v'=.slice A (n+1) c∧w1=w') hgd ho hs hx ⟨_,_,hr,rfl,rfl⟩ ?_;rintro v' w1 ⟨rfl,rfl⟩;exact h _ _ _ h2 ((World.grownBy_alloc w0 _ _).trans h3) (h4.back (by simp))
theorem qaz {w:World} {ops:Array Oper} {rest:List Oper} {o:Oper} {a:Act} {Q:Exit→Act→World→Prop} {sl x:Operand} {t e:TypeId} {size bytes:Nat} (T:SlT P t e size bytes)
  (hgd:o.guard=none) (ho:o.op=.call { callee:=.builtin .append,args:=#[sl,x],argTypes:=#[t,t] })
  {base n B:Nat} {v:Value} {xs:List Value} {Ad:Option Addr} {m cx:Nat} {news:List Value} (hown:OwnX w base e size v n xs) (hs:a.eval sl=v) (hx:a.eval x=.slice Ad m cx)
  (hl:news.length=m*size) (hr:Rd w B Ad news) (h1:∀ u ∈ news,u.oneCell'=true)
  (h63:n+m≤maxLen) (hbytes:(n+m)*bytes≤140737488355328) (hbase:base≤w.heap.size)
  (h:∀ A c w',OwnX w' base e size (.slice A (n+m) c) (n+m) (xs++news)→w.grownBy w' v.ownBlock→Next w v (.slice A (n+m) c)→wpList P ops Q rest (a.put o.dst (.slice A (n+m) c)) w') :
  wpList P ops Q (o :: rest) a w:=by
 obtain ⟨A,c,w',hr,h2,h3,h4⟩:=qb8 (ty:=o.type) (c:=cx) T hown hl (fun j u hu=>by
  obtain ⟨ad,h1,_,h3⟩:=hr j u hu;exact ⟨ad,h1,h3⟩) h1 h63 hbytes hbase
 refine qaU (R:=fun v' w1=>v'=.slice A (n+m) c∧w1=w') hgd ho hs hx ⟨_,_,hr,rfl,rfl⟩ ?_;rintro v' w1 ⟨rfl,rfl⟩;exact h _ _ _ h2 h3 h4
theorem own_const {w:World} {e:TypeId} {C:Array Value} {n g base:Nat} {fz:Nat × Nat} (hg:g=w.heap.size) (hn:C.size=n) (hm:n≤maxLen) (hb:base≤w.heap.size) :
  OwnX (w.alloc (.cells C e fz)) base e 1 (.slice (some ⟨g,0,none⟩) n n) n C.toList:=by
 subst hg;exact ⟨by simp [hn],.inr ⟨w.heap.size,n,C,fz,rfl,hb,heap_alloc_new w _,Nat.le_refl _,hm,by omega,by rw [Nat.mul_one,← hn,← Array.length_toList]; exact List.take_length,.inr rfl⟩⟩
end
def Blk (w:World) (g:Nat) (t:TypeId) (cs:Array Value):Prop:=w.heap[g]?=some (.cells cs t (0,0))
section
variable {w w':World} {g:Nat} {t:TypeId} {cs:Array Value}
theorem Blk.lt (h:Blk w g t cs):g<w.heap.size:=(Array.getElem?_eq_some_iff.1 h).1
theorem Blk.cell (h:Blk w g t cs) (i:Nat):w.cell? ⟨g,i,none⟩=cs[i]?:=cell_of_row w g i cs t (0,0) h
theorem Blk.free (h:Blk w g t cs) (i:Nat):w.frozen? ⟨g,i,none⟩=false:=by
 unfold Blk at h;simp [World.frozen?,h]
theorem Blk.new (w:World) (t:TypeId) (cs:Array Value):Blk (w.alloc (.cells cs t)) w.heap.size t cs:=heap_alloc_new w _
theorem Blk.alloc (h:Blk w g t cs) (o:Obj):Blk (w.alloc o) g t cs:=(Below.heap_alloc w o g h.lt).trans h
theorem Blk.below {B:Nat} (h:Blk w g t cs) (hb:Below B w w') (hg:g<B):Blk w' g t cs:=(hb.block g hg).trans h
theorem Blk.grown {row:Option Nat} (h:Blk w g t cs) (hb:w.grownBy w' row) (hg:some g≠row):Blk w' g t cs:=(hb.block g h.lt hg).trans h
theorem Blk.keep {e:TypeId} (h:Blk w g t cs) (hk:KeepBut e w w') (hne:t≠e):Blk w' g t cs:=heap_keep hk hne h
theorem Blk.alloc1 (h:Blk w g t cs) (hk:Alloc1 w w'):Blk w' g t cs:=qes hk h
theorem qaI {B:Nat} {e:TypeId} {s n:Nat} {v:Value} {xs:List Value} (ho:OwnX w B e s v n xs) (h:Blk w g t cs) (hne:t≠e):v.ownBlock≠some g:=by
 intro hb
 rcases ho.2 with ⟨rfl,_⟩ | ⟨g',cap,cur,fz,rfl,_,hgg,_⟩
 ·simp [Value.ownBlock] at hb
 ·simp [Value.ownBlock] at hb;subst hb;unfold Blk at h;rw [hgg] at h;simp at h;exact hne h.2.1.symm
end
theorem Rd.of_blk {w:World} {g B:Nat} {t:TypeId} {l:List Value} (h:Blk w g t l.toArray) (hB:g<B):Rd w B (some ⟨g,0,none⟩) l:=fun i u hu=>by
 refine ⟨_,rfl,hB,?_⟩;have hadd:(⟨g,0,none⟩:Addr).add i=⟨g,i,none⟩:=by unfold Addr.add; split <;> simp_all
 rw [hadd,h.cell i]
 simpa using hu
structure Wrote (g:Nat) (w w':World):Prop where
 grown:w.grownBy w' (some g)
 size:w'.heap.size=w.heap.size
theorem Wrote.below {B g:Nat} {a w w':World} (h:Wrote g w w') (hb:Below B a w) (hg:B≤g) (hB:B≤w.heap.size):Below B a w':=hb.grown h.grown hB fun k hk=>by injection hk with hk; omega
theorem Wrote.own {g:Nat} {w w':World} {B:Nat} {e:TypeId} {s n:Nat} {v:Value} {xs:List Value} (h:Wrote g w w') (ho:OwnX w B e s v n xs) (hne:v.ownBlock≠some g):OwnX w' B e s v n xs:=ho.kept h.grown (.inr hne)
theorem Wrote.blk {g g':Nat} {w w':World} {t:TypeId} {cs:Array Value} (h:Wrote g w w') (hb:Blk w g' t cs) (hne:g'≠g):Blk w' g' t cs:=hb.grown h.grown (by simpa using hne)
theorem qbA (w:World) (g:Nat) (cs:Array Value):Wrote g w (w.setRow g cs) :=
 ⟨⟨rfl,rfl,rfl,by simp,fun k _ hk=>setRow_other w g k _ (fun e=>hk (by rw [e]))⟩,by simp⟩
section
variable {P:Program}
theorem qad {w:World} {ops:Array Oper} {rest:List Oper} {o:Oper} {a:Act} {Q:Exit→Act→World→Prop} {ty:TypeId} {x y:Operand} {g:Nat} {cells old:Array Value} {t:TypeId}
  (hg:Blk w g t old) (hgd:o.guard=none) (ho:o.op=.store ty x y) (hx:a.eval x=.pointer (some ⟨g,0,none⟩)) (hy:a.eval y=.agg cells)
  (hi:(P.info? ty).map (·.size)=some cells.size) (hold:old.size=cells.size) (h1:cells.all (·.oneCell')=true)
  (h:∀ w',Blk w' g t cells→Wrote g w w'→wpList P ops Q rest (a.put o.dst undef) w'):wpList P ops Q (o :: rest) a w :=
 wpList_store_row hgd ty x y ho g cells hx hy t old hg hi hold h1 (h _ (setRow_heap w g old cells t (0,0) hg) (qbA w g cells))
theorem qac {w:World} {ops:Array Oper} {rest:List Oper} {o:Oper} {a:Act} {Q:Exit→Act→World→Prop} {ty:TypeId} {x:Operand} {g:Nat} {cs:Array Value} {t:TypeId} {d:TypeDesc}
  (hg:Blk w g t cs) (hgd:o.guard=none) (ho:o.op=.load ty x) (hx:a.eval x=.pointer (some ⟨g,0,none⟩))
  (hu:P.underlying ty=some d) (hd:(match d with | .struct _ | .array _ _=>true | _=>false)=true) (hi:(P.info? ty).map (·.size)=some cs.size)
  (h:wpList P ops Q rest (a.put o.dst (.agg cs)) w):wpList P ops Q (o :: rest) a w :=
 wpList_load_row hgd ty x ho g hx t cs (0,0) d hg hu hd hi h
theorem qau {fn:Func} {p:Tmp} {ty:TypeId} (h:fn.results=#[.cell p ty]) {tmps:Array Value} {w:World} {g:Nat} {cs:Array Value} {t:TypeId} {d:TypeDesc} (hp:tmps.getD p undef=.pointer (some ⟨g,0,none⟩))
  (hg:Blk w g t cs) (hu:P.underlying ty=some d) (hd:(match d with | .struct _ | .array _ _=>true | _=>false)=true) (hi:(P.info? ty).map (·.size)=some cs.size) :
  (results fn tmps).run P w=.ok (.agg cs) w:=by
 have hl:=run_loadVar_row (P:=P) w g t ty cs (0,0) d hg hu hd hi;have hp':tmps[p]?.getD undef=.pointer (some ⟨g,0,none⟩):=by simpa using hp
 simp only [results,h];simp [Sem.run_bind,Result.andThen,hp',asAddr,hl]
theorem qar {fn:Func} {p u:Tmp} {ty:TypeId} (h:fn.results=#[.cell p ty,.tmp u]) {tmps:Array Value} {w:World} {g:Nat} {cs:Array Value} {t:TypeId} {d:TypeDesc} (hp:tmps.getD p undef=.pointer (some ⟨g,0,none⟩))
  (hg:Blk w g t cs) (hu:P.underlying ty=some d) (hd:(match d with | .struct _ | .array _ _=>true | _=>false)=true) (hi:(P.info? ty).map (·.size)=some cs.size) :
  (results fn tmps).run P w=.ok (.tuple #[.agg cs,tmps.getD u undef]) w:=by
 have hl:=run_loadVar_row (P:=P) w g t ty cs (0,0) d hg hu hd hi;have hp':tmps[p]?.getD undef=.pointer (some ⟨g,0,none⟩):=by simpa using hp
 simp only [results,h];simp [Sem.run_bind,Result.andThen,hp',asAddr,hl]
theorem qcS {w:World} {ty:TypeId} {g i:Nat} {v:Value} {cs:Array Value} {t:TypeId} (hg:Blk w g t cs) (hi:(P.info? ty).map (·.size)=some 1) (hlt:i<cs.size) (h1:v.oneCell'=true) :
  (storeVar ty ⟨g,i,none⟩ v).run P w=.ok () (w.setRow g (cs.setIfInBounds i v)):=by
 have hc1:v.cells=#[v]:=by cases v <;> first | rfl | simp [Value.oneCell'] at h1
 have hst:=run_storeCells_at P g i t [v] 0 cs w hg (by simp; omega) (by intro u hu; simp at hu; subst hu; exact h1)
 cases hq:P.info? ty with
 | none=>simp [hq] at hi
 | some j =>
  have hj:j.size=1:=by simpa [hq] using hi
  have e:(cs.toList.take (i+0)++[v]++cs.toList.drop (i+0+[v].length)).toArray=cs.setIfInBounds i v:=by
   apply Array.ext';simp only [Nat.add_zero,List.length_cons,List.length_nil,Array.toList_setIfInBounds];rw [List.set_eq_take_append_cons_drop,if_pos (by simpa using hlt)];simp
  rw [e] at hst;simp [storeVar,hc1,sizeOf,typeInfo,hq,hj,hst]
theorem qam {w:World} {ops:Array Oper} {rest:List Oper} {o:Oper} {a:Act} {Q:Exit→Act→World→Prop} {ty:TypeId} {x y:Operand} {g i:Nat} {v:Value} {cs:Array Value} {t:TypeId}
  (hg:Blk w g t cs) (hgd:o.guard=none) (ho:o.op=.store ty x y) (hx:a.eval x=.pointer (some ⟨g,i,none⟩)) (hy:a.eval y=v)
  (hi:(P.info? ty).map (·.size)=some 1) (hlt:i<cs.size) (h1:v.oneCell'=true)
  (h:∀ w',Blk w' g t (cs.setIfInBounds i v)→Wrote g w w'→wpList P ops Q rest (a.put o.dst undef) w'):wpList P ops Q (o :: rest) a w:=by
 refine wpList_plain hgd fun K hK=>?_;have hr:=qcS (P:=P) (ty:=ty) hg hi hlt h1;unfold Oper.wp execOp;simp only [ho,hx,hy,Instr.storeAt,Instr.sureAddr,Sem.run_bind,Sem.run_pure,Result.andThen_ok,hr];exact hK _ _ (h _ (setRow_heap w g cs _ t (0,0) hg) (qbA w g _))
end
theorem qak {w:World} {g i:Nat} {t:TypeId} {cs:Array Value} (h:Blk w g t cs) (u:Value):Blk (w.setCell ⟨g,i,none⟩ u) g t (cs.setIfInBounds i u):=by
 unfold Blk at *;simp only [World.setCell,Array.getElem?_modify,if_pos,h];rfl
theorem qai (w:World) (g i:Nat) (u:Value):Wrote g w (w.setCell ⟨g,i,none⟩ u) :=
 ⟨⟨rfl,rfl,rfl,by simp [World.setCell],fun k _ hk=>Below.heap_setCell _ _ _ _ (by simpa using hk)⟩,by simp [World.setCell]⟩
theorem qcv {w:World} {B:Nat} {ad:Addr} {xs:List Value} (h:Rd w B (some ad) xs) (n:Nat):Rd w B (some (ad.add n)) (xs.drop n):=fun i u hu=>by
 rw [List.getElem?_drop] at hu;obtain ⟨ad',e,hb,hc⟩:=h _ u hu
 injection e with e
 subst e;refine ⟨_,rfl,by rw [qaW]; exact hb,?_⟩;rw [show (ad.add n).add i=ad.add (n+i) from ?_]
 ·exact hc
 ·unfold Addr.add
  by_cases h1:n=0 <;> by_cases h2:i=0 <;> simp [h1,h2,Nat.add_assoc]
theorem qcu {w:World} {B:Nat} {A:Option Addr} {xs:List Value} (h:Rd w B A xs) (n:Nat):Rd w B A (xs.take n):=fun i u hu=>by
 rw [List.getElem?_take] at hu
 split at hu
 ·exact h i u hu
 ·simp at hu
theorem blk_src {w:World} {g:Nat} {t:TypeId} {cs:Array Value} (h:Blk w g t cs) (n:Nat):∀ j v,(cs.toList.take n)[j]?=some v→w.cell? ((⟨g,0,none⟩:Addr).add j)=some v:=fun j v hv=>by
 have hadd:(⟨g,0,none⟩:Addr).add j=⟨g,j,none⟩:=by unfold Addr.add; split <;> simp_all
 rw [hadd,h.cell];rw [List.getElem?_take] at hv
 split at hv
 ·simpa using hv
 ·cases hv
section
variable {P:Program}
theorem qdH {w:World} {g o n:Nat} {t ty:TypeId} {cs r:Array Value} {d:TypeDesc} (hg:Blk w g t cs) (ho:o+n≤cs.size) (hr:((cs.toList.drop o).take n).toArray=r)
  (hu:P.underlying ty=some d) (hd:(match d with | .struct _ | .array _ _=>true | _=>false)=true) (hi:(P.info? ty).map (·.size)=some n) :
  (loadVar ty ⟨g,o,none⟩).run P w=.ok (.agg r) w:=by
 subst hr;have hlen:((cs.toList.drop o).take n).length=n:=by simp; omega
 have hl:(loadCells ⟨g,o,none⟩ ((cs.toList.drop o).take n).length).run P w=.ok ((cs.toList.drop o).take n).toArray w :=
  run_loadCells_list (P:=P) w ⟨g,o,none⟩ ((cs.toList.drop o).take n) (fun j v hv=>by
   have hadd:(⟨g,o,none⟩:Addr).add j=⟨g,o+j,none⟩:=by unfold Addr.add; split <;> simp_all
   rw [hadd,hg.cell];rw [List.getElem?_take] at hv
   split at hv
   ·rw [List.getElem?_drop] at hv
    simpa using hv
   ·cases hv)
 rw [hlen] at hl
 cases hq:P.info? ty with
 | none=>simp [hq] at hi
 | some i =>
  have hs:i.size=n:=by simpa [hq] using hi
  have hagg:(isAgg ty).run P w=.ok true w:=by
   unfold isAgg;rw [Sem.run_bind,run_underlying hu w]
   cases d <;> simp_all
  simp [loadVar,Sem.run_bind,hagg,sizeOf,typeInfo,hq,hs,hl]
theorem qan {w:World} {ops:Array Oper} {rest:List Oper} {o:Oper} {a:Act} {Q:Exit→Act→World→Prop} {ty:TypeId} {x:Operand} {g k n:Nat} {cs r:Array Value} {t:TypeId} {d:TypeDesc}
  (hg:Blk w g t cs) (hk:k+n≤cs.size) (hr:((cs.toList.drop k).take n).toArray=r) (hgd:o.guard=none) (ho:o.op=.load ty x) (hx:a.eval x=.pointer (some ⟨g,k,none⟩))
  (hu:P.underlying ty=some d) (hd:(match d with | .struct _ | .array _ _=>true | _=>false)=true) (hi:(P.info? ty).map (·.size)=some n)
  (h:wpList P ops Q rest (a.put o.dst (.agg r)) w):wpList P ops Q (o :: rest) a w:=by
 refine wpList_plain hgd fun K hK=>?_;have hrun:=qdH (P:=P) hg hk hr hu hd hi;unfold Oper.wp execOp;simp only [ho,hx,Instr.loadAt,Instr.sureAddr,Sem.run_bind,Sem.run_pure,Result.andThen_ok,hrun];exact hK _ _ h
theorem qcr {w:World} {ops:Array Oper} {rest:List Oper} {o:Oper} {a:Act} {Q:Exit→Act→World→Prop} {d s:Operand} {dT sT elem t:TypeId} {g off dLen dCap sLen sCap:Nat} {ad:Addr} {cur new:Array Value} (cs:List Value)
  (hg:Blk w g t cur) (hgd:o.guard=none) (ho:o.op=.call { callee:=.builtin .copy,args:=#[d,s],argTypes:=#[dT,sT] }) (hu:P.underlying dT=some (.slice elem)) (hsz:(P.info? elem).map (·.size)=some 1)
  (hd:a.eval d=.slice (some ⟨g,off,none⟩) dLen dCap) (hs:a.eval s=.slice (some ad) sLen sCap) (hn:cs.length=Nat.min sLen dLen)
  (hsrc:∀ j v,cs[j]?=some v→w.cell? (ad.add j)=some v) (hfit:off+cs.length≤cur.size) (h1:∀ v ∈ cs,v.oneCell'=true)
  (hnew:(cur.toList.take off++cs++cur.toList.drop (off+cs.length)).toArray=new)
  (h:∀ w',Blk w' g t new→Wrote g w w'→wpList P ops Q rest (a.put o.dst (goInt cs.length)) w'):wpList P ops Q (o :: rest) a w:=by
 refine wpList_plain hgd fun K hK=>?_;have hr:=run_copy_row (P:=P) w dT sT o.type elem g off dLen dCap ad sLen sCap cur t cs hu hsz hg hn hsrc hfit h1;rw [hnew] at hr;unfold Oper.wp execOp;simp only [ho,resolve,invoke,builtin,Sem.run_bind,Sem.run_pure,Result.andThen_ok,List.map_toArray,List.map_cons,List.map_nil,hs,hd,hr];exact hK _ _ (h _ (setRow_heap w g cur _ t (0,0) hg) (qbA w g _))
theorem run_not32 {w:World} (e:Nat) (he:e<4294967296):(Op.unary .xor (.int .u32 (e:Int))).run P w=.ok (.int .u32 ((4294967295 - e:Nat):Int)) w:=by
 have h1:BitVec.ofInt 32 (4294967295:Int)=BitVec.allOnes 32:=by decide
 have h:bits .xor .u32 (4294967295:Int) (e:Int)=((4294967295 - e:Nat):Int):=by
  show IntKind.u32.wrap ((BitVec.ofInt 32 (4294967295:Int) ^^^ BitVec.ofInt 32 (e:Int)).toNat:Int)=_;rw [h1,BitVec.allOnes_xor,BitVec.toNat_not,BitVec.ofInt_natCast,BitVec.toNat_ofNat,Nat.mod_eq_of_lt he,IntKind.wrap_u32];omega
 have hm:IntKind.u32.max=4294967295:=by decide
 rw [unary_xor];simp only [IntKind.signed,hm,Bool.false_eq_true,if_false];rw [← h];rfl
theorem run_not64 {w:World} (e:Nat) (he:e<18446744073709551616):(Op.unary .xor (.int .u64 (e:Int))).run P w=.ok (.int .u64 ((18446744073709551615 - e:Nat):Int)) w:=by
 have h1:BitVec.ofInt 64 (18446744073709551615:Int)=BitVec.allOnes 64:=by decide
 have h:bits .xor .u64 (18446744073709551615:Int) (e:Int)=((18446744073709551615 - e:Nat):Int):=by
  show IntKind.u64.wrap ((BitVec.ofInt 64 (18446744073709551615:Int) ^^^ BitVec.ofInt 64 (e:Int)).toNat:Int)=_;rw [h1,BitVec.allOnes_xor,BitVec.toNat_not,BitVec.ofInt_natCast,BitVec.toNat_ofNat,Nat.mod_eq_of_lt he,IntKind.wrap_u64];omega
 have hm:IntKind.u64.max=18446744073709551615:=by decide
 rw [unary_xor];simp only [IntKind.signed,hm,Bool.false_eq_true,if_false];rw [← h];rfl
theorem qdy {w:World} {ops:Array Oper} {rest:List Oper} {o:Oper} {a:Act} {Q:Exit→Act→World→Prop} {u:UnOp} {ty:TypeId} {x:Operand} {v r:Value}
  (hr:(Op.unary u v).run P w=.ok r w) (hgd:o.guard=none) (ho:o.op=.unOp u ty x) (hx:a.eval x=v) (h:wpList P ops Q rest (a.put o.dst r) w):wpList P ops Q (o :: rest) a w:=by
 refine wpList_plain hgd fun K hK=>?_;unfold Oper.wp execOp;simp only [ho,hx,Sem.run_bind,Sem.run_pure,Result.andThen_ok,hr];exact hK _ _ h
theorem qaR {w:World} {t e:TypeId} {n:Nat} {cs:Array Value} {k:Nat} {v:Value} (h:P.underlying t=some (.array n e)) (hk:k<n) (hv:cs[k]?=some v) (hs:(P.info? e).map (·.size)=some 1)
  (hag:(match P.underlying e with | some (.struct _) | some (.array _ _)=>true | _=>false)=false) (hu:∃ d,P.underlying e=some d):(Instr.index t (.agg cs) (.int .i64 (k:Int))).run P w=.ok v w:=by
 obtain ⟨d,hd⟩:=hu;have h0:(0:Int)≤(k:Int)∧(k:Int)<(n:Int):=by omega
 cases hq:P.info? e with
 | none=>simp [hq] at hs
 | some j =>
  have hj:j.size=1:=by simpa [hq] using hs
  have hagg:(isAgg e).run P w=.ok false w:=by
   unfold isAgg;rw [Sem.run_bind,run_underlying hd w];rw [hd] at hag
   cases d <;> simp_all
  simp [Instr.index,run_underlying h,asIntOf,h0,sizeOf,typeInfo,hq,hj,part,hagg,hv,go_sem];intro hle;omega
end
end Go.Proofs.YtcbkaaodmjphdaaGreatDoor
namespace Go.Proofs.YtcbkaaodmjphdaaGreatDoor
set_option linter.unusedSimpArgs false
set_option linter.unusedVariables false
set_option maxRecDepth 100000
set_option maxHeartbeats 4000000
section
variable {P:Program} {ops:Array Oper}
def dstAt (ops:Array Oper) (i:Nat):Option Tmp:=(ops[i]?).bind (·.dst)
def waitsOf (ops:Array Oper) (i:Nat):List Nat :=
 match ops[i]? with
 | some o=>o.after.toList.filterMap fun e=>if Region.binds .any e then some e.on else none
 | none=>[]
def putAll (ops:Array Oper) (vals:Nat→Value):List Nat→Act→Act
 | [],a=>a
 | j :: r,a=>putAll ops vals r (a.put (dstAt ops j) (vals j))
def regionOk (ops:Array Oper):Bool :=
 (List.range ops.size).all fun i =>
  match ops[i]? with
  | none=>false
  | some o =>
   (match o.op with | .select ..=>false | _=>true) &&
   (waitsOf ops i).all (·<i) &&
   (o.looksAt ops).all (fun t=>(List.range ops.size).all fun j=>dstAt ops j != some t || (waitsOf ops i).contains j || (waitsOf ops j).contains i) &&
   (match o.guard with | some (g,_)=>(waitsOf ops i).contains g | none=>true) &&
   (List.range ops.size).all fun j=>j == i || dstAt ops i == none || dstAt ops j != dstAt ops i
def deepWaits (ops:Array Oper):Nat→Nat→List Nat
 | 0,i=>waitsOf ops i
 | f+1,i=>waitsOf ops i++(waitsOf ops i).flatMap (deepWaits ops f)
theorem qbz {ops:Array Oper} {L:Nat→Prop} (hc:∀ j,L j→∀ i ∈ waitsOf ops j,L i):∀ (f j:Nat),L j→∀ i ∈ deepWaits ops f j,L i
 | 0,j,hj,i,hi=>hc j hj i hi
 | f+1,j,hj,i,hi=>by
  rcases List.mem_append.1 hi with h | h
  ·exact hc j hj i h
  ·obtain ⟨k,hk,hik⟩:=List.mem_flatMap.1 h;exact qbz hc f k (hc j hj k hk) i hik
def availAt (ops:Array Oper) (kills:Nat→Nat→Bool) (j i:Nat):Bool :=
 (waitsOf ops i).contains j && (List.range ops.size).all fun k=>k == i || k == j || !kills k j || (deepWaits ops 5 k).contains i
def availIni (ops:Array Oper) (ik:Nat→Bool) (i:Nat):Bool :=
 (List.range ops.size).all fun k=>k == i || !ik k || (deepWaits ops 5 k).contains i
def aliveAt (ops:Array Oper) (kills:Nat→Nat→Bool) (j:Nat):Bool :=
 (List.range ops.size).all fun k=>k == j || !kills k j
theorem qdM (a:Act) (d:Option Tmp) (v:Value):(a.put d v).tmps.size=a.tmps.size:=by cases d <;> simp [Act.put]
theorem qbN (a:Act) (d:Option Tmp) (v:Value):(a.put d v).defers=a.defers:=by cases d <;> rfl
theorem qd8 (a:Act) (d:Tmp) (v:Value) (h:d<a.tmps.size):(a.put (some d) v).tmps[d]?=some v:=by simp [Act.put,h]
theorem qcw (a:Act) (d:Option Tmp) (v:Value) (t:Tmp) (h:d≠some t):(a.put d v).tmps[t]?=a.tmps[t]?:=by
 cases d with
 | none=>rfl
 | some d=>simp [Act.put,Array.getElem?_setIfInBounds_ne (show d≠t from fun e=>h (by rw [e]))]
structure OkAt (ops:Array Oper) (i:Nat) (o:Oper):Prop where
 sel:∀ cs b,o.op≠.select cs b
 before:∀ j ∈ waitsOf ops i,j<i
 look:∀ t ∈ o.looksAt ops,∀ j,dstAt ops j=some t→j ∈ waitsOf ops i∨i ∈ waitsOf ops j
 guard:∀ g b,o.guard=some (g,b)→g ∈ waitsOf ops i
 dist:∀ j,j≠i→∀ d,dstAt ops i=some d→dstAt ops j≠some d
theorem qdE {j:Nat} {d:Tmp} (h:dstAt ops j=some d):j<ops.size:=by
 rcases Nat.lt_or_ge j ops.size with h' | h'
 ·exact h'
 ·simp [dstAt,Array.getElem?_eq_none h'] at h
theorem okAt (hok:regionOk ops=true) {i:Nat} {o:Oper} (ho:ops[i]?=some o):OkAt ops i o:=by
 have hi:i<ops.size:=(Array.getElem?_eq_some_iff.1 ho).1;have h:=(List.all_eq_true.1 hok) i (List.mem_range.2 hi);simp only [ho,Bool.and_eq_true] at h;obtain ⟨⟨⟨⟨h1,h2⟩,h3⟩,h4⟩,h5⟩:=h;refine ⟨fun cs b e=>by simp [e] at h1,fun j hj=>by simpa using (List.all_eq_true.1 h2) j hj,fun t ht j hj=>?_,fun g b hg=>?_,fun j hj d hd=>?_⟩
 ·have:=(List.all_eq_true.1 ((List.all_eq_true.1 h3) t ht)) j (List.mem_range.2 (qdE hj))
  simpa [hj] using this
 ·rw [hg] at h4
  simpa using h4
 ·intro e;have:=(List.all_eq_true.1 h5) j (List.mem_range.2 (qdE e));simp [hj,hd,e] at this
theorem qb3 (hdist:∀ i j d,i≠j→dstAt ops i=some d→dstAt ops j≠some d) (vals:Nat→Value):∀ (l:List Nat) (a:Act),
  (putAll ops vals l a).tmps.size=a.tmps.size∧(putAll ops vals l a).defers=a.defers ∧
  (∀ j ∈ l,∀ d,dstAt ops j=some d→d<a.tmps.size→(putAll ops vals l a).tmps[d]?=some (vals j)) ∧
  (∀ t,(∀ j ∈ l,dstAt ops j≠some t)→(putAll ops vals l a).tmps[t]?=a.tmps[t]?)
 | [],a=>⟨rfl,rfl,fun j hj=>by simp at hj,fun _ _=>rfl⟩
 | j :: r,a=>by
  obtain ⟨h1,h2,h3,h4⟩:=qb3 hdist vals r (a.put (dstAt ops j) (vals j));simp only [putAll];refine ⟨h1.trans (qdM _ _ _),h2.trans (qbN _ _ _),fun k hk d hd hlt=>?_,fun t ht=>?_⟩
  ·by_cases hkr:k ∈ r
   ·exact h3 k hkr d hd (by rw [qdM]; exact hlt)
   ·have hkj:k=j:=by
     rcases List.mem_cons.1 hk with h | h
     ·exact h
     ·exact absurd h hkr
    subst hkj;rw [h4 d (fun m hm e=>hdist k m d (fun e'=>hkr (e'▸hm)) hd e),hd];exact qd8 a d _ hlt
  ·rw [h4 t (fun m hm=>ht m (List.mem_cons_of_mem _ hm))];exact qcw a _ _ t (ht j (List.mem_cons_self ..))
def upd (vals:Nat→Value) (i:Nat) (v:Value):Nat→Value:=fun k=>if k=i then v else vals k
structure RI (ops:Array Oper) (a0:Act) (C:World→Prop) (I0:Bool→World→Prop) (ik:Bool→Nat→Bool) (F:Nat→(Nat→Value)→World→Prop) (kills:Nat→Nat→Bool) (listed:Array Bool) (a:Act) (w:World) (vals:Nat→Value):Prop where
 size:listed.size=ops.size
 tsize:a.tmps.size=a0.tmps.size
 defers:a.defers=a0.defers
 done:∀ j,listed.getD j false=true→∀ d,dstAt ops j=some d→d<a0.tmps.size→a.tmps[d]?=some (vals j)
 other:∀ t,(∀ j,listed.getD j false=true→dstAt ops j≠some t)→a.tmps[t]?=a0.tmps[t]?
 closed:∀ j,listed.getD j false=true→∀ i ∈ waitsOf ops j,listed.getD i false=true
 c:C w
 ini:∀ m,(∀ k,listed.getD k false=true→ik m k=false)→I0 m w
 facts:∀ j,listed.getD j false=true→(∀ k,listed.getD k false=true→k≠j→kills k j=false)→F j vals w
theorem qek {i j:Nat} {o:Oper} (ho:ops[i]?=some o):j ∈ waitsOf ops i↔∃ e ∈ o.after,Region.binds .any e=true∧e.on=j:=by
 simp [waitsOf,ho]
theorem qaM (l:Array Bool) (i:Nat) (h:i<l.size):(l.setIfInBounds i true).getD i false=true:=by simp [h]
theorem qaA (l:Array Bool) {i j:Nat} (h:i≠j):(l.setIfInBounds i true).getD j false=l.getD j false:=by
 simp [Array.getElem?_setIfInBounds_ne h]
def StepAt (P:Program) (ops:Array Oper) (a0:Act) (C:World→Prop) (I0:Bool→World→Prop) (ik:Bool→Nat→Bool) (F:Nat→(Nat→Value)→World→Prop) (St:Nat→World→World→Prop) (kills:Nat→Nat→Bool) (i:Nat) (o:Oper):Prop :=
 ∀ (w:World) (vals:Nat→Value),C w→(∀ m,availIni ops (ik m) i=true→I0 m w)→(∀ j,availAt ops kills j i=true→F j vals w) →
  wpList P ops (fun e a' w'=>e=.normal∧∃ v,a'=(putAll ops vals (waitsOf ops i) a0).put o.dst v∧F i (upd vals i v) w'∧C w'∧St i w w') [o] (putAll ops vals (waitsOf ops i) a0) w
theorem RI.step {a0:Act} {C:World→Prop} {I0:Bool→World→Prop} {ik:Bool→Nat→Bool} {F:Nat→(Nat→Value)→World→Prop} {St:Nat→World→World→Prop} {kills:Nat→Nat→Bool} {Q:Exit→Act→World→Prop}
  (hok:regionOk ops=true) (hini:∀ m i,ik m i=false→∀ w w',St i w w'→I0 m w→I0 m w') (hpres:∀ i k,i<ops.size→i≠k→kills i k=false→(deepWaits ops 5 k).contains i=false→∀ vals v w w',St i w w'→F k vals w→F k (upd vals i v) w')
  (hstep:∀ i o,ops[i]?=some o→StepAt P ops a0 C I0 ik F St kills i o)
  {listed:Array Bool} {a:Act} {w:World} {vals:Nat→Value} (h:RI ops a0 C I0 ik F kills listed a w vals) {i:Nat} (hi:i ∈ Region.ready .any ops listed) :
  wpOp P ops Q i (fun a' w'=>∃ vals',RI ops a0 C I0 ik F kills (listed.setIfInBounds i true) a' w' vals') a w:=by
 obtain ⟨hun,o,ho,hall⟩:=mem_ready.1 hi;have hlt:i<ops.size:=(Array.getElem?_eq_some_iff.1 ho).1;have hltl:i<listed.size:=by rw [h.size]; exact hlt
 have hunf:listed.getD i false=false:=by
  simp [hltl] at hun ⊢; exact hun
 have ok:=okAt hok ho
 have hdist:∀ i j d,i≠j→dstAt ops i=some d→dstAt ops j≠some d:=fun i j d hij hd=>by
  have hil:=qdE hd;exact (okAt hok (Array.getElem?_eq_getElem hil)).dist j (Ne.symm hij) d hd
 have hw:∀ j ∈ waitsOf ops i,listed.getD j false=true:=fun j hj=>by
  obtain ⟨e,he,hb,rfl⟩:=(qek ho).1 hj;exact hall e he hb
 obtain ⟨p1,p2,p3,p4⟩:=qb3 hdist vals (waitsOf ops i) a0
 have hlook:∀ t ∈ o.looksAt ops,a.tmps[t]?=(putAll ops vals (waitsOf ops i) a0).tmps[t]?:=by
  intro t ht
  by_cases hex:∃ j,dstAt ops j=some t
  ·obtain ⟨j,hj⟩:=hex
   rcases ok.look t ht j hj with hji | hij
   ·by_cases hts:t<a0.tmps.size
    ·rw [h.done j (hw j hji) t hj hts,p3 j hji t hj hts]
    ·rw [Array.getElem?_eq_none (by rw [h.tsize]; exact Nat.le_of_not_lt hts),Array.getElem?_eq_none (by rw [p1]; exact Nat.le_of_not_lt hts)]
   ·have hjl:¬ listed.getD j false=true:=fun hj'=>by rw [h.closed j hj' i hij] at hunf; cases hunf
    rw [h.other t (fun k hk e=>by
     have:k=j:=by
      rcases Nat.decEq k j with hne | he
      ·exact absurd e (hdist j k t (Ne.symm hne) hj)
      ·exact he
     subst this; exact hjl hk)]
    rw [p4 t (fun k hk e=>by
     have:k=j:=by
      rcases Nat.decEq k j with hne | he
      ·exact absurd e (hdist j k t (Ne.symm hne) hj)
      ·exact he
     subst this; exact hjl (hw k hk))]
  ·have hno:∀ j,dstAt ops j≠some t:=fun j e=>hex ⟨j,e⟩;rw [h.other t (fun j _=>hno j),p4 t (fun j _=>hno j)]
 have heval:∀ x ∈ o.op.operands,a.eval x=(putAll ops vals (waitsOf ops i) a0).eval x:=by
  intro x hx
  cases x with
  | tmp t =>
   have:=hlook t (List.mem_append_left _ (List.mem_filterMap.2 ⟨.tmp t,by simpa using hx,rfl⟩));simp only [Act.eval,Array.getD_eq_getD_getElem?,this]
  | _=>rfl
 have hexec:execOp a.eval o=execOp (putAll ops vals (waitsOf ops i) a0).eval o:=execOp_congr o ok.sel heval
 have hwant:Region.wanted o (yielded ops a.tmps)=Region.wanted o (yielded ops (putAll ops vals (waitsOf ops i) a0).tmps):=by
  unfold Region.wanted
  cases hg:o.guard with
  | none=>rfl
  | some gw =>
   obtain ⟨g,want⟩:=gw
   have:yielded ops a.tmps g=yielded ops (putAll ops vals (waitsOf ops i) a0).tmps g:=by
    unfold yielded
    cases ht:(ops[g]?).bind (·.dst) with
    | none=>rfl
    | some t =>
     have:=hlook t (by
      refine List.mem_append_right _ ?_;simp [hg,ht])
     simp only [Option.bind_some,this]
   simp only [this]
 have havail:∀ j,availAt ops kills j i=true→F j vals w:=by
  intro j hj;simp only [availAt,Bool.and_eq_true] at hj;obtain ⟨hj1,hj2⟩:=hj;have hjl:=hw j (by simpa using hj1);refine h.facts j hjl fun k hk hkj=>?_
  have hkl:k<ops.size:=by
   rcases Nat.lt_or_ge k ops.size with h' | h'
   ·exact h'
   ·rw [← h.size] at h'; simp [Array.getElem?_eq_none h'] at hk
  have:=(List.all_eq_true.1 hj2) k (List.mem_range.2 hkl);simp only [Bool.or_eq_true,beq_iff_eq,Bool.not_eq_true'] at this
  rcases this with ((this | this) | this) | this
  ·subst this; rw [hunf] at hk; cases hk
  ·exact absurd this hkj
  ·exact this
  ·have:=qbz (L:=fun j=>listed.getD j false=true) h.closed 5 k hk i (by simpa using this);simp only [hunf] at this; cases this
 have hini0:∀ m,availIni ops (ik m) i=true→I0 m w:=by
  intro m hj2;refine h.ini m fun k hk=>?_
  have hkl:k<ops.size:=by
   rcases Nat.lt_or_ge k ops.size with h' | h'
   ·exact h'
   ·rw [← h.size] at h'; simp [Array.getElem?_eq_none h'] at hk
  have:=(List.all_eq_true.1 hj2) k (List.mem_range.2 hkl);simp only [Bool.or_eq_true,beq_iff_eq,Bool.not_eq_true'] at this
  rcases this with (this | this) | this
  ·subst this; rw [hunf] at hk; cases hk
  ·exact this
  ·have:=qbz (L:=fun j=>listed.getD j false=true) h.closed 5 k hk i (by simpa using this);simp only [hunf] at this; cases this
 have hend:∀ (v:Value) (w':World),(∃ v',(putAll ops vals (waitsOf ops i) a0).put o.dst v=(putAll ops vals (waitsOf ops i) a0).put o.dst v'∧F i (upd vals i v') w'∧C w'∧St i w w') →
   ∃ vals',RI ops a0 C I0 ik F kills (listed.setIfInBounds i true) (a.put o.dst v) w' vals':=by
  rintro v w' ⟨v',hv,hF,hC,hSt⟩;have hdo:dstAt ops i=o.dst:=by simp [dstAt,ho]
  refine ⟨upd vals i v',⟨by simp [h.size],(qdM _ _ _).trans h.tsize,(qbN _ _ _).trans h.defers,?_,?_,?_,hC,?_,?_⟩⟩
  ·intro j hj d hd hlt'
   by_cases hji:j=i
   ·subst hji;rw [hdo] at hd;simp only [upd,if_true];rw [hd] at hv ⊢;rw [qd8 _ _ _ (by rw [h.tsize]; exact hlt')];have:=congrArg (fun a:Act=>a.tmps[d]?) hv;rw [qd8 _ _ _ (by rw [p1]; exact hlt'),qd8 _ _ _ (by rw [p1]; exact hlt')] at this;exact this
   ·simp only [upd,hji,if_false];rw [qaA _ (Ne.symm hji)] at hj;rw [qcw _ _ _ _ (fun e=>hdist j i d hji hd (hdo.trans e))];exact h.done j hj d hd hlt'
  ·intro t ht;rw [qcw _ _ _ _ (fun e=>ht i (qaM _ _ hltl) (hdo.trans e))];refine h.other t fun j hj=>?_
   by_cases hji:j=i
   ·subst hji; rw [hunf] at hj; cases hj
   ·exact ht j (by rw [qaA _ (Ne.symm hji)]; exact hj)
  ·intro j hj k hk
   by_cases hki:k=i
   ·subst hki; exact qaM _ _ hltl
   ·rw [qaA _ (Ne.symm hki)]
    by_cases hji:j=i
    ·subst hji; exact hw k hk
    ·rw [qaA _ (Ne.symm hji)] at hj;exact h.closed j hj k hk
  ·intro m hk;refine hini m i (hk i (qaM _ _ hltl)) _ _ hSt (h.ini m fun k hk'=>hk k ?_)
   by_cases hki:k=i
   ·subst hki; exact qaM _ _ hltl
   ·rw [qaA _ (Ne.symm hki)]; exact hk'
  ·intro j hj hk
   by_cases hji:j=i
   ·subst hji; exact hF
   ·have hj0:=hj;rw [qaA _ (Ne.symm hji)] at hj
    refine hpres i j hlt (Ne.symm hji) (hk i (qaM _ _ hltl) (Ne.symm hji)) (by
     by_cases hc:(deepWaits ops 5 j).contains i=true
     ·have:=qbz (L:=fun j=>listed.getD j false=true) h.closed 5 j hj i (by simpa using hc);simp only [hunf] at this; cases this
     ·simpa using hc) _ _ _ _ hSt (h.facts j hj fun k hk' hkj=>?_)
    refine hk k ?_ hkj
    by_cases hki:k=i
    ·subst hki; exact qaM _ _ hltl
    ·rw [qaA _ (Ne.symm hki)]; exact hk'
 have hs:=hstep i o ho w vals h.c hini0 havail;unfold wpOp;simp only [ho];simp only [wpList] at hs;rw [hwant]
 split
 ·rename_i hwt
  rw [if_pos hwt] at hs
  rcases hs with hs | ⟨_,a₀,w₀,hq⟩
  case inr=>exact absurd hq.1 (by simp)
  refine .inl ?_;unfold Oper.wp at *;rw [hexec];generalize (execOp (putAll ops vals (waitsOf ops i) a0).eval o).run P w=r at *
  cases r with
  | ok n w' =>
   cases n <;> simp only [Oper.upon] at hs ⊢
   case value v=>exact hend v w' hs.2
   case skip=>exact hend _ w' hs.2
   case defer d =>
    obtain ⟨_,v,hv,_⟩:=hs;have:=congrArg Act.defers hv;rw [qbN,qbN] at this;exact absurd this (by simp)
   case enter f args =>
    refine Calls.mono hs fun e w'' he=>?_
    cases e with
    | returned v=>exact hend v w'' he.2
    | panicked c=>exact absurd he.1 (by simp)
    | outgrown=>obtain ⟨_,_,hq⟩:=he; exact absurd hq.1 (by simp)
   case row row args=>exact Rows.mono hs fun v w'' he=>hend v w'' he.2
  | halt x w' =>
   cases x <;> simp only [Oper.upon] at hs ⊢
   exact absurd hs.1 (by simp)
 ·rename_i hwt
  rw [if_neg hwt] at hs;exact hend _ _ hs.2
theorem count_set {l:Array Bool} {i:Nat} (hi:i<l.size) (hf:l.getD i false=false) {n:Nat} (hn:l.toList.countP (fun b=>!b)≤n+1):(l.setIfInBounds i true).toList.countP (fun b=>!b)≤n:=by
 have hf':l.toList[i]'(by simpa using hi)=false:=by simpa [hi] using hf
 rw [Array.toList_setIfInBounds,List.countP_set (by simpa using hi)];rw [hf',if_pos (by rfl),if_neg (by simp)];omega
theorem all_listed (hok:regionOk ops=true) {listed:Array Bool} (hs:listed.size=ops.size) (hr:Region.ready .any ops listed=[]):∀ n,∀ i,i<n→i<ops.size→listed.getD i false=true:=by
 intro n
 induction n with
 | zero=>intro i h; omega
 | succ n ih =>
  intro i hin hi
  by_cases hl:listed.getD i false=true
  ·exact hl
  ·exfalso
   have ho:ops[i]?=some ops[i]:=Array.getElem?_eq_getElem hi;have ok:=okAt hok ho
   have:i ∈ Region.ready .any ops listed:=by
    refine mem_ready.2 ⟨?_,ops[i],ho,fun e he hb=>?_⟩
    ·have:i<listed.size:=by rw [hs]; exact hi
     simp [this] at hl ⊢; exact hl
    ·have hlt:=ok.before e.on ((qek ho).2 ⟨e,he,hb,rfl⟩);exact ih e.on (by omega) (by omega)
   rw [hr] at this
   cases this
theorem qbG {id:Nat} {a0:Act} {w0:World} {Q:Exit→Act→World→Prop} (C:World→Prop) (I0:Bool→World→Prop) (ik:Bool→Nat→Bool) (F:Nat→(Nat→Value)→World→Prop) (St:Nat→World→World→Prop) (kills:Nat→Nat→Bool)
  (hm:P.follows .mixedOrders=true) (hok:regionOk ops=true) (hC:C w0.drew) (hI:∀ m,I0 m w0.drew) (hini:∀ m i,ik m i=false→∀ w w',St i w w'→I0 m w→I0 m w')
  (hpres:∀ i k,i<ops.size→i≠k→kills i k=false→(deepWaits ops 5 k).contains i=false→∀ vals v w w',St i w w'→F k vals w→F k (upd vals i v) w')
  (hstep:∀ i o,ops[i]?=some o→StepAt P ops a0 C I0 ik F St kills i o)
  (hfin:∀ w vals,C w→(∀ j,j<ops.size→aliveAt ops kills j=true→F j vals w)→Q .normal (putAll ops vals (List.range ops.size) a0) w) :
  (Code.region id ops true).wp P Q a0 w0:=by
 have hdist:∀ i j d,i≠j→dstAt ops i=some d→dstAt ops j≠some d:=fun i j d hij hd=>by
  have hil:=qdE hd;exact (okAt hok (Array.getElem?_eq_getElem hil)).dist j (Ne.symm hij) d hd
 have final:∀ listed a w vals,RI ops a0 C I0 ik F kills listed a w vals→Region.ready .any ops listed=[]→Q .normal a w:=by
  intro listed a w vals h hr;have hall:∀ j,j<ops.size→listed.getD j false=true:=fun j hj=>all_listed hok h.size hr (j+1) j (by omega) hj;obtain ⟨p1,p2,p3,p4⟩:=qb3 hdist vals (List.range ops.size) a0
  have ha:a=putAll ops vals (List.range ops.size) a0:=by
   have ht:a.tmps=(putAll ops vals (List.range ops.size) a0).tmps:=by
    apply Array.ext_getElem?;intro t
    by_cases hex:∃ j,dstAt ops j=some t
    ·obtain ⟨j,hj⟩:=hex;have hjl:=qdE hj
     by_cases hts:t<a0.tmps.size
     ·rw [h.done j (hall j hjl) t hj hts,p3 j (List.mem_range.2 hjl) t hj hts]
     ·rw [Array.getElem?_eq_none (by rw [h.tsize]; exact Nat.le_of_not_lt hts),Array.getElem?_eq_none (by rw [p1]; exact Nat.le_of_not_lt hts)]
    ·have hno:∀ j,dstAt ops j≠some t:=fun j e=>hex ⟨j,e⟩;rw [h.other t (fun j _=>hno j),p4 t (fun j _=>hno j)]
   have hd:a.defers=(putAll ops vals (List.range ops.size) a0).defers:=h.defers.trans p2.symm
   cases a
   simp only at ht hd;rw [ht,hd]
  rw [ha];refine hfin w vals h.c fun j hj hal=>h.facts j (hall j hj) fun k hk hkj=>?_
  have hkl:k<ops.size:=by
   rcases Nat.lt_or_ge k ops.size with h' | h'
   ·exact h'
   ·rw [← h.size] at h'; simp [Array.getElem?_eq_none h'] at hk
  have:=(List.all_eq_true.1 hal) k (List.mem_range.2 hkl)
  simpa [hkj] using this
 refine wp_region_any hm ?_
 have key:∀ (fuel:Nat) (listed:Array Bool) (a:Act) (w:World) (vals:Nat→Value),listed.toList.countP (fun b=>!b)≤fuel→RI ops a0 C I0 ik F kills listed a w vals→wpAny P .any ops Q fuel listed a w:=by
  intro fuel
  induction fuel with
  | zero =>
   intro listed a w vals hc h
   have hr:Region.ready .any ops listed=[]:=by
    refine List.eq_nil_iff_forall_not_mem.2 fun i hi=>?_;obtain ⟨hun,o,ho,_⟩:=mem_ready.1 hi;have hlt:i<listed.size:=by rw [h.size]; exact (Array.getElem?_eq_some_iff.1 ho).1
    have h0:listed.toList.countP (fun b=>!b)=0:=by omega
    rw [List.countP_eq_zero] at h0;have:=h0 (listed[i]) (by simp);simp [hlt] at hun;simp [hun] at this
   exact ⟨hr,final listed a w vals h hr⟩
  | succ fuel ih =>
   intro listed a w vals hc h;refine ⟨fun hr=>final listed a w vals h hr,fun i hi=>?_⟩;obtain ⟨hun,o,ho,_⟩:=mem_ready.1 hi;have hlt:i<listed.size:=by rw [h.size]; exact (Array.getElem?_eq_some_iff.1 ho).1
   refine wpOp_mono (fun a' w' ⟨vals',h'⟩=>ih _ _ _ vals' (count_set hlt (by simp [hlt] at hun ⊢; exact hun) hc) h') (h.step (Q:=Q) hok hini hpres hstep hi)
 refine key _ _ _ _ (fun _=>undef) ?_ ⟨by simp,rfl,rfl,?_,?_,?_,hC,fun m _=>hI m,?_⟩
 ·have:=List.countP_le_length (p:=fun b:Bool=>!b) (l:=(Array.replicate ops.size false).toList)
  simpa using this
 ·intro j hj; simp [Array.getElem?_replicate] at hj; split at hj <;> simp at hj
 ·intro t _; rfl
 ·intro j hj; simp [Array.getElem?_replicate] at hj; split at hj <;> simp at hj
 ·intro j hj; simp [Array.getElem?_replicate] at hj; split at hj <;> simp at hj
def puts (vals:Nat→Value):List (Nat × Option Tmp)→Act→Act
 | [],a=>a
 | (j,d) :: r,a=>puts vals r (a.put d (vals j))
def GoodEnd (o:Oper) (ai:Act) (R:Value→World→Prop):Exit→Act→World→Prop:=fun e a' w'=>e=.normal∧∃ v,a'=ai.put o.dst v∧R v w'
def fct (Fs:List ((Nat→Value)→World→Prop)) (i:Nat):(Nat→Value)→World→Prop:=(Fs[i]?).getD fun _ _=>True
def stp (Sts:List (World→World→Prop)) (i:Nat):World→World→Prop:=(Sts[i]?).getD Eq
def StepsL (p:Nat→Oper→Prop):Nat→List Oper→Prop
 | _,[]=>True
 | k,o :: r=>p k o∧StepsL p (k+1) r
theorem qcV {p:Nat→Oper→Prop}:∀ {l:List Oper} {k:Nat},StepsL p k l→∀ i o,l[i]?=some o→p (k+i) o
 | [],_,_,i,o,h=>by simp at h
 | o :: r,k,h,0,o',ho=>by simp at ho; subst ho; exact h.1
 | o :: r,k,h,i+1,o',ho=>by
  have:=qcV h.2 i o' (by simpa using ho)
  rwa [show k+1+i=k+(i+1) by omega] at this
def Keeps (kill skip:Nat→Bool) (i:Nat) (S:World→World→Prop):Nat→List ((Nat→Value)→World→Prop)→Prop
 | _,[]=>True
 | k,F :: r=>(i=k∨kill k=true∨skip k=true∨∀ vals v w w',S w w'→F vals w→F (upd vals i v) w')∧Keeps kill skip i S (k+1) r
theorem keeps_spec {kill skip:Nat→Bool} {i:Nat} {S:World→World→Prop}:∀ {Fs:List ((Nat→Value)→World→Prop)} {k:Nat},Keeps kill skip i S k Fs →
  ∀ j,i≠k+j→kill (k+j)=false→skip (k+j)=false→∀ vals v w w',S w w'→fct Fs j vals w→fct Fs j (upd vals i v) w'
 | [],_,_,j,_,_,_,vals,v,w,w',_,hf=>trivial
 | F :: r,k,h,0,hj,hk,hs,vals,v,w,w',hS,hf=>by
  rcases h.1 with h1 | h1 | h1 | h1
  ·exact absurd h1 hj
  ·simp only [Nat.add_zero] at hk; rw [hk] at h1; cases h1
  ·simp only [Nat.add_zero] at hs; rw [hs] at h1; cases h1
  ·exact h1 vals v w w' hS hf
 | F :: r,k,h,j+1,hj,hk,hs,vals,v,w,w',hS,hf=>by
  have e:k+(j+1)=k+1+j:=by omega
  rw [e] at hj hk hs;exact keeps_spec h.2 j hj hk hs vals v w w' hS hf
def KeepsL (kills skips:Nat→Nat→Bool) (Fs:List ((Nat→Value)→World→Prop)):Nat→List (World→World→Prop)→Prop
 | _,[]=>True
 | i,S :: r=>Keeps (kills i) (skips i) i S 0 Fs∧KeepsL kills skips Fs (i+1) r
theorem qcY {kills skips:Nat→Nat→Bool} {Fs:List ((Nat→Value)→World→Prop)}:∀ {Sts:List (World→World→Prop)} {i:Nat},KeepsL kills skips Fs i Sts →
  ∀ j k,i+j≠k→kills (i+j) k=false→skips (i+j) k=false→j<Sts.length→∀ vals v w w',stp Sts j w w'→fct Fs k vals w→fct Fs k (upd vals (i+j) v) w'
 | [],i,_,j,k,_,_,_,hl,_,_,_,_,_,_=>by simp at hl
 | S :: r,i,h,0,k,hj,hk,hs,_,vals,v,w,w',hS,hf=>by
  have:=keeps_spec h.1 k (by simpa using hj) (by simpa using hk) (by simpa using hs) vals v w w' hS;exact this hf
 | S :: r,i,h,j+1,k,hj,hk,hs,hl,vals,v,w,w',hS,hf=>by
  have e:i+(j+1)=i+1+j:=by omega
  rw [e] at hj hk hs ⊢;exact qcY h.2 j k hj hk hs (by simpa using hl) vals v w w' hS hf
def IniL (ik:Nat→Bool) (I0:World→Prop):Nat→List (World→World→Prop)→Prop
 | _,[]=>True
 | i,S :: r=>(ik i=true∨∀ w w',S w w'→I0 w→I0 w')∧IniL ik I0 (i+1) r
theorem qeq {ik:Nat→Bool} {I0:World→Prop}:∀ {Sts:List (World→World→Prop)} {i:Nat},IniL ik I0 i Sts→∀ j,ik (i+j)=false→∀ w w',stp Sts j w w'→I0 w→I0 w'
 | [],i,_,j,_,w,w',hS,h=>by
  have:w=w':=hS;subst this; exact h
 | S :: r,i,h,0,hj,w,w',hS,h0=>by
  rcases h.1 with h1 | h1
  ·simp only [Nat.add_zero] at hj; rw [hj] at h1; cases h1
  ·exact h1 w w' hS h0
 | S :: r,i,h,j+1,hj,w,w',hS,h0=>by
  have e:i+(j+1)=i+1+j:=by omega
  rw [e] at hj;exact qeq h.2 j hj w w' hS h0
theorem qaD {id:Nat} {l:List Oper} {a0:Act} {w0:World} {Q:Exit→Act→World→Prop} (C:World→Prop) (I0:Bool→World→Prop) (ik:Bool→Nat→Bool) (Fs:List ((Nat→Value)→World→Prop)) (Sts:List (World→World→Prop)) (kills:Nat→Nat→Bool) (ps:List (Nat × Option Tmp))
  (hm:P.follows .mixedOrders=true) (hok:regionOk l.toArray=true) (hlen:Sts.length=l.length) (hps:∀ vals,putAll l.toArray vals (List.range l.toArray.size) a0=puts vals ps a0) (hC:C w0.drew) (hI:∀ m,I0 m w0.drew) (hini:∀ m,IniL (ik m) (I0 m) 0 Sts)
  (hpres:KeepsL kills (fun i k=>(deepWaits l.toArray 5 k).contains i) Fs 0 Sts)
  (hstep:StepsL (StepAt P l.toArray a0 C I0 ik (fct Fs) (stp Sts) kills) 0 l)
  (hfin:∀ w vals,C w→(∀ j,j<l.toArray.size→aliveAt l.toArray kills j=true→fct Fs j vals w)→Q .normal (puts vals ps a0) w) :
  (Code.region id l.toArray true).wp P Q a0 w0 :=
 qbG C I0 ik (fct Fs) (stp Sts) kills hm hok hC hI (fun m i hi w w' hS h=>by
   have:=qeq (hini m) i (by simpa using hi) w w' hS;exact this h)
  (fun i k hil hik hk hs vals v w w' hS hf=>by
   have:=qcY hpres i k (by simpa using hik) (by simpa using hk) (by simpa using hs) (by rw [hlen]; simpa using hil) vals v w w' hS;rw [Nat.zero_add] at this;exact this hf)
  (fun i o ho=>by
   have:=qcV hstep i o (by simpa using ho)
   simpa using this)
  (fun w vals hc hf=>by rw [hps]; exact hfin w vals hc hf)
theorem qae (t:Array Value) (d:List Deferred) (i:Tmp) (v:Value):Act.put ⟨t,d⟩ (some i) v=⟨t.setIfInBounds i v,d⟩:=rfl
theorem qaa (a:Act) (v:Value):Act.put a none v=a:=rfl
def EndOf (E:Act→World→Prop):Exit→Act→World→Prop:=fun e a w=>e=.normal∧E a w
theorem EndOf.mk {E:Act→World→Prop} {a:Act} {w:World} (h:E a w):EndOf E .normal a w:=⟨rfl,h⟩
theorem qaf {a0:Act} {C:World→Prop} {I0:Bool→World→Prop} {ik:Bool→Nat→Bool} {F:Nat→(Nat→Value)→World→Prop} {St:Nat→World→World→Prop} {kills:Nat→Nat→Bool} {i:Nat} {o:Oper} (ps:List (Nat × Option Tmp))
  (hps:∀ vals,putAll ops vals (waitsOf ops i) a0=puts vals ps a0) (hg:o.guard=none)
  (h:∀ w vals,C w→(∀ m,availIni ops (ik m) i=true→I0 m w)→(∀ j,availAt ops kills j i=true→F j vals w) →
   ∀ E:Act→World→Prop,(∀ v w',F i (upd vals i v) w'→C w'→St i w w'→E ((puts vals ps a0).put o.dst v) w')→wpList P #[] (EndOf E) [o] (puts vals ps a0) w) :
  StepAt P ops a0 C I0 ik F St kills i o:=by
 intro w vals hc h0 hf;have h1:=h w vals hc h0 hf (fun a' w'=>∃ v,a'=(puts vals ps a0).put o.dst v∧F i (upd vals i v) w'∧C w'∧St i w w') fun v w' h1 h2 h3=>⟨v,rfl,h1,h2,h3⟩;rw [hps];show wpList P ops (EndOf fun a' w'=>∃ v,a'=(puts vals ps a0).put o.dst v∧F i (upd vals i v) w'∧C w'∧St i w w') [o] (puts vals ps a0) w;have hw:∀ (O:Array Oper) (t:Array Value),Region.wanted o (yielded O t)=true:=fun O t=>by simp [Region.wanted,hg]
 simp only [wpList,hw,if_true] at h1 ⊢;exact h1
theorem qb0 {a0:Act} {C:World→Prop} {I0:Bool→World→Prop} {ik:Bool→Nat→Bool} {F:Nat→(Nat→Value)→World→Prop} {St:Nat→World→World→Prop} {kills:Nat→Nat→Bool} {i:Nat} {o:Oper} (ps:List (Nat × Option Tmp))
  (hps:∀ vals,putAll ops vals (waitsOf ops i) a0=puts vals ps a0) (g:Nat) (t:Tmp) (want:Bool) (hg:o.guard=some (g,want)) (hd:dstAt ops g=some t)
  (hyes:∀ w vals,C w→(∀ m,availIni ops (ik m) i=true→I0 m w)→(∀ j,availAt ops kills j i=true→F j vals w)→(puts vals ps a0).tmps[t]?=some (.bool want) →
   ∀ E:Act→World→Prop,(∀ v w',F i (upd vals i v) w'→C w'→St i w w'→E ((puts vals ps a0).put o.dst v) w')→wpList P #[] (EndOf E) [{ o with guard:=none }] (puts vals ps a0) w)
  (hno:∀ w vals,C w→(∀ m,availIni ops (ik m) i=true→I0 m w)→(∀ j,availAt ops kills j i=true→F j vals w)→(puts vals ps a0).tmps[t]?≠some (.bool want)→F i (upd vals i undef) w∧St i w w) :
  StepAt P ops a0 C I0 ik F St kills i o:=by
 intro w vals hc h0 hf;rw [hps];show wpList P ops (EndOf fun a' w'=>∃ v,a'=(puts vals ps a0).put o.dst v∧F i (upd vals i v) w'∧C w'∧St i w w') [o] (puts vals ps a0) w;have hd':(ops[g]?).bind (·.dst)=some t:=hd
 by_cases hy:(puts vals ps a0).tmps[t]?=some (.bool want)
 ·have h1:=hyes w vals hc h0 hf hy (fun a' w'=>∃ v,a'=(puts vals ps a0).put o.dst v∧F i (upd vals i v) w'∧C w'∧St i w w') fun v w' h1 h2 h3=>⟨v,rfl,h1,h2,h3⟩;have hw:Region.wanted o (yielded ops (puts vals ps a0).tmps)=true:=by simp [Region.wanted,hg,yielded,hd',hy]
  have hw':∀ (O:Array Oper) (t:Array Value),Region.wanted { o with guard:=none } (yielded O t)=true:=fun O t=>by simp [Region.wanted]
  simp only [wpList,hw,hw',if_true] at h1 ⊢;have he:∀ ρ,execOp ρ { o with guard:=none }=execOp ρ o:=fun ρ=>rfl;have ha:∀ a w,Oper.asks P { o with guard:=none } a w=Oper.asks P o a w:=fun a w=>rfl;rw [ha] at h1;exact h1
 ·obtain ⟨hF,hS⟩:=hno w vals hc h0 hf hy
  have hw:¬ Region.wanted o (yielded ops (puts vals ps a0).tmps)=true:=by
   simp only [Region.wanted,hg,yielded,hd',Option.bind_some,beq_iff_eq];intro e;apply hy
   split at e
   ·rename_i b hb; simp at e; subst e; exact hb
   ·cases e
  simp only [wpList,if_neg hw];exact ⟨rfl,undef,rfl,hF,hc,hS⟩
end
end Go.Proofs.YtcbkaaodmjphdaaGreatDoor
namespace Go.Proofs.YtcbkaaodmjphdaaGreatDoor
set_option linter.unusedSimpArgs false
set_option linter.unusedVariables false
set_option maxRecDepth 100000
set_option maxHeartbeats 4000000
open Go.RowKit
section
variable {P:Program}
theorem wpList_open {w:World} {ops:Array Oper} {rest:List Oper} {o:Oper} {a:Act} {Q:Exit→Act→World→Prop}
  (hw:Region.wanted o (yielded ops a.tmps)=true) (h:wpList P ops Q ({ o with guard:=none } :: rest) a w):wpList P ops Q (o :: rest) a w:=by
 have hw':∀ (O:Array Oper) (t:Array Value),Region.wanted { o with guard:=none } (yielded O t)=true:=fun O t=>by simp [Region.wanted]
 simp only [wpList,hw,hw',if_true] at h ⊢;have ha:∀ a w,Oper.asks P { o with guard:=none } a w=Oper.asks P o a w:=fun a w=>rfl;rw [ha] at h;exact h
end
end Go.Proofs.YtcbkaaodmjphdaaGreatDoor
namespace Go.Proofs.YtcbkaaodmjphdaaGreatDoor
set_option linter.unusedSimpArgs false
set_option linter.unusedVariables false
set_option maxRecDepth 100000
set_option maxHeartbeats 4000000
section
variable {P:Program}
theorem qaZ (ops:Array Oper) (v1 v2:Nat→Value):∀ (l:List Nat) (a:Act),(∀ j ∈ l,v1 j=v2 j)→putAll ops v1 l a=putAll ops v2 l a
 | [],_,_=>rfl
 | j :: r,a,h=>by
  rw [putAll,putAll,h j (List.mem_cons_self ..)];exact qaZ ops v1 v2 r _ fun k hk=>h k (List.mem_cons_of_mem _ hk)
def DetStep (P:Program) (ops:Array Oper) (C D:World→Prop) (Φ:(Nat→Value)→Prop) (i:Nat) (a0:Act) (o:Oper) (v:Value):Prop :=
 ∀ vals,Φ vals→∀ w,C w→∀ E:Act→World→Prop,(∀ w',D w'→E ((putAll ops vals (waitsOf ops i) a0).put o.dst v) w')→wpList P ops (EndOf E) [o] (putAll ops vals (waitsOf ops i) a0) w
def DetL (P:Program) (ops:Array Oper) (C D:World→Prop) (a0:Act) (K:((Nat→Value)→Prop)→Prop):Nat→List Oper→((Nat→Value)→Prop)→Prop
 | _,[],Φ=>K Φ
 | i,[o],Φ=>∃ v,DetStep P ops C D Φ i a0 o v∧K fun vals=>Φ vals∧vals i=v
 | i,o :: r :: rest,Φ=>∃ v,DetStep P ops C C Φ i a0 o v∧DetL P ops C D a0 K (i+1) (r :: rest) fun vals=>Φ vals∧vals i=v
theorem detL_all {ops:Array Oper} {C D:World→Prop} {a0:Act} {K:((Nat→Value)→Prop)→Prop}:∀ (rest:List Oper) (i:Nat) (Φ:(Nat→Value)→Prop),
  (∀ v1 v2:Nat→Value,(∀ j,j<i→v1 j=v2 j)→Φ v1→Φ v2)→(∃ vals,Φ vals)→DetL P ops C D a0 K i rest Φ →
  ∃ (vs:Nat→Value) (Ψ:(Nat→Value)→Prop),K Ψ∧Φ vs∧(∀ vals,(∀ j,j<i+rest.length→vals j=vs j)→Ψ vals) ∧
   ∀ j o,rest[j]?=some o→∀ vals w,C w→(∀ k,k<i+j→vals k=vs k)→∀ E:Act→World→Prop,(∀ w',(if j+1=rest.length then D w' else C w')→E ((putAll ops vals (waitsOf ops (i+j)) a0).put o.dst (vs (i+j))) w')→wpList P ops (EndOf E) [o] (putAll ops vals (waitsOf ops (i+j)) a0) w
 | [],i,Φ,hΦ,⟨v0,h0⟩,h=>⟨v0,Φ,h,h0,fun vals hv=>hΦ _ _ (fun j hj=>(hv j (by simpa using hj)).symm) h0,fun j o ho=>by simp at ho⟩
 | [o],i,Φ,hΦ,⟨v0,h0⟩,⟨v,h1,h2⟩=>by
  refine ⟨upd v0 i v,_,h2,hΦ v0 _ (fun j hj=>by simp [upd,Nat.ne_of_lt hj]) h0,fun vals hv=>⟨hΦ v0 _ (fun j hj=>?_) h0,?_⟩,fun j o' ho w=>?_⟩
  ·have:=hv j (by simp; omega);rw [this]; simp [upd,Nat.ne_of_lt hj]
  ·have:=hv i (by simp);rw [this]; simp [upd]
  ·cases j with
   | zero =>
    simp at ho;subst ho;intro w' hc hv;have hΦv:Φ w:=hΦ v0 _ (fun j hj=>by rw [hv j (by omega)]; simp [upd,Nat.ne_of_lt hj]) h0;intro E hE;refine h1 w hΦv w' hc E fun w'' hd=>?_;have:=hE w'' (by simpa using hd)
    simpa [upd] using this
   | succ j=>simp at ho
 | o :: r :: rest,i,Φ,hΦ,⟨v0,h0⟩,⟨v,h1,h2⟩=>by
  obtain ⟨vs,Ψ,k1,k2,k3,k4⟩:=detL_all (r :: rest) (i+1) (fun vals=>Φ vals∧vals i=v)
   (fun v1 v2 hv hp=>⟨hΦ v1 v2 (fun j hj=>hv j (by omega)) hp.1,by rw [← hv i (by omega)]; exact hp.2⟩)
   ⟨upd v0 i v,hΦ v0 _ (fun j hj=>by simp [upd,Nat.ne_of_lt hj]) h0,by simp [upd]⟩ h2
  refine ⟨vs,Ψ,k1,k2.1,fun vals hv=>k3 vals fun j hj=>hv j (by simp only [List.length_cons] at hj ⊢; omega),fun j o' ho vals w hc hv=>?_⟩
  cases j with
  | zero =>
   simp at ho;subst ho;have hΦv:Φ vals:=hΦ vs _ (fun j hj=>(hv j (by omega)).symm) k2.1;intro E hE;refine h1 vals hΦv w hc E fun w'' hd=>?_;have:¬ 0+1=(o :: r :: rest).length:=by simp
   have h4:=hE w'' (by rw [if_neg this]; exact hd);rw [Nat.add_zero,k2.2] at h4;exact h4
  | succ j =>
   have h3:=k4 j o' (by simpa using ho) vals w hc (fun k hk=>hv k (by omega));intro E hE;rw [show i+(j+1)=i+1+j by omega] at hE ⊢;refine h3 E fun w'' hd=>hE w'' ?_;have e:(j+1+1=(o :: r :: rest).length)=(j+1=(r :: rest).length):=by simp
   simp only [e];exact hd
theorem qal {id:Nat} {l:List Oper} {a0:Act} {w0:World} {Q:Exit→Act→World→Prop} (C D:World→Prop) (ps:List (Nat × Option Tmp))
  (hm:P.follows .mixedOrders=true) (hok:regionOk l.toArray=true) (hpos:0<l.length)
  (hlast:((List.range (l.length - 1)).all fun i=>(deepWaits l.toArray 5 (l.length - 1)).contains i)=true)
  (hps:∀ vals,putAll l.toArray vals (List.range l.toArray.size) a0=puts vals ps a0) (hC:C w0.drew)
  (h:DetL P l.toArray C D a0 (fun Φ=>∀ vals,Φ vals→∀ w,D w→Q .normal (puts vals ps a0) w) 0 l (fun _=>True)) :
  (Code.region id l.toArray true).wp P Q a0 w0:=by
 obtain ⟨vs,Ψ,k1,_,k3,k4⟩:=detL_all (P:=P) l 0 (fun _=>True) (fun _ _ _ h=>h) ⟨fun _=>undef,trivial⟩ h
 have hafter:∀ i,i<l.length→i≠l.length - 1→(deepWaits l.toArray 5 (l.length - 1)).contains i=true:=fun i hi hne =>
  (List.all_eq_true.1 hlast) i (List.mem_range.2 (by omega))
 refine qbG (fun _=>True) (fun _=>C) (fun _ i=>i == l.length - 1) (fun i vals w=>vals i=vs i∧(i=l.length - 1→D w)) (fun i w w'=>if i=l.length - 1 then True else (C w→C w')) (fun _ _=>false) hm hok trivial (fun _=>hC) ?_ ?_ ?_ ?_
 ·intro _ i hi w w' hS hc;have hne:¬ i=l.length - 1:=by simpa using hi
  rw [if_neg hne] at hS;exact hS hc
 ·intro i k hi hik _ hdk vals v w w' _ hF;refine ⟨by simp [upd,Ne.symm hik,hF.1],fun hk=>?_⟩;subst hk;have:=hafter i (by simpa using hi) hik;rw [this] at hdk
  cases hdk
 ·intro i o ho w vals _ hini hav;have hil:i<l.length:=by have:=(Array.getElem?_eq_some_iff.1 ho).1; simpa using this
  have hok1:=okAt hok ho
  have hcw:C w:=hini false (by
   unfold availIni;rw [List.all_eq_true];intro k hk;have hk':k<l.length:=by simpa using hk
   by_cases hki:k=i
   ·simp [hki]
   ·by_cases hkl:k=l.length - 1
    ·have:=hafter i hil (by omega);subst hkl;simp only [this,Bool.or_true]
    ·simp [hkl])
  have hvals:∀ j ∈ waitsOf l.toArray i,vals j=vs j:=fun j hj=>by
   have h1:availAt l.toArray (fun _ _=>false) j i=true:=by
    unfold availAt;simp [hj]
   exact (hav j h1).1
  have hcon:putAll l.toArray vals (waitsOf l.toArray i) a0=putAll l.toArray vs (waitsOf l.toArray i) a0:=qaZ _ _ _ _ _ hvals;have h3:=k4 i o (by simpa using ho) vs w hcw (fun _ _=>rfl);rw [Nat.zero_add] at h3;rw [hcon];refine h3 (fun a' w'=>∃ v,a'=(putAll l.toArray vs (waitsOf l.toArray i) a0).put o.dst v∧(upd vals i v i=vs i∧(i=l.length - 1→D w'))∧True∧(if i=l.length - 1 then True else (C w→C w'))) fun w' hd=>?_;refine ⟨vs i,rfl,⟨by simp [upd],fun hi=>?_⟩,trivial,?_⟩
  ·rw [if_pos (by omega)] at hd; exact hd
  ·by_cases hi:i=l.length - 1
   ·rw [if_pos hi]; trivial
   ·rw [if_neg hi];intro _;rw [if_neg (by omega)] at hd; exact hd
 ·intro w vals _ hF;rw [hps];have hal:∀ j,aliveAt l.toArray (fun _ _=>false) j=true:=fun j=>by simp [aliveAt]
  have hD:D w:=(hF (l.length - 1) (by simp; omega) (hal _)).2 rfl;exact k1 vals (k3 vals fun j hj=>(hF j (by simpa using hj) (hal _)).1) w hD
def tailP (P:Program) (ops:Array Oper) (a0:Act) (Kf:(Nat→Value)→World→Prop):Nat→List Oper→(Nat→Value)→World→Prop
 | _,[],vals,w=>Kf vals w
 | i,o :: r,vals,w=>∀ E:Act→World→Prop,(∀ v w',tailP P ops a0 Kf (i+1) r (upd vals i v) w'→E ((putAll ops vals (waitsOf ops i) a0).put o.dst v) w')→wpList P ops (EndOf E) [o] (putAll ops vals (waitsOf ops i) a0) w
def mergeV (d:Nat) (vs vals:Nat→Value):Nat→Value:=fun j=>if j<d then vs j else vals j
theorem qdv {d i:Nat} (vs vals:Nat→Value) (v:Value) (h:d≤i):mergeV d vs (upd vals i v)=upd (mergeV d vs vals) i v:=by
 funext j
 unfold mergeV upd
 by_cases h1:j=i
 ·subst h1;have:¬ j<d:=by omega
  simp [this]
 ·simp [h1]
theorem wp_region_tail {id:Nat} {l:List Oper} {a0:Act} {w0:World} {Q:Exit→Act→World→Prop} (C:World→Prop) (d:Nat) (ps:List (Nat × Option Tmp))
  (hm:P.follows .mixedOrders=true) (hok:regionOk l.toArray=true) (hd:d<l.length)
  (hlast:((List.range l.length).all fun k=>decide (k<d) || (((List.range k).all fun i=>(deepWaits l.toArray 5 k).contains i) && (k == d || (waitsOf l.toArray k).contains (k - 1))))=true)
  (hps:∀ vals,putAll l.toArray vals (List.range l.toArray.size) a0=puts vals ps a0) (hC:C w0.drew)
  (h:DetL P l.toArray C C a0 (fun Φ=>∀ vals,Φ vals→∀ w,C w→tailP P l.toArray a0 (fun vals w=>Q .normal (puts vals ps a0) w) d (l.drop d) vals w) 0 (l.take d) (fun _=>True)) :
  (Code.region id l.toArray true).wp P Q a0 w0:=by
 obtain ⟨vs,Ψ,k1,_,k3,k4⟩:=detL_all (P:=P) (l.take d) 0 (fun _=>True) (fun _ _ _ h=>h) ⟨fun _=>undef,trivial⟩ h;have htl:(l.take d).length=d:=by rw [List.length_take]; omega
 rw [htl] at k4;simp only [Nat.zero_add,htl] at k3 k4
 have hdeep:∀ k,k<l.length→d≤k→∀ i,i<k→(deepWaits l.toArray 5 k).contains i=true:=fun k hk hdk i hi=>by
  have h1:=(List.all_eq_true.1 hlast) k (List.mem_range.2 hk);simp only [Bool.or_eq_true,decide_eq_true_eq,Bool.and_eq_true] at h1
  rcases h1 with h1 | h1
  ·omega
  ·exact (List.all_eq_true.1 h1.1) i (List.mem_range.2 hi)
 have hprev:∀ k,k<l.length→d<k→(waitsOf l.toArray k).contains (k - 1)=true:=fun k hk hdk=>by
  have h1:=(List.all_eq_true.1 hlast) k (List.mem_range.2 hk);simp only [Bool.or_eq_true,decide_eq_true_eq,Bool.and_eq_true,beq_iff_eq] at h1
  rcases h1 with h1 | ⟨_,h1 | h1⟩
  ·omega
  ·omega
  ·exact h1
 let Kf:(Nat→Value)→World→Prop:=fun vals w=>Q .normal (puts vals ps a0) w
 let kills:Nat→Nat→Bool:=fun i k=>decide (d≤k) && (decide (k<i) || decide (l.length≤k))
 refine qbG (fun _=>True) (fun _=>C) (fun _ i=>decide (d≤i))
  (fun i vals w=>if i<d then vals i=vs i else tailP P l.toArray a0 Kf (i+1) (l.drop (i+1)) (mergeV d vs vals) w)
  (fun i w w'=>if d≤i then True else (C w→C w')) kills hm hok trivial (fun _=>hC) ?_ ?_ ?_ ?_
 ·intro _ i hi w w' hS hc;have hne:¬ d≤i:=by simpa using hi
  rw [if_neg hne] at hS;exact hS hc
 ·intro i k hi hik hk hdk vals v w w' _ hF
  by_cases hkd:k<d
  ·simp only [hkd,if_true] at hF ⊢;simp [upd,Ne.symm hik,hF]
  ·exfalso
   have hki:¬ k<i:=by
    intro hlt
    have h9:kills i k=true:=by
     have a1:d≤k:=by omega
     simp [kills,a1,hlt]
    rw [h9] at hk; cases hk
   have hkl:k<l.length∨l.length≤k:=Nat.lt_or_ge _ _
   rcases hkl with hkl | hkl
   ·have:=hdeep k hkl (by omega) i (by omega);rw [this] at hdk; cases hdk
   ·have h9:kills i k=true:=by
     have a1:d≤k:=by omega
     simp [kills,a1,hkl]
    rw [h9] at hk; cases hk
 ·intro i o ho w vals _ hini hav;have hil:i<l.length:=by have:=(Array.getElem?_eq_some_iff.1 ho).1; simpa using this
  have hok1:=okAt hok ho
  by_cases hid:i<d
  ·have hcw:C w:=hini false (by
    unfold availIni;rw [List.all_eq_true];intro k hk;have hk':k<l.length:=by simpa using hk
    by_cases hki:k=i
    ·simp [hki]
    ·by_cases hkd:d≤k
     ·have:=hdeep k hk' hkd i (by omega);simp only [this,Bool.or_true]
     ·simp [hkd])
   have hvals:∀ j ∈ waitsOf l.toArray i,vals j=vs j:=fun j hj=>by
    have hji:j<d:=by
     have:=hok1.before j hj;omega
    have h1:availAt l.toArray kills j i=true:=by
     unfold availAt;simp only [kills,Bool.and_eq_true];refine ⟨by simpa using hj,?_⟩;rw [List.all_eq_true];intro k _;have:¬ d≤j:=by omega
     simp [this]
    have:=hav j h1;dsimp only at this;rw [if_pos hji] at this;exact this
   have hcon:putAll l.toArray vals (waitsOf l.toArray i) a0=putAll l.toArray vs (waitsOf l.toArray i) a0:=qaZ _ _ _ _ _ hvals;have ho2:(l.take d)[i]?=some o:=by rw [List.getElem?_take,if_pos hid]; simpa using ho
   have h3:=k4 i o ho2 vs w hcw (fun _ _=>rfl);rw [hcon];refine h3 _ fun w' hd'=>?_;refine ⟨vs i,rfl,?_,trivial,?_⟩
   ·dsimp only; rw [if_pos hid]; simp [upd]
   ·have hcw':C w':=by
     by_cases he:i+1=d
     ·rw [if_pos he] at hd'; exact hd'
     ·rw [if_neg he] at hd'; exact hd'
    dsimp only;rw [if_neg (by omega)];exact fun _=>hcw'
  ·have hget:l.drop i=o :: l.drop (i+1):=by
    have h1:l[i]?=some o:=by simpa using ho
    have h2:=List.drop_eq_getElem_cons hil;rw [List.getElem?_eq_getElem hil] at h1;rw [h2,Option.some.inj h1]
   have hvals:∀ j ∈ waitsOf l.toArray i,vals j=mergeV d vs vals j:=fun j hj=>by
    unfold mergeV
    split
    ·rename_i hjd
     have h1:availAt l.toArray kills j i=true:=by
      unfold availAt;simp only [kills,Bool.and_eq_true];refine ⟨by simpa using hj,?_⟩;rw [List.all_eq_true];intro k _;have:¬ d≤j:=by omega
      simp [this]
     have:=hav j h1;dsimp only at this;rw [if_pos hjd] at this;exact this
    ·rfl
   have hcon:putAll l.toArray vals (waitsOf l.toArray i) a0=putAll l.toArray (mergeV d vs vals) (waitsOf l.toArray i) a0:=qaZ _ _ _ _ _ hvals
   have htail:tailP P l.toArray a0 Kf i (l.drop i) (mergeV d vs vals) w:=by
    by_cases he:i=d
    ·subst he
     have hcw:C w:=hini false (by
      unfold availIni;rw [List.all_eq_true];intro k hk;have hk':k<l.length:=by simpa using hk
      by_cases hki:k=i
      ·simp [hki]
      ·by_cases hkd:i≤k
       ·have:=hdeep k hk' hkd i (by omega);simp only [this,Bool.or_true]
       ·simp [hkd])
     exact k1 _ (k3 _ fun j hj=>by simp [mergeV,hj]) w hcw
    ·have hav1:availAt l.toArray kills (i - 1) i=true:=by
      unfold availAt;rw [Bool.and_eq_true];refine ⟨hprev i hil (by omega),?_⟩;rw [List.all_eq_true];intro k hk;have hk':k<l.length:=by simpa using hk
      by_cases hki:k=i
      ·simp [hki]
      ·by_cases hki2:i<k
       ·have:=hdeep k hk' (by omega) i hki2;simp only [this,Bool.or_true]
       ·have:¬ i - 1<k∨k=i - 1:=by omega
        rcases this with h1 | h1
        ·have h8:¬ l.length≤i - 1:=by omega
         simp [kills,h1,h8]
        ·simp [h1]
     have:=hav (i - 1) hav1;dsimp only at this;rw [if_neg (by omega),show i - 1+1=i by omega] at this;exact this
   rw [hget] at htail;rw [hcon];refine htail _ fun v w' ht=>?_;refine ⟨v,rfl,?_,trivial,?_⟩
   ·dsimp only;rw [if_neg hid,qdv _ _ _ (by omega)];exact ht
   ·dsimp only; rw [if_pos (by omega)]; trivial
 ·intro w vals _ hF;have hn1:l.length - 1<l.length:=by omega
  have halive:aliveAt l.toArray kills (l.length - 1)=true:=by
   unfold aliveAt;rw [List.all_eq_true];intro k hk;have hk':k<l.length:=by simpa using hk
   have:¬ l.length - 1<k:=by omega
   have h8:¬ l.length≤l.length - 1:=by omega
   simp [kills,this,h8]
  have h1:=hF (l.length - 1) (by simpa using hn1) halive;rw [if_neg (by omega),show l.length - 1+1=l.length by omega,List.drop_length] at h1
  have hcon:putAll l.toArray vals (List.range l.toArray.size) a0=putAll l.toArray (mergeV d vs vals) (List.range l.toArray.size) a0:=qaZ _ _ _ _ _ fun j hj=>by
   unfold mergeV
   split
   ·rename_i hjd
    have hal:aliveAt l.toArray kills j=true:=by
     unfold aliveAt;rw [List.all_eq_true];intro k _;have:¬ d≤j:=by omega
     simp [kills,this]
    have:=hF j (by simpa using (List.mem_range.1 hj)) hal;rw [if_pos hjd] at this;exact this
   ·rfl
  rw [hcon,hps];exact h1
section
variable {ops:Array Oper} {C D:World→Prop} {a0:Act} {K:((Nat→Value)→Prop)→Prop} {i:Nat} {Φ:(Nat→Value)→Prop} {o:Oper}
theorem dP {v:Value} (ps:List (Nat × Option Tmp)) (hps:∀ vals,putAll ops vals (waitsOf ops i) a0=puts vals ps a0) (hg:o.guard=none)
  (h:∀ vals,Φ vals→∀ w,C w→∀ E:Act→World→Prop,(∀ w',D w'→E ((puts vals ps a0).put o.dst v) w')→wpList P #[] (EndOf E) [o] (puts vals ps a0) w):DetStep P ops C D Φ i a0 o v:=by
 intro vals hp w hc E hE;rw [hps] at hE ⊢;have h1:=h vals hp w hc E hE;have hw:∀ (O:Array Oper) (t:Array Value),Region.wanted o (yielded O t)=true:=fun O t=>by simp [Region.wanted,hg]
 simp only [wpList,hw,if_true] at h1 ⊢;exact h1
theorem dY {v:Value} (ps:List (Nat × Option Tmp)) (hps:∀ vals,putAll ops vals (waitsOf ops i) a0=puts vals ps a0) (g:Nat) (t:Tmp) (want:Bool) (hg:o.guard=some (g,want)) (hd:dstAt ops g=some t)
  (hy:∀ vals,Φ vals→(puts vals ps a0).tmps[t]?=some (.bool want))
  (h:∀ vals,Φ vals→∀ w,C w→∀ E:Act→World→Prop,(∀ w',D w'→E ((puts vals ps a0).put o.dst v) w')→wpList P #[] (EndOf E) [{ o with guard:=none }] (puts vals ps a0) w):DetStep P ops C D Φ i a0 o v:=by
 intro vals hp w hc E hE;rw [hps] at hE ⊢;have h1:=h vals hp w hc E hE;have hd':(ops[g]?).bind (·.dst)=some t:=hd;have hw:Region.wanted o (yielded ops (puts vals ps a0).tmps)=true:=by simp [Region.wanted,hg,yielded,hd',hy vals hp]
 have hw':∀ (O:Array Oper) (t:Array Value),Region.wanted { o with guard:=none } (yielded O t)=true:=fun O t=>by simp [Region.wanted]
 simp only [wpList,hw,hw',if_true] at h1 ⊢;have ha:∀ a w,Oper.asks P { o with guard:=none } a w=Oper.asks P o a w:=fun a w=>rfl;rw [ha] at h1;exact h1
theorem detStep_no (ps:List (Nat × Option Tmp)) (hps:∀ vals,putAll ops vals (waitsOf ops i) a0=puts vals ps a0) (g:Nat) (t:Tmp) (want:Bool) (hg:o.guard=some (g,want)) (hd:dstAt ops g=some t)
  (hy:∀ vals,Φ vals→(puts vals ps a0).tmps[t]?=some (.bool !want)) (hCD:∀ w,C w→D w):DetStep P ops C D Φ i a0 o undef:=by
 intro vals hp w hc E hE;rw [hps] at hE ⊢;have hd':(ops[g]?).bind (·.dst)=some t:=hd
 have hw:¬ Region.wanted o (yielded ops (puts vals ps a0).tmps)=true:=by
  simp [Region.wanted,hg,yielded,hd',hy vals hp]
 simp only [wpList,if_neg hw];exact ⟨rfl,hE w (hCD w hc)⟩
theorem qa9 {Kf:(Nat→Value)→World→Prop} {r:List Oper} {vals:Nat→Value} {w:World} (ps:List (Nat × Option Tmp)) (hps:∀ vals,putAll ops vals (waitsOf ops i) a0=puts vals ps a0) (hg:o.guard=none)
  (h:∀ E:Act→World→Prop,(∀ v w',tailP P ops a0 Kf (i+1) r (upd vals i v) w'→E ((puts vals ps a0).put o.dst v) w')→wpList P #[] (EndOf E) [o] (puts vals ps a0) w):tailP P ops a0 Kf i (o :: r) vals w:=by
 intro E hE;rw [hps] at hE ⊢;have h1:=h E hE;have hw:∀ (O:Array Oper) (t:Array Value),Region.wanted o (yielded O t)=true:=fun O t=>by simp [Region.wanted,hg]
 simp only [wpList,hw,if_true] at h1 ⊢;exact h1
theorem qcJ {Kf:(Nat→Value)→World→Prop} {vals:Nat→Value} {w:World} (h:Kf vals w):tailP P ops a0 Kf i [] vals w:=h
theorem qay (vals:Nat→Value) (i:Nat) (v:Value):upd vals i v i=v:=if_pos rfl
theorem upd_ne {vals:Nat→Value} {i j:Nat} {v:Value} (h:j≠i):upd vals i v j=vals j:=if_neg h
theorem yN_ {v:Value} {r:Oper} {rest:List Oper} (hs:DetStep P ops C C Φ i a0 o v) (h:DetL P ops C D a0 K (i+1) (r :: rest) fun vals=>Φ vals∧vals i=v):DetL P ops C D a0 K i (o :: r :: rest) Φ:=⟨v,hs,h⟩
theorem yL_ {v:Value} (hs:DetStep P ops C D Φ i a0 o v) (h:K fun vals=>Φ vals∧vals i=v):DetL P ops C D a0 K i [o] Φ:=⟨v,hs,h⟩
end
end
section
variable {P:Program}
def DetStepQ (P:Program) (ops:Array Oper) (C:World→Prop) (p:Bool) (Φ:(Nat→Value)→Prop) (i:Nat) (a0:Act) (o:Oper) (v:Value):Prop :=
 ∀ vals,Φ vals→∀ w,(p=false→C w)→∀ E:Act→World→Prop,(∀ w',(if p=true then w'=w else C w')→E ((putAll ops vals (waitsOf ops i) a0).put o.dst v) w')→wpList P ops (EndOf E) [o] (putAll ops vals (waitsOf ops i) a0) w
def DetQ (P:Program) (ops:Array Oper) (C:World→Prop) (pu:Nat→Bool) (a0:Act) (K:((Nat→Value)→Prop)→Prop):Nat→List Oper→((Nat→Value)→Prop)→Prop
 | _,[],Φ=>K Φ
 | i,o :: rest,Φ=>∃ v,DetStepQ P ops C (pu i) Φ i a0 o v∧DetQ P ops C pu a0 K (i+1) rest fun vals=>Φ vals∧vals i=v
theorem detQ_all {ops:Array Oper} {C:World→Prop} {pu:Nat→Bool} {a0:Act} {K:((Nat→Value)→Prop)→Prop}:∀ (rest:List Oper) (i:Nat) (Φ:(Nat→Value)→Prop),
  (∀ v1 v2:Nat→Value,(∀ j,j<i→v1 j=v2 j)→Φ v1→Φ v2)→(∃ vals,Φ vals)→DetQ P ops C pu a0 K i rest Φ →
  ∃ (vs:Nat→Value) (Ψ:(Nat→Value)→Prop),K Ψ∧Φ vs∧(∀ vals,(∀ j,j<i+rest.length→vals j=vs j)→Ψ vals) ∧
   ∀ j o,rest[j]?=some o→∀ vals w,(pu (i+j)=false→C w)→(∀ k,k<i+j→vals k=vs k)→∀ E:Act→World→Prop,(∀ w',(if pu (i+j)=true then w'=w else C w')→E ((putAll ops vals (waitsOf ops (i+j)) a0).put o.dst (vs (i+j))) w')→wpList P ops (EndOf E) [o] (putAll ops vals (waitsOf ops (i+j)) a0) w
 | [],i,Φ,hΦ,⟨v0,h0⟩,h=>⟨v0,Φ,h,h0,fun vals hv=>hΦ _ _ (fun j hj=>(hv j (by simpa using hj)).symm) h0,fun j o ho=>by simp at ho⟩
 | o :: rest,i,Φ,hΦ,⟨v0,h0⟩,⟨v,h1,h2⟩=>by
  obtain ⟨vs,Ψ,k1,k2,k3,k4⟩:=detQ_all rest (i+1) (fun vals=>Φ vals∧vals i=v)
   (fun v1 v2 hv hp=>⟨hΦ v1 v2 (fun j hj=>hv j (by omega)) hp.1,by rw [← hv i (by omega)]; exact hp.2⟩)
   ⟨upd v0 i v,hΦ v0 _ (fun j hj=>by simp [upd,Nat.ne_of_lt hj]) h0,by simp [upd]⟩ h2
  refine ⟨vs,Ψ,k1,k2.1,fun vals hv=>k3 vals fun j hj=>hv j (by simp only [List.length_cons] at hj ⊢; omega),fun j o' ho vals w hc hv=>?_⟩
  cases j with
  | zero =>
   simp at ho;subst ho;have hΦv:Φ vals:=hΦ vs _ (fun j hj=>(hv j (by omega)).symm) k2.1;intro E hE;refine h1 vals hΦv w hc E fun w'' hd=>?_;have h4:=hE w'' hd;rw [Nat.add_zero,k2.2] at h4;exact h4
  | succ j =>
   rw [show i+(j+1)=i+1+j by omega] at hc hv ⊢;exact k4 j o' (by simpa using ho) vals w hc hv
theorem qbe {id:Nat} {l:List Oper} {a0:Act} {w0:World} {Q:Exit→Act→World→Prop} (C:World→Prop) (pu:Nat→Bool) (d:Nat) (ps:List (Nat × Option Tmp))
  (hm:P.follows .mixedOrders=true) (hok:regionOk l.toArray=true) (hd:d<l.length)
  (hlast:((List.range l.length).all fun k=>decide (k<d) || (((List.range k).all fun i=>(deepWaits l.toArray 5 k).contains i || (pu i && decide (i<d))) && (k == d || (waitsOf l.toArray k).contains (k - 1))))=true)
  (hps:∀ vals,putAll l.toArray vals (List.range l.toArray.size) a0=puts vals ps a0) (hC:C w0.drew)
  (h:DetQ P l.toArray C pu a0 (fun Φ=>∀ vals,Φ vals→∀ w,C w→tailP P l.toArray a0 (fun vals w=>Q .normal (puts vals ps a0) w) d (l.drop d) vals w) 0 (l.take d) (fun _=>True)) :
  (Code.region id l.toArray true).wp P Q a0 w0:=by
 obtain ⟨vs,Ψ,k1,_,k3,k4⟩:=detQ_all (P:=P) (l.take d) 0 (fun _=>True) (fun _ _ _ h=>h) ⟨fun _=>undef,trivial⟩ h;have htl:(l.take d).length=d:=by rw [List.length_take]; omega
 simp only [Nat.zero_add,htl] at k3 k4
 have hdeep:∀ k,k<l.length→d≤k→∀ i,i<k→(deepWaits l.toArray 5 k).contains i=true∨(pu i=true∧i<d):=fun k hk hdk i hi=>by
  have h1:=(List.all_eq_true.1 hlast) k (List.mem_range.2 hk);simp only [Bool.or_eq_true,decide_eq_true_eq,Bool.and_eq_true] at h1
  rcases h1 with h1 | h1
  ·omega
  ·have h2:=(List.all_eq_true.1 h1.1) i (List.mem_range.2 hi)
   simpa only [Bool.or_eq_true,Bool.and_eq_true,decide_eq_true_eq] using h2
 have hprev:∀ k,k<l.length→d<k→(waitsOf l.toArray k).contains (k - 1)=true:=fun k hk hdk=>by
  have h1:=(List.all_eq_true.1 hlast) k (List.mem_range.2 hk);simp only [Bool.or_eq_true,decide_eq_true_eq,Bool.and_eq_true,beq_iff_eq] at h1
  rcases h1 with h1 | ⟨_,h1 | h1⟩
  ·omega
  ·omega
  ·exact h1
 let Kf:(Nat→Value)→World→Prop:=fun vals w=>Q .normal (puts vals ps a0) w
 let kills:Nat→Nat→Bool:=fun i k=>decide (d≤k) && (decide (k<i) || decide (l.length≤k))
 refine qbG (fun _=>True) (fun _=>C) (fun _ i=>decide (d≤i))
  (fun i vals w=>if i<d then vals i=vs i else tailP P l.toArray a0 Kf (i+1) (l.drop (i+1)) (mergeV d vs vals) w)
  (fun i w w'=>if d≤i then True else if pu i=true then w'=w else (C w→C w')) kills hm hok trivial (fun _=>hC) ?_ ?_ ?_ ?_
 ·intro _ i hi w w' hS hc;have hne:¬ d≤i:=by simpa using hi
  rw [if_neg hne] at hS
  by_cases hp:pu i=true
  ·rw [if_pos hp] at hS; rw [hS]; exact hc
  ·rw [if_neg hp] at hS; exact hS hc
 ·intro i k hi hik hk hdk vals v w w' hS hF
  by_cases hkd:k<d
  ·simp only [hkd,if_true] at hF ⊢;simp [upd,Ne.symm hik,hF]
  ·have hki:¬ k<i:=by
    intro hlt
    have h9:kills i k=true:=by
     have a1:d≤k:=by omega
     simp [kills,a1,hlt]
    rw [h9] at hk; cases hk
   have hkl:k<l.length∨l.length≤k:=Nat.lt_or_ge _ _
   rcases hkl with hkl | hkl
   ·rcases hdeep k hkl (by omega) i (by omega) with h8 | ⟨h8,h7⟩
    ·rw [h8] at hdk; cases hdk
    ·simp only [hkd,if_false] at hF ⊢;rw [if_neg (by omega),if_pos h8] at hS;subst hS
     have e:mergeV d vs (upd vals i v)=mergeV d vs vals:=by
      funext j
      unfold mergeV upd
      by_cases h1:j=i
      ·subst h1; simp [h7]
      ·simp [h1]
     rw [e]; exact hF
   ·have h9:kills i k=true:=by
     have a1:d≤k:=by omega
     simp [kills,a1,hkl]
    rw [h9] at hk; cases hk
 ·intro i o ho w vals _ hini hav;have hil:i<l.length:=by have:=(Array.getElem?_eq_some_iff.1 ho).1; simpa using this
  have hok1:=okAt hok ho
  by_cases hid:i<d
  ·have hcw:pu i=false→C w:=fun hpf=>hini false (by
    unfold availIni;rw [List.all_eq_true];intro k hk;have hk':k<l.length:=by simpa using hk
    by_cases hki:k=i
    ·simp [hki]
    ·by_cases hkd:d≤k
     ·rcases hdeep k hk' hkd i (by omega) with h8 | ⟨h8,_⟩
      ·simp only [h8,Bool.or_true]
      ·rw [h8] at hpf; cases hpf
     ·simp [hkd])
   have hvals:∀ j ∈ waitsOf l.toArray i,vals j=vs j:=fun j hj=>by
    have hji:j<d:=by
     have:=hok1.before j hj;omega
    have h1:availAt l.toArray kills j i=true:=by
     unfold availAt;simp only [kills,Bool.and_eq_true];refine ⟨by simpa using hj,?_⟩;rw [List.all_eq_true];intro k _;have:¬ d≤j:=by omega
     simp [this]
    have:=hav j h1;dsimp only at this;rw [if_pos hji] at this;exact this
   have hcon:putAll l.toArray vals (waitsOf l.toArray i) a0=putAll l.toArray vs (waitsOf l.toArray i) a0:=qaZ _ _ _ _ _ hvals;have ho2:(l.take d)[i]?=some o:=by rw [List.getElem?_take,if_pos hid]; simpa using ho
   have h3:=k4 i o ho2 vs w hcw (fun _ _=>rfl);rw [hcon];refine h3 _ fun w' hd'=>?_;refine ⟨vs i,rfl,?_,trivial,?_⟩
   ·dsimp only; rw [if_pos hid]; simp [upd]
   ·dsimp only;rw [if_neg (by omega)]
    by_cases hp:pu i=true
    ·rw [if_pos hp] at hd' ⊢; exact hd'
    ·rw [if_neg hp] at hd' ⊢; exact fun _=>hd'
  ·have hget:l.drop i=o :: l.drop (i+1):=by
    have h1:l[i]?=some o:=by simpa using ho
    have h2:=List.drop_eq_getElem_cons hil;rw [List.getElem?_eq_getElem hil] at h1;rw [h2,Option.some.inj h1]
   have hvals:∀ j ∈ waitsOf l.toArray i,vals j=mergeV d vs vals j:=fun j hj=>by
    unfold mergeV
    split
    ·rename_i hjd
     have h1:availAt l.toArray kills j i=true:=by
      unfold availAt;simp only [kills,Bool.and_eq_true];refine ⟨by simpa using hj,?_⟩;rw [List.all_eq_true];intro k _;have:¬ d≤j:=by omega
      simp [this]
     have:=hav j h1;dsimp only at this;rw [if_pos hjd] at this;exact this
    ·rfl
   have hcon:putAll l.toArray vals (waitsOf l.toArray i) a0=putAll l.toArray (mergeV d vs vals) (waitsOf l.toArray i) a0:=qaZ _ _ _ _ _ hvals
   have htail:tailP P l.toArray a0 Kf i (l.drop i) (mergeV d vs vals) w:=by
    by_cases he:i=d
    ·subst he
     have hcw:C w:=hini false (by
      unfold availIni;rw [List.all_eq_true];intro k hk;have hk':k<l.length:=by simpa using hk
      by_cases hki:k=i
      ·simp [hki]
      ·by_cases hkd:i≤k
       ·rcases hdeep k hk' hkd i (by omega) with h8 | ⟨_,h8⟩
        ·simp only [h8,Bool.or_true]
        ·omega
       ·simp [hkd])
     exact k1 _ (k3 _ fun j hj=>by simp [mergeV,hj]) w hcw
    ·have hav1:availAt l.toArray kills (i - 1) i=true:=by
      unfold availAt;rw [Bool.and_eq_true];refine ⟨hprev i hil (by omega),?_⟩;rw [List.all_eq_true];intro k hk;have hk':k<l.length:=by simpa using hk
      by_cases hki:k=i
      ·simp [hki]
      ·by_cases hki2:i<k
       ·rcases hdeep k hk' (by omega) i hki2 with h8 | ⟨_,h8⟩
        ·simp only [h8,Bool.or_true]
        ·omega
       ·have:¬ i - 1<k∨k=i - 1:=by omega
        rcases this with h1 | h1
        ·have h8:¬ l.length≤i - 1:=by omega
         simp [kills,h1,h8]
        ·simp [h1]
     have:=hav (i - 1) hav1;dsimp only at this;rw [if_neg (by omega),show i - 1+1=i by omega] at this;exact this
   rw [hget] at htail;rw [hcon];refine htail _ fun v w' ht=>?_;refine ⟨v,rfl,?_,trivial,?_⟩
   ·dsimp only;rw [if_neg hid,qdv _ _ _ (by omega)];exact ht
   ·dsimp only; rw [if_pos (by omega)]; trivial
 ·intro w vals _ hF;have hn1:l.length - 1<l.length:=by omega
  have halive:aliveAt l.toArray kills (l.length - 1)=true:=by
   unfold aliveAt;rw [List.all_eq_true];intro k hk;have hk':k<l.length:=by simpa using hk
   have:¬ l.length - 1<k:=by omega
   have h8:¬ l.length≤l.length - 1:=by omega
   simp [kills,this,h8]
  have h1:=hF (l.length - 1) (by simpa using hn1) halive;rw [if_neg (by omega),show l.length - 1+1=l.length by omega,List.drop_length] at h1
  have hcon:putAll l.toArray vals (List.range l.toArray.size) a0=putAll l.toArray (mergeV d vs vals) (List.range l.toArray.size) a0:=qaZ _ _ _ _ _ fun j hj=>by
   unfold mergeV
   split
   ·rename_i hjd
    have hal:aliveAt l.toArray kills j=true:=by
     unfold aliveAt;rw [List.all_eq_true];intro k _;have:¬ d≤j:=by omega
     simp [kills,this]
    have:=hF j (by simpa using (List.mem_range.1 hj)) hal;rw [if_pos hjd] at this;exact this
   ·rfl
  rw [hcon,hps];exact h1
section
variable {ops:Array Oper} {C D:World→Prop} {a0:Act} {K:((Nat→Value)→Prop)→Prop} {i:Nat} {Φ:(Nat→Value)→Prop} {o:Oper}
theorem dQ {v:Value} (h:DetStep P ops C C Φ i a0 o v):DetStepQ P ops C false Φ i a0 o v:=fun vals hp w hc E hE=>h vals hp w (hc rfl) E fun w' hc'=>hE w' (by simpa using hc')
theorem qdi {v:Value} (ps:List (Nat × Option Tmp)) (hps:∀ vals,putAll ops vals (waitsOf ops i) a0=puts vals ps a0) (hg:o.guard=none)
  (h:∀ vals,Φ vals→∀ w,∀ E:Act→World→Prop,E ((puts vals ps a0).put o.dst v) w→wpList P #[] (EndOf E) [o] (puts vals ps a0) w):DetStepQ P ops C true Φ i a0 o v:=by
 intro vals hp w hc E hE;have h0:=hE w (by simp);rw [hps] at h0 ⊢;have h1:=h vals hp w E h0;have hw:∀ (O:Array Oper) (t:Array Value),Region.wanted o (yielded O t)=true:=fun O t=>by simp [Region.wanted,hg]
 simp only [wpList,hw,if_true] at h1 ⊢;exact h1
theorem DetQ.next {v:Value} {rest:List Oper} {pu:Nat→Bool} (hs:DetStepQ P ops C (pu i) Φ i a0 o v) (h:DetQ P ops C pu a0 K (i+1) rest fun vals=>Φ vals∧vals i=v):DetQ P ops C pu a0 K i (o :: rest) Φ:=⟨v,hs,h⟩
theorem DetQ.done {pu:Nat→Bool} (h:K Φ):DetQ P ops C pu a0 K i [] Φ:=h
end
end
end Go.Proofs.YtcbkaaodmjphdaaGreatDoor
namespace Go.Proofs.YtcbkaaodmjphdaaGreatDoor
set_option linter.unusedSimpArgs false
set_option linter.unusedVariables false
set_option maxRecDepth 100000
set_option maxHeartbeats 4000000
open Go.RowKit
section
variable {P:Program}
def DetStepR (P:Program) (ops:Array Oper) (C:World→Prop) (p:Bool) (Φ:(Nat→Value)→Prop) (i:Nat) (a0:Act) (o:Oper) (v:Value):Prop :=
 ∀ vals,Φ vals→∀ w,C w→∀ E:Act→World→Prop,(∀ w',(if p=true then w'=w else C w')→E ((putAll ops vals (waitsOf ops i) a0).put o.dst v) w')→wpList P ops (EndOf E) [o] (putAll ops vals (waitsOf ops i) a0) w
def DetR (P:Program) (ops:Array Oper) (C:World→Prop) (pu:Nat→Bool) (a0:Act) (K:((Nat→Value)→Prop)→Prop):Nat→List Oper→((Nat→Value)→Prop)→Prop
 | _,[],Φ=>K Φ
 | i,o :: rest,Φ=>∃ v,DetStepR P ops C (pu i) Φ i a0 o v∧DetR P ops C pu a0 K (i+1) rest fun vals=>Φ vals∧vals i=v
theorem detR_all {ops:Array Oper} {C:World→Prop} {pu:Nat→Bool} {a0:Act} {K:((Nat→Value)→Prop)→Prop}:∀ (rest:List Oper) (i:Nat) (Φ:(Nat→Value)→Prop),
  (∀ v1 v2:Nat→Value,(∀ j,j<i→v1 j=v2 j)→Φ v1→Φ v2)→(∃ vals,Φ vals)→DetR P ops C pu a0 K i rest Φ →
  ∃ (vs:Nat→Value) (Ψ:(Nat→Value)→Prop),K Ψ∧Φ vs∧(∀ vals,(∀ j,j<i+rest.length→vals j=vs j)→Ψ vals) ∧
   ∀ j o,rest[j]?=some o→∀ vals w,C w→(∀ k,k<i+j→vals k=vs k)→∀ E:Act→World→Prop,(∀ w',(if pu (i+j)=true then w'=w else C w')→E ((putAll ops vals (waitsOf ops (i+j)) a0).put o.dst (vs (i+j))) w')→wpList P ops (EndOf E) [o] (putAll ops vals (waitsOf ops (i+j)) a0) w
 | [],i,Φ,hΦ,⟨v0,h0⟩,h=>⟨v0,Φ,h,h0,fun vals hv=>hΦ _ _ (fun j hj=>(hv j (by simpa using hj)).symm) h0,fun j o ho=>by simp at ho⟩
 | o :: rest,i,Φ,hΦ,⟨v0,h0⟩,⟨v,h1,h2⟩=>by
  obtain ⟨vs,Ψ,k1,k2,k3,k4⟩:=detR_all rest (i+1) (fun vals=>Φ vals∧vals i=v)
   (fun v1 v2 hv hp=>⟨hΦ v1 v2 (fun j hj=>hv j (by omega)) hp.1,by rw [← hv i (by omega)]; exact hp.2⟩)
   ⟨upd v0 i v,hΦ v0 _ (fun j hj=>by simp [upd,Nat.ne_of_lt hj]) h0,by simp [upd]⟩ h2
  refine ⟨vs,Ψ,k1,k2.1,fun vals hv=>k3 vals fun j hj=>hv j (by simp only [List.length_cons] at hj ⊢; omega),fun j o' ho vals w hc hv=>?_⟩
  cases j with
  | zero =>
   simp at ho;subst ho;have hΦv:Φ vals:=hΦ vs _ (fun j hj=>(hv j (by omega)).symm) k2.1;intro E hE;refine h1 vals hΦv w hc E fun w'' hd=>?_;have h4:=hE w'' hd;rw [Nat.add_zero,k2.2] at h4;exact h4
  | succ j =>
   rw [show i+(j+1)=i+1+j by omega] at hv ⊢;exact k4 j o' (by simpa using ho) vals w hc hv
def tailP2 (P:Program) (ops:Array Oper) (a0:Act) (d2:Nat) (Kf:(Nat→Value)→World→Prop):Nat→List Oper→(Nat→Value)→World→Prop
 | _,[],vals,w=>Kf vals w
 | i,o :: r,vals,w=>∀ E:Act→World→Prop,(∀ v w',(i<d2→Below w.heap.size w w')→tailP2 P ops a0 d2 Kf (i+1) r (upd vals i v) w'→E ((putAll ops vals (waitsOf ops i) a0).put o.dst v) w')→wpList P ops (EndOf E) [o] (putAll ops vals (waitsOf ops i) a0) w
theorem qbf {id:Nat} {l:List Oper} {a0:Act} {w0:World} {Q:Exit→Act→World→Prop} (C:World→Prop) (pu:Nat→Bool) (d d2:Nat) (ps:List (Nat × Option Tmp))
  (hm:P.follows .mixedOrders=true) (hok:regionOk l.toArray=true) (hd:d<l.length)
  (hlast:((List.range l.length).all fun k=>decide (k<d) || (((List.range k).all fun i=>(deepWaits l.toArray 5 k).contains i || (pu i && decide (i<d) && decide (k<d2))) && (k == d || (waitsOf l.toArray k).contains (k - 1))))=true)
  (hps:∀ vals,putAll l.toArray vals (List.range l.toArray.size) a0=puts vals ps a0) (hC:C w0.drew) (hCs:∀ w w',Below w.heap.size w w'→C w→C w') (hdd:d≤d2)
  (h:DetR P l.toArray C pu a0 (fun Φ=>∀ vals,Φ vals→∀ w,C w→tailP2 P l.toArray a0 d2 (fun vals w=>Q .normal (puts vals ps a0) w) d (l.drop d) vals w) 0 (l.take d) (fun _=>True)) :
  (Code.region id l.toArray true).wp P Q a0 w0:=by
 obtain ⟨vs,Ψ,k1,_,k3,k4⟩:=detR_all (P:=P) (l.take d) 0 (fun _=>True) (fun _ _ _ h=>h) ⟨fun _=>undef,trivial⟩ h;have htl:(l.take d).length=d:=by rw [List.length_take]; omega
 simp only [Nat.zero_add,htl] at k3 k4
 have hdeep:∀ k,k<l.length→d≤k→∀ i,i<k→(deepWaits l.toArray 5 k).contains i=true∨((pu i=true∧i<d)∧k<d2):=fun k hk hdk i hi=>by
  have h1:=(List.all_eq_true.1 hlast) k (List.mem_range.2 hk);simp only [Bool.or_eq_true,decide_eq_true_eq,Bool.and_eq_true] at h1
  rcases h1 with h1 | h1
  ·omega
  ·have h2:=(List.all_eq_true.1 h1.1) i (List.mem_range.2 hi)
   simpa only [Bool.or_eq_true,Bool.and_eq_true,decide_eq_true_eq] using h2
 have hprev:∀ k,k<l.length→d<k→(waitsOf l.toArray k).contains (k - 1)=true:=fun k hk hdk=>by
  have h1:=(List.all_eq_true.1 hlast) k (List.mem_range.2 hk);simp only [Bool.or_eq_true,decide_eq_true_eq,Bool.and_eq_true,beq_iff_eq] at h1
  rcases h1 with h1 | ⟨_,h1 | h1⟩
  ·omega
  ·omega
  ·exact h1
 let Kf:(Nat→Value)→World→Prop:=fun vals w=>Q .normal (puts vals ps a0) w
 let kills:Nat→Nat→Bool:=fun i k=>decide (d≤k) && (decide (k<i) || decide (l.length≤k))
 refine qbG (fun _=>True) (fun _=>C) (fun _ i=>decide (d2≤i))
  (fun i vals w=>if i<d then vals i=vs i else tailP2 P l.toArray a0 d2 Kf (i+1) (l.drop (i+1)) (mergeV d vs vals) w)
  (fun i w w'=>if d2≤i then True else if d≤i then (C w→C w') else if pu i=true then w'=w else (C w→C w')) kills hm hok trivial (fun _=>hC) ?_ ?_ ?_ ?_
 ·intro _ i hi w w' hS hc;have hne:¬ d2≤i:=by simpa using hi
  rw [if_neg hne] at hS
  by_cases hdi:d≤i
  ·rw [if_pos hdi] at hS; exact hS hc
  ·rw [if_neg hdi] at hS
   by_cases hp:pu i=true
   ·rw [if_pos hp] at hS; rw [hS]; exact hc
   ·rw [if_neg hp] at hS; exact hS hc
 ·intro i k hi hik hk hdk vals v w w' hS hF
  by_cases hkd:k<d
  ·simp only [hkd,if_true] at hF ⊢;simp [upd,Ne.symm hik,hF]
  ·have hki:¬ k<i:=by
    intro hlt
    have h9:kills i k=true:=by
     have a1:d≤k:=by omega
     simp [kills,a1,hlt]
    rw [h9] at hk; cases hk
   have hkl:k<l.length∨l.length≤k:=Nat.lt_or_ge _ _
   rcases hkl with hkl | hkl
   ·rcases hdeep k hkl (by omega) i (by omega) with h8 | ⟨⟨h8,h7⟩,h6⟩
    ·rw [h8] at hdk; cases hdk
    ·simp only [hkd,if_false] at hF ⊢;rw [if_neg (by omega),if_neg (by omega),if_pos h8] at hS;subst hS
     have e:mergeV d vs (upd vals i v)=mergeV d vs vals:=by
      funext j
      unfold mergeV upd
      by_cases h1:j=i
      ·subst h1; simp [h7]
      ·simp [h1]
     rw [e]; exact hF
   ·have h9:kills i k=true:=by
     have a1:d≤k:=by omega
     simp [kills,a1,hkl]
    rw [h9] at hk; cases hk
 ·intro i o ho w vals _ hini hav;have hil:i<l.length:=by have:=(Array.getElem?_eq_some_iff.1 ho).1; simpa using this
  have hok1:=okAt hok ho
  by_cases hid:i<d
  ·have hcw:C w:=hini false (by
    unfold availIni;rw [List.all_eq_true];intro k hk;have hk':k<l.length:=by simpa using hk
    by_cases hki:k=i
    ·simp [hki]
    ·by_cases hkd:d2≤k
     ·rcases hdeep k hk' (by omega) i (by omega) with h8 | ⟨_,h8⟩
      ·simp only [h8,Bool.or_true]
      ·omega
     ·simp [hkd])
   have hvals:∀ j ∈ waitsOf l.toArray i,vals j=vs j:=fun j hj=>by
    have hji:j<d:=by
     have:=hok1.before j hj;omega
    have h1:availAt l.toArray kills j i=true:=by
     unfold availAt;simp only [kills,Bool.and_eq_true];refine ⟨by simpa using hj,?_⟩;rw [List.all_eq_true];intro k _;have:¬ d≤j:=by omega
     simp [this]
    have:=hav j h1;dsimp only at this;rw [if_pos hji] at this;exact this
   have hcon:putAll l.toArray vals (waitsOf l.toArray i) a0=putAll l.toArray vs (waitsOf l.toArray i) a0:=qaZ _ _ _ _ _ hvals;have ho2:(l.take d)[i]?=some o:=by rw [List.getElem?_take,if_pos hid]; simpa using ho
   have h3:=k4 i o ho2 vs w hcw (fun _ _=>rfl);rw [hcon];refine h3 _ fun w' hd'=>?_;refine ⟨vs i,rfl,?_,trivial,?_⟩
   ·dsimp only; rw [if_pos hid]; simp [upd]
   ·dsimp only;rw [if_neg (by omega),if_neg (by omega)]
    by_cases hp:pu i=true
    ·rw [if_pos hp] at hd' ⊢; exact hd'
    ·rw [if_neg hp] at hd' ⊢; exact fun _=>hd'
  ·have hget:l.drop i=o :: l.drop (i+1):=by
    have h1:l[i]?=some o:=by simpa using ho
    have h2:=List.drop_eq_getElem_cons hil;rw [List.getElem?_eq_getElem hil] at h1;rw [h2,Option.some.inj h1]
   have hvals:∀ j ∈ waitsOf l.toArray i,vals j=mergeV d vs vals j:=fun j hj=>by
    unfold mergeV
    split
    ·rename_i hjd
     have h1:availAt l.toArray kills j i=true:=by
      unfold availAt;simp only [kills,Bool.and_eq_true];refine ⟨by simpa using hj,?_⟩;rw [List.all_eq_true];intro k _;have:¬ d≤j:=by omega
      simp [this]
     have:=hav j h1;dsimp only at this;rw [if_pos hjd] at this;exact this
    ·rfl
   have hcon:putAll l.toArray vals (waitsOf l.toArray i) a0=putAll l.toArray (mergeV d vs vals) (waitsOf l.toArray i) a0:=qaZ _ _ _ _ _ hvals
   have htail:tailP2 P l.toArray a0 d2 Kf i (l.drop i) (mergeV d vs vals) w:=by
    by_cases he:i=d
    ·subst he
     have hcw:C w:=hini false (by
      unfold availIni;rw [List.all_eq_true];intro k hk;have hk':k<l.length:=by simpa using hk
      by_cases hki:k=i
      ·simp [hki]
      ·by_cases hkd:d2≤k
       ·rcases hdeep k hk' (by omega) i (by omega) with h8 | ⟨_,h8⟩
        ·simp only [h8,Bool.or_true]
        ·omega
       ·simp [hkd])
     exact k1 _ (k3 _ fun j hj=>by simp [mergeV,hj]) w hcw
    ·have hav1:availAt l.toArray kills (i - 1) i=true:=by
      unfold availAt;rw [Bool.and_eq_true];refine ⟨hprev i hil (by omega),?_⟩;rw [List.all_eq_true];intro k hk;have hk':k<l.length:=by simpa using hk
      by_cases hki:k=i
      ·simp [hki]
      ·by_cases hki2:i<k
       ·rcases hdeep k hk' (by omega) i hki2 with h8 | ⟨⟨_,h8⟩,_⟩
        ·simp only [h8,Bool.or_true]
        ·omega
       ·have:¬ i - 1<k∨k=i - 1:=by omega
        rcases this with h1 | h1
        ·have h8:¬ l.length≤i - 1:=by omega
         simp [kills,h1,h8]
        ·simp [h1]
     have:=hav (i - 1) hav1;dsimp only at this;rw [if_neg (by omega),show i - 1+1=i by omega] at this;exact this
   rw [hget] at htail;rw [hcon];refine htail _ fun v w' hbw ht=>?_;refine ⟨v,rfl,?_,trivial,?_⟩
   ·dsimp only;rw [if_neg hid,qdv _ _ _ (by omega)];exact ht
   ·dsimp only
    by_cases h2:d2≤i
    ·rw [if_pos h2]; trivial
    ·rw [if_neg h2,if_pos (by omega)];exact fun hc=>hCs _ _ (hbw (by omega)) hc
 ·intro w vals _ hF;have hn1:l.length - 1<l.length:=by omega
  have halive:aliveAt l.toArray kills (l.length - 1)=true:=by
   unfold aliveAt;rw [List.all_eq_true];intro k hk;have hk':k<l.length:=by simpa using hk
   have:¬ l.length - 1<k:=by omega
   have h8:¬ l.length≤l.length - 1:=by omega
   simp [kills,this,h8]
  have h1:=hF (l.length - 1) (by simpa using hn1) halive;rw [if_neg (by omega),show l.length - 1+1=l.length by omega,List.drop_length] at h1
  have hcon:putAll l.toArray vals (List.range l.toArray.size) a0=putAll l.toArray (mergeV d vs vals) (List.range l.toArray.size) a0:=qaZ _ _ _ _ _ fun j hj=>by
   unfold mergeV
   split
   ·rename_i hjd
    have hal:aliveAt l.toArray kills j=true:=by
     unfold aliveAt;rw [List.all_eq_true];intro k _;have:¬ d≤j:=by omega
     simp [kills,this]
    have:=hF j (by simpa using (List.mem_range.1 hj)) hal;rw [if_pos hjd] at this;exact this
   ·rfl
  rw [hcon,hps];exact h1
section
variable {ops:Array Oper} {C D:World→Prop} {a0:Act} {K:((Nat→Value)→Prop)→Prop} {i:Nat} {Φ:(Nat→Value)→Prop} {o:Oper}
theorem qaq {v:Value} (h:DetStep P ops C C Φ i a0 o v):DetStepR P ops C false Φ i a0 o v:=fun vals hp w hc E hE=>h vals hp w hc E fun w' hc'=>hE w' (by simpa using hc')
theorem qaY {v:Value} (ps:List (Nat × Option Tmp)) (hps:∀ vals,putAll ops vals (waitsOf ops i) a0=puts vals ps a0) (hg:o.guard=none)
  (h:∀ vals,Φ vals→∀ w,C w→∀ E:Act→World→Prop,E ((puts vals ps a0).put o.dst v) w→wpList P #[] (EndOf E) [o] (puts vals ps a0) w):DetStepR P ops C true Φ i a0 o v:=by
 intro vals hp w hc E hE;have h0:=hE w (by simp);rw [hps] at h0 ⊢;have h1:=h vals hp w hc E h0;have hw:∀ (O:Array Oper) (t:Array Value),Region.wanted o (yielded O t)=true:=fun O t=>by simp [Region.wanted,hg]
 simp only [wpList,hw,if_true] at h1 ⊢;exact h1
theorem qaB {d2:Nat} {Kf:(Nat→Value)→World→Prop} {r:List Oper} {vals:Nat→Value} {w:World} (ps:List (Nat × Option Tmp)) (hps:∀ vals,putAll ops vals (waitsOf ops i) a0=puts vals ps a0) (hg:o.guard=none)
  (h:∀ E:Act→World→Prop,(∀ v w',(i<d2→Below w.heap.size w w')→tailP2 P ops a0 d2 Kf (i+1) r (upd vals i v) w'→E ((puts vals ps a0).put o.dst v) w')→wpList P #[] (EndOf E) [o] (puts vals ps a0) w):tailP2 P ops a0 d2 Kf i (o :: r) vals w:=by
 intro E hE;rw [hps] at hE ⊢;have h1:=h E hE;have hw:∀ (O:Array Oper) (t:Array Value),Region.wanted o (yielded O t)=true:=fun O t=>by simp [Region.wanted,hg]
 simp only [wpList,hw,if_true] at h1 ⊢;exact h1
theorem qce {d2:Nat} {Kf:(Nat→Value)→World→Prop} {vals:Nat→Value} {w:World} (h:Kf vals w):tailP2 P ops a0 d2 Kf i [] vals w:=h
theorem DetR.next {v:Value} {rest:List Oper} {pu:Nat→Bool} (hs:DetStepR P ops C (pu i) Φ i a0 o v) (h:DetR P ops C pu a0 K (i+1) rest fun vals=>Φ vals∧vals i=v):DetR P ops C pu a0 K i (o :: rest) Φ:=⟨v,hs,h⟩
theorem DetR.done {pu:Nat→Bool} (h:K Φ):DetR P ops C pu a0 K i [] Φ:=h
end
end
end Go.Proofs.YtcbkaaodmjphdaaGreatDoor
namespace Go.Proofs.YtcbkaaodmjphdaaGreatDoor
set_option linter.unusedSimpArgs false
set_option linter.unusedVariables false
open Go.RowKit

theorem sP : (∀ (l : List Value) (i : Nat) (a : Value), l.toArray.setIfInBounds i a = (l.set i a).toArray) ∧ (∀ (x : Value) (l : List Value) (a : Value), (x :: l).set 0 a = a :: l) ∧ (∀ (x : Value) (l : List Value) (i : Nat) (a : Value), (x :: l).set (i + 1) a = x :: l.set i a) ∧
    (∀ (t : Array Value) (d : List Deferred) (i : Tmp) (v : Value), Act.put ⟨t, d⟩ (some i) v = ⟨t.setIfInBounds i v, d⟩) ∧ (∀ (a : Act) (v : Value), Act.put a none v = a) ∧
    (∀ (vals : Nat → Value) (a : Act), puts vals [] a = a) ∧ (∀ (vals : Nat → Value) (j : Nat) (d : Option Tmp) (r : List (Nat × Option Tmp)) (a : Act), puts vals ((j, d) :: r) a = puts vals r (a.put d (vals j))) :=
  ⟨fun _ _ _ => List.setIfInBounds_toArray _ _ _, fun _ _ _ => rfl, fun _ _ _ _ => rfl, fun _ _ _ _ => rfl, fun _ _ => rfl, fun _ _ => rfl, fun _ _ _ _ _ => rfl⟩
theorem sIB (l : List Value) (i : Nat) (a : Value) : l.toArray.setIfInBounds i a = (l.set i a).toArray := List.setIfInBounds_toArray _ _ _
theorem sCZ {x : Value} {l : List Value} {a : Value} : (x :: l).set 0 a = a :: l := rfl
theorem sCS {x : Value} {l : List Value} {i : Nat} {a : Value} : (x :: l).set (i + 1) a = x :: l.set i a := rfl
theorem uP {vals vals' : Nat → Value} {i j : Nat} {v x : Value} (hv : upd vals i v = vals') (h : j ≠ i) (f : vals j = x) : vals' j = x := (congrFun hv j).symm.trans ((upd_ne h).trans f)
end Go.Proofs.YtcbkaaodmjphdaaGreatDoor
namespace Go.Proofs.YtcbkaaodmjphdaaGreatDoor
set_option linter.unusedSimpArgs false
set_option linter.unusedVariables false
set_option maxRecDepth 100000
set_option maxHeartbeats 4000000
open Go.ChangeShapes Go.WideShapes Go.ChangeAt Go.RowKit Go.Joins
open Go.WideMaps Go.WideElems
open Go.ChangeMaps (open_string shut_string)
theorem own:ownKnob Tryz.prog.godebug=none:=by kernel_rfl
theorem laidOut:laidOutB Tryz.prog=true:=by kernel_rfl
section
variable {H:Type} {enc:TypeId × Value→H} {P:Program}
theorem post_of_below {f:Func} {s:ChangeSpec} {apart fresh handsOn again:Bool} {W W':World} {args:Array Value} {v:Value} {ds gs:List (DataW H)} {before pa pv:List MemPlace}
  (hW:DataW.Whole enc P f.params.toList s.vars apart W args.toList ds gs before)
  (hres:∀ (b:Nat) (sp:Nat→Bool) (hd:Bool),DataW.TrodAll enc P W' b sp hd f.resultTypes.toList (v.resultList f.resultTypes.size) (s.fn H (ds++gs)).results [])
  (hargs:∀ sp:Nat→Bool,(∀ p ∈ before,sp p.block=true)→DataW.TrodAll enc P W' 0 sp true f.params.toList args.toList (s.fn H (ds++gs)).args pa)
  (hvars:∀ sp:Nat→Bool,(∀ p ∈ before,sp p.block=true)→DataW.TrodVars enc P W' sp s.vars (s.fn H (ds++gs)).vars pv)
  (hps:before=pa++pv) (hb:Below W.heap.size W W')
  (hok:∀ (j:Nat) (t:TypeId) (r:Value),f.resultTypes[j]?=some t→(v.resultList f.resultTypes.size)[j]?=some r→Value.okWide P W' .any 0 t r) :
  s.post enc P f apart fresh handsOn again W args v W':=by
 have hlt:∀ p ∈ before,p.block<W.heap.size:=fun p hp=>hW.lt p hp;have hold:∀ p ∈ before,(fun b=>decide (b<W.heap.size)) p.block=true:=fun p hp=>by simpa using hlt p hp
 refine ⟨ds,gs,before,[],pa,pv,hW,hres _ _ _,hargs _ hold,hvars _ hold,World.keptBut_mono (fun p hp=>⟨hp,?_⟩) (hb.frame (· ∈ before)),fun _=>?_⟩
 ·rw [hps,List.mem_append] at hp;exact Or.inr hp
 ·obtain ⟨_,_,_,_,_,hz,hn⟩:=hW;refine ⟨hok,_,_,([]++pa)++pv,⟨[]++pa,pv,trodAll_append (hargs _ (fun _ _=>rfl)) (hres _ _ _),hvars _ (fun _ _=>rfl),rfl,?_,?_⟩,?_⟩
  ·intro b off hp;have hin:MemPlace.cell b off ∈ before:=by rw [hps]; simpa using hp
   rw [hb.frozen (hlt _ hin)];exact hz b off hin
  ·intro ha;have:=hn ha;rw [hps] at this
   simpa using this
  ·intro p hp _;rw [hps]
   simpa using hp
theorem stays {t:TypeId} (hl:laidOutB P=true) (hr:P.readableRec t=true) (hrow:t<P.types.size) {W W':World} {v:Value} {d:DataW H} {ps:List MemPlace}
  (h:DataW.Trod enc P W 0 (fun _=>true) true t v d ps) (hb:Below W.heap.size W W') (hlt:∀ x ∈ ps,x.block<W.heap.size) {sp:Nat→Bool} (hsp:∀ x ∈ ps,sp x.block=true) :
  DataW.Trod enc P W' 0 sp true t v d ps :=
 WideElems.Trod_stays hl hr hrow h (fun x hx=>hb.same (hlt x hx)) hsp
end
end Go.Proofs.YtcbkaaodmjphdaaGreatDoor
namespace Go.Proofs.YtcbkaaodmjphdaaGreatDoor
set_option linter.unusedSimpArgs false
set_option linter.unusedVariables false
set_option maxRecDepth 100000
set_option maxHeartbeats 4000000
open Go.ChangeShapes Go.WideShapes Go.ChangeAt Go.RowKit Go.Joins
section
variable {H:Type} {enc:TypeId × Value→H} {P:Program}
theorem open_bytes_rd {t e:TypeId} {fuel:Nat} {cs:List Value} {x:DataW H × List MemPlace} {W:World} {base:Nat} {sp:Nat→Bool} {held:Bool} (ht:P.underlying t=some (.slice e)) (he:P.underlying e=some (.int .u8)) (hc:P.cellsOf e=1)
  (h:DataW.trod enc P W base sp held fuel t cs=some x):∃ (A:Option Addr) (c:Nat) (l:List UInt8),cs=[.slice A l.length c]∧l.length≤c∧l.length≤maxLen∧Rd W W.heap.size A (bytesV l):=by
 rcases open_ints ht he hc h with ⟨rfl,_⟩ | ⟨a,len,cap,zs,rfl,_,hl,hm,hz,_,hcell,hwz⟩
 ·exact ⟨none,0,[],rfl,Nat.le_refl _,Nat.zero_le _,Rd.nil _ _ _⟩
 ·have hlen:len≤zs.length:=by rw [hz]; split <;> omega
  have hl2:((zs.take len).map fun n=>UInt8.ofNat n.toNat).length=len:=by simp; omega
  refine ⟨some a,cap,(zs.take len).map fun n=>UInt8.ofNat n.toNat,by rw [hl2],by rw [hl2]; omega,by rw [hl2]; omega,fun i u hu=>?_⟩;rw [bytesV,List.getElem?_map,List.getElem?_map] at hu;obtain ⟨s,hs1,rfl⟩:=Option.map_eq_some_iff.1 hu;obtain ⟨n,hn1,rfl⟩:=Option.map_eq_some_iff.1 hs1;have hi:i<(zs.take len).length:=(List.getElem?_eq_some_iff.1 hn1).1;rw [List.length_take] at hi;have hcl:=hcell i (by omega);rw [List.getElem?_take,if_pos (by omega)] at hn1;have e1:zs.getD i 0=n:=by simp [List.getD,hn1]
  have hb:=range_u8 hwz i;rw [e1] at hcl;have e2:zs[i]?.getD 0=n:=by rw [hn1]; rfl
  rw [e2] at hb;refine ⟨a,rfl,?_,?_⟩
  ·have:=World.block_lt_of_cell? W _ hcl
   rwa [qaW] at this
  ·rw [hcl,byteV]
   congr 2
   simp only [UInt8.toNat_ofNat'];omega
end
theorem cells_u8:Tryz.prog.cellsOf 5=1:=by kernel_rfl
theorem open_bytes_arg {H:Type} {enc:TypeId × Value→H} {W:World} {base:Nat} {r:Reach} {b0:Nat} {sp:Nat→Bool} {held:Bool} {v:Value} {d:DataW H} {p:List MemPlace}
  (hv:Value.okWide Tryz.prog W r b0 23 v) (h:DataW.Trod enc Tryz.prog W base sp held 23 v d p) :
  ∃ (l:List UInt8) (A:Option Addr) (c:Nat),v=.slice A l.length c∧Rd W W.heap.size A (bytesV l)∧l.length≤c∧l.length≤9223372036854775807:=by
 obtain ⟨a1,len,cap,rfl⟩:=okWide_slice Tryz.underlying23 hv;obtain ⟨fuel,hf⟩:=h;obtain ⟨A,c,l,e,h1,h2,h3⟩:=open_bytes_rd Tryz.underlying23 Tryz.underlying5 cells_u8 hf;simp [Value.cells] at e;obtain ⟨rfl,rfl,rfl⟩:=e;simp only [maxLen] at h2;exact ⟨l,_,_,rfl,h3,h1,by omega⟩
end Go.Proofs.YtcbkaaodmjphdaaGreatDoor
namespace Go.Proofs.YtcbkaaodmjphdaaGreatDoor
set_option linter.unusedSimpArgs false
set_option linter.unusedVariables false
set_option maxRecDepth 100000
set_option maxHeartbeats 4000000
open Go.RowKit
section
variable (a b:Nat)
theorem or64 (ha:a<18446744073709551616) (hb:b<18446744073709551616):bits .or .u64 (a:Int) (b:Int)=((a ||| b:Nat):Int):=by
 show IntKind.u64.wrap ((BitVec.ofInt 64 (a:Int) ||| BitVec.ofInt 64 (b:Int)).toNat:Int)=_;have h:=Nat.or_lt_two_pow (n:=64) (x:=a) (y:=b) ha hb;rw [BitVec.toNat_or,BitVec.ofInt_natCast,BitVec.ofInt_natCast,BitVec.toNat_ofNat,BitVec.toNat_ofNat,Nat.mod_eq_of_lt ha,Nat.mod_eq_of_lt hb,IntKind.wrap_u64];omega
theorem xor64 (ha:a<18446744073709551616) (hb:b<18446744073709551616):bits .xor .u64 (a:Int) (b:Int)=((a ^^^ b:Nat):Int):=by
 show IntKind.u64.wrap ((BitVec.ofInt 64 (a:Int) ^^^ BitVec.ofInt 64 (b:Int)).toNat:Int)=_;have h:=Nat.xor_lt_two_pow (n:=64) (x:=a) (y:=b) ha hb;rw [BitVec.toNat_xor,BitVec.ofInt_natCast,BitVec.ofInt_natCast,BitVec.toNat_ofNat,BitVec.toNat_ofNat,Nat.mod_eq_of_lt ha,Nat.mod_eq_of_lt hb,IntKind.wrap_u64];omega
theorem and64 (ha:a<18446744073709551616) (hb:b<18446744073709551616):bits .and .u64 (a:Int) (b:Int)=((a &&& b:Nat):Int):=by
 show IntKind.u64.wrap ((BitVec.ofInt 64 (a:Int) &&& BitVec.ofInt 64 (b:Int)).toNat:Int)=_;have h:a &&& b≤a:=Nat.and_le_left;rw [BitVec.toNat_and,BitVec.ofInt_natCast,BitVec.ofInt_natCast,BitVec.toNat_ofNat,BitVec.toNat_ofNat,Nat.mod_eq_of_lt ha,Nat.mod_eq_of_lt hb,IntKind.wrap_u64];omega
theorem or32 (ha:a<4294967296) (hb:b<4294967296):bits .or .u32 (a:Int) (b:Int)=((a ||| b:Nat):Int):=by
 show IntKind.u32.wrap ((BitVec.ofInt 32 (a:Int) ||| BitVec.ofInt 32 (b:Int)).toNat:Int)=_;have h:=Nat.or_lt_two_pow (n:=32) (x:=a) (y:=b) ha hb;rw [BitVec.toNat_or,BitVec.ofInt_natCast,BitVec.ofInt_natCast,BitVec.toNat_ofNat,BitVec.toNat_ofNat,Nat.mod_eq_of_lt ha,Nat.mod_eq_of_lt hb,IntKind.wrap_u32];omega
theorem xor32 (ha:a<4294967296) (hb:b<4294967296):bits .xor .u32 (a:Int) (b:Int)=((a ^^^ b:Nat):Int):=by
 show IntKind.u32.wrap ((BitVec.ofInt 32 (a:Int) ^^^ BitVec.ofInt 32 (b:Int)).toNat:Int)=_;have h:=Nat.xor_lt_two_pow (n:=32) (x:=a) (y:=b) ha hb;rw [BitVec.toNat_xor,BitVec.ofInt_natCast,BitVec.ofInt_natCast,BitVec.toNat_ofNat,BitVec.toNat_ofNat,Nat.mod_eq_of_lt ha,Nat.mod_eq_of_lt hb,IntKind.wrap_u32];omega
theorem and32 (ha:a<4294967296) (hb:b<4294967296):bits .and .u32 (a:Int) (b:Int)=((a &&& b:Nat):Int):=by
 show IntKind.u32.wrap ((BitVec.ofInt 32 (a:Int) &&& BitVec.ofInt 32 (b:Int)).toNat:Int)=_;have h:a &&& b≤a:=Nat.and_le_left;rw [BitVec.toNat_and,BitVec.ofInt_natCast,BitVec.ofInt_natCast,BitVec.toNat_ofNat,BitVec.toNat_ofNat,Nat.mod_eq_of_lt ha,Nat.mod_eq_of_lt hb,IntKind.wrap_u32];omega
theorem or8 (ha:a<256) (hb:b<256):bits .or .u8 (a:Int) (b:Int)=((a ||| b:Nat):Int):=by
 show IntKind.u8.wrap ((BitVec.ofInt 8 (a:Int) ||| BitVec.ofInt 8 (b:Int)).toNat:Int)=_;have h:=Nat.or_lt_two_pow (n:=8) (x:=a) (y:=b) ha hb;rw [BitVec.toNat_or,BitVec.ofInt_natCast,BitVec.ofInt_natCast,BitVec.toNat_ofNat,BitVec.toNat_ofNat,Nat.mod_eq_of_lt ha,Nat.mod_eq_of_lt hb,IntKind.wrap_u8];omega
theorem wrap64n (a:Nat):IntKind.u64.wrap (a:Int)=((a%18446744073709551616:Nat):Int):=by rw [IntKind.wrap_u64]; omega
theorem wrap32n (a:Nat):IntKind.u32.wrap (a:Int)=((a%4294967296:Nat):Int):=by rw [IntKind.wrap_u32]; omega
end
theorem qbd {k:IntKind} {a b:Int} (h:a=b):Ending.returned (.int k a)=.returned (.int k b):=by rw [h]
theorem qbV {B:Nat} {a w:World} (h:Below B a w) (n:Nat):Below B a (w.drewN n):=⟨h.os,h.tape,h.output,h.size,h.block⟩
theorem sum64w (x y:Nat):IntKind.u64.wrap ((x:Int)+(y:Int))=(((x+y)%18446744073709551616:Nat):Int):=by rw [IntKind.wrap_u64]; omega
theorem sum32f (a b x y:Nat):(((a:Int)+(b:Int))%4294967296+((x:Int)+(y:Int))%4294967296)%4294967296=(((a+b+(x+y))%2^32:Nat):Int):=by omega
theorem sum64f (a b x y:Nat):IntKind.u64.wrap (IntKind.u64.wrap ((a:Int)+(b:Int))+((x:Int)+(y:Int))%18446744073709551616)=(((a+b+(x+y))%2^64:Nat):Int):=by
 rw [IntKind.wrap_u64,IntKind.wrap_u64]; omega
theorem qcE (a b:Nat):((a:Int)+(b:Int))%4294967296=(((a+b)%2^32:Nat):Int):=by omega
theorem qaQ (a b:Nat):IntKind.u64.wrap ((a:Int)+(b:Int))=(((a+b)%2^64:Nat):Int):=by rw [IntKind.wrap_u64]; omega
theorem qbF {a b m:Nat} (h:a<m):a &&& b<m:=Nat.lt_of_le_of_lt Nat.and_le_left h
theorem or_shl8 (x z:Nat) (hz:z<256):x*256 ||| z=x*256+z:=by
 have:=Nat.two_pow_add_eq_or_of_lt (i:=8) (b:=z) hz x;rw [show 2^8*x=x*256 by omega] at this;exact this.symm
theorem or_byte32 (x z:Nat) (hx:x<16777216) (hz:z<256):bits .or .u32 ((x:Int)*256%4294967296) (z:Int)=((x*256+z:Nat):Int):=by
 rw [show (x:Int)*256%4294967296=((x*256:Nat):Int) by omega,or32 _ _ (by omega) (by omega),or_shl8 x z hz]
theorem or_byte64 (x z:Nat) (hx:x<72057594037927936) (hz:z<256):bits .or .u64 (IntKind.u64.wrap ((x:Int)*256)) (z:Int)=((x*256+z:Nat):Int):=by
 rw [show IntKind.u64.wrap ((x:Int)*256)=((x*256:Nat):Int) by rw [IntKind.wrap_u64]; omega,or64 _ _ (by omega) (by omega),or_shl8 x z hz]
def rotN (b x n:Nat):Nat:=x/2^n ||| x*2^(b - n)%2^b
theorem rotN_lt {b x n:Nat} (hx:x<2^b):rotN b x n<2^b :=
 Nat.or_lt_two_pow (Nat.lt_of_le_of_lt (Nat.div_le_self _ _) hx) (Nat.mod_lt _ (Nat.two_pow_pos _))
def turnedN (b x n:Nat):Nat:=if b=32 then rotN 32 (x%4294967296) n else rotN 64 x n
theorem qaE {b x n:Nat} (hx:x<18446744073709551616):turnedN b x n<18446744073709551616:=by
 unfold turnedN
 split
 ·have:=rotN_lt (b:=32) (x:=x%4294967296) (n:=n) (Nat.mod_lt _ (by decide));omega
 ·exact rotN_lt (b:=64) hx
def lastN (b x c:Nat) (shift:Bool):Nat:=if shift then x/2^c else turnedN b x c
theorem qcN {b x c:Nat} {shift:Bool} (hx:x<18446744073709551616):lastN b x c shift<18446744073709551616:=by
 unfold lastN
 split
 ·exact Nat.lt_of_le_of_lt (Nat.div_le_self _ _) hx
 ·exact qaE hx
def allN (b x p q c:Nat) (shift:Bool):Nat:=turnedN b x p ^^^ turnedN b x q ^^^ lastN b x c shift
theorem qcF {a b:Nat} (ha:a<18446744073709551616) (hb:b<18446744073709551616):a ^^^ b<18446744073709551616:=Nat.xor_lt_two_pow (n:=64) ha hb
theorem qcD {b x p q c:Nat} {shift:Bool} (hx:x<18446744073709551616):allN b x p q c shift<18446744073709551616 :=
 qcF (qcF (qaE hx) (qaE hx)) (qcN hx)
theorem pow_int (n:Nat):(2:Int)^n=((2^n:Nat):Int):=by simp
theorem qcc (x n:Nat):(x:Int)/2^n=((x/2^n:Nat):Int):=by rw [pow_int]; simp
theorem shl_int (x n:Nat):(x:Int)*2^n=((x*2^n:Nat):Int):=by rw [pow_int]; simp
theorem rot_walk64 (x n:Nat) (hx:x<18446744073709551616):bits .or .u64 ((x:Int)/2^n) (IntKind.u64.wrap ((x:Int)*2^(64 - n)))=(rotN 64 x n:Int):=by
 rw [qcc,shl_int,wrap64n,or64 _ _ (Nat.lt_of_le_of_lt (Nat.div_le_self _ _) hx) (Nat.mod_lt _ (by decide))];rfl
theorem rot_walk32 (x n:Nat) (hx:x<4294967296):bits .or .u32 ((x:Int)/2^n) (IntKind.u32.wrap ((x:Int)*2^(32 - n)))=(rotN 32 x n:Int):=by
 rw [qcc,shl_int,wrap32n,or32 _ _ (Nat.lt_of_le_of_lt (Nat.div_le_self _ _) hx) (Nat.mod_lt _ (by decide))];rfl
theorem rot_walk32' (x n:Nat):IntKind.u64.wrap (bits .or .u32 ((x:Int)%4294967296/2^n) ((x:Int)%4294967296*2^(32 - n)%4294967296))=(turnedN 32 x n:Int):=by
 have h:=rot_walk32 (x%4294967296) n (Nat.mod_lt _ (by decide));rw [IntKind.wrap_u32] at h;rw [show (x:Int)%4294967296=((x%4294967296:Nat):Int) by omega,h,wrap64n];have h2:=rotN_lt (b:=32) (x:=x%4294967296) (n:=n) (Nat.mod_lt _ (by decide));rw [Nat.mod_eq_of_lt (by omega)];rfl
end Go.Proofs.YtcbkaaodmjphdaaGreatDoor
namespace Go.Proofs.YtcbkaaodmjphdaaGreatDoor.Sh
set_option linter.unusedSimpArgs false
set_option linter.unusedVariables false
set_option maxRecDepth 100000
set_option maxHeartbeats 4000000
open Go.RowKit
def beN (l:List UInt8):Nat:=l.foldl (fun n c=>n*256+c.toNat) 0
theorem qdV (l:List UInt8) (c:UInt8):beN (l++[c])=beN l*256+c.toNat:=by simp [beN]
theorem foldl_fromN (x:Nat) (c:List UInt8):c.foldl (fun n c=>n*256+c.toNat) x=x*256^c.length+beN c:=by
 induction c generalizing x with
 | nil=>simp [beN]
 | cons z c ih =>
  have e:beN (z :: c)=c.foldl (fun n c=>n*256+c.toNat) z.toNat:=by simp [beN]
  rw [List.foldl_cons,ih,e,ih,List.length_cons,Nat.pow_succ,Nat.add_mul,Nat.mul_assoc,Nat.mul_comm 256,Nat.add_assoc]
theorem beN_append (a c:List UInt8):beN (a++c)=beN a*256^c.length+beN c:=by
 rw [beN,List.foldl_append,foldl_fromN]; rfl
theorem beN_lt (l:List UInt8):beN l<256^l.length:=by
 induction l with
 | nil=>simp [beN]
 | cons z l ih =>
  have e:=beN_append [z] l;have hz:=z.toNat_lt;have e1:beN [z]=z.toNat:=by simp [beN]
  rw [show z :: l=[z]++l from rfl,e,e1,List.length_append,List.length_singleton,Nat.pow_add,Nat.pow_one];have:z.toNat*256^l.length≤255*256^l.length:=Nat.mul_le_mul_right _ (by omega);omega
structure ShaF where
 bits:Nat
 many:Nat
 s0:Nat × Nat × Nat
 s1:Nat × Nat × Nat
 t0:Nat × Nat × Nat
 t1:Nat × Nat × Nat
def F64:ShaF:=⟨64,80,(28,34,39),(14,18,41),(1,8,7),(19,61,6)⟩
def F32:ShaF:=⟨32,64,(2,13,22),(6,11,25),(7,18,3),(17,19,10)⟩
def allF (F:ShaF) (x:Nat) (p:Nat × Nat × Nat) (shift:Bool):Nat:=allN F.bits x p.1 p.2.1 p.2.2 shift
def pieceN (e:Nat) (blk:List UInt8) (t:Nat):Nat:=beN ((blk.drop (t*e)).take e)
def nextW (F:ShaF) (r:List Nat) (t:Nat):Nat :=
 (r.getD (t - 16) 0+r.getD (t - 7) 0+(allF F (r.getD (t - 15) 0) F.t0 true+allF F (r.getD (t - 2) 0) F.t1 true))%2^F.bits
def rowW (F:ShaF) (blk:List UInt8):Nat→List Nat
 | 0=>[]
 | t+1=>rowW F blk t++[if t<16 then pieceN (F.bits/8) blk t else nextW F (rowW F blk t) t]
theorem qaC (F:ShaF) (blk:List UInt8):∀ t,(rowW F blk t).length=t
 | 0=>rfl
 | t+1=>by simp [rowW,qaC F blk t]
theorem pieceN_lt (e:Nat) (blk:List UInt8) (t:Nat):pieceN e blk t<256^e:=by
 have h:=beN_lt ((blk.drop (t*e)).take e);have h2:((blk.drop (t*e)).take e).length≤e:=List.length_take_le _ _;exact Nat.lt_of_lt_of_le h (Nat.pow_le_pow_right (by omega) h2)
theorem qci (F:ShaF) (hb:256^(F.bits/8)=2^F.bits) (blk:List UInt8):∀ t,∀ x ∈ rowW F blk t,x<2^F.bits
 | 0,x,hx=>by simp [rowW] at hx
 | t+1,x,hx=>by
  simp only [rowW,List.mem_append,List.mem_singleton] at hx
  rcases hx with hx | rfl
  ·exact qci F hb blk t x hx
  ·split
   ·rw [← hb]; exact pieceN_lt _ _ _
   ·exact Nat.mod_lt _ (Nat.two_pow_pos _)
theorem qbZ {l:List Nat} {b:Nat} (h:∀ x ∈ l,x<b) (hb:0<b) (i:Nat):l.getD i 0<b:=by
 by_cases hi:i<l.length
 ·rw [List.getD_eq_getElem?_getD,List.getElem?_eq_getElem hi]; exact h _ (List.getElem_mem hi)
 ·rw [List.getD_eq_getElem?_getD,List.getElem?_eq_none (by omega)]; exact hb
def wordsV (K:IntKind) (l:List Nat):List Value:=l.map fun n:Nat=>Value.int K (n:Int)
theorem qaL (K:IntKind) (l:List Nat):(wordsV K l).length=l.length:=by simp [wordsV]
def rowC (K:IntKind) (l:List Nat) (m:Nat):Array Value:=(wordsV K l++List.replicate m (Value.int K 0)).toArray
def rowP (K:IntKind) (l:List Nat) (x m:Nat):Array Value:=(wordsV K l++(Value.int K (x:Int)) :: List.replicate m (Value.int K 0)).toArray
theorem qcK (K:IntKind) (l:List Nat) (m:Nat):rowC K l (m+1)=rowP K l 0 m:=by simp [rowC,rowP,List.replicate_succ]
theorem qc3 (K:IntKind) (l:List Nat) (x m:Nat):rowP K l x m=rowC K (l++[x]) m:=by simp [rowC,rowP,wordsV]
theorem rowP_size (K:IntKind) (l:List Nat) (x m:Nat):(rowP K l x m).size=l.length+m+1:=by simp [rowP,wordsV]; omega
theorem rowP_at (K:IntKind) (l:List Nat) (x m:Nat):(rowP K l x m)[l.length]?=some (Value.int K (x:Int)):=by
 simp [rowP,wordsV]
theorem qdK (K:IntKind) (l:List Nat) (x y m:Nat):(rowP K l x m).setIfInBounds l.length (Value.int K (y:Int))=rowP K l y m:=by
 apply Array.ext';simp [rowP,Array.toList_setIfInBounds,wordsV,List.set_append]
theorem rowC_get (K:IntKind) (l:List Nat) (m i:Nat) (h:i<l.length):(rowC K l m)[i]?=some (Value.int K ((l.getD i 0:Nat):Int)):=by
 simp [rowC,wordsV,List.getElem?_append,h]
theorem qb9 (K:IntKind) (l:List Nat) (x m i:Nat) (h:i<l.length):(rowP K l x m)[i]?=some (Value.int K ((l.getD i 0:Nat):Int)):=by
 rw [qc3,rowC_get K _ _ i (by simp; omega)];simp [List.getElem?_append,h]
def stepsN:List Nat:=[4794697086780616226,8158064640168781261,13096744586834688815,16840607885511220156,4131703408338449720,6480981068601479193,10538285296894168987,12329834152419229976,15566598209576043074,1334009975649890238,2608012711638119052,6128411473006802146,8268148722764581231,9286055187155687089,11230858885718282805,13951009754708518548,16472876342353939154,17275323862435702243,1135362057144423861,2597628984639134821,3308224258029322869,5365058923640841347,6679025012923562964,8573033837759648693,10970295158949994411,12119686244451234320,12683024718118986047,13788192230050041572,14330467153632333762,15395433587784984357,489312712824947311,1452737877330783856,2861767655752347644,3322285676063803686,5560940570517711597,5996557281743188959,7280758554555802590,8532644243296465576,9350256976987008742,10552545826968843579,11727347734174303076,12113106623233404929,14000437183269869457,14369950271660146224,15101387698204529176,15463397548674623760,17586052441742319658,1182934255886127544,1847814050463011016,2177327727835720531,2830643537854262169,3796741975233480872,4115178125766777443,5681478168544905931,6601373596472566643,7507060721942968483,8399075790359081724,8693463985226723168,9568029438360202098,10144078919501101548,10430055236837252648,11840083180663258601,13761210420658862357,14299343276471374635,14566680578165727644,15097957966210449927,16922976911328602910,17689382322260857208,500013540394364858,748580250866718886,1242879168328830382,1977374033974150939,2944078676154940804,3659926193048069267,4368137639120453308,4836135668995329356,5532061633213252278,6448918945643986474,6902733635092675308,7801388544844847127]
theorem stepsN_length:stepsN.length=80:=by decide +kernel
theorem stepsN_all:(stepsN.all fun x=>decide (x<18446744073709551616))=true:=by decide +kernel
theorem stepsN_lt (i:Nat):stepsN.getD i 0<18446744073709551616 :=
 qbZ (fun x hx=>by simpa using (List.all_eq_true.1 stepsN_all) x hx) (by decide) i
def kN (F:ShaF) (t:Nat):Nat:=stepsN.getD t 0/2^(64 - F.bits)%2^F.bits
structure S8 where
 a:Nat
 b:Nat
 c:Nat
 d:Nat
 e:Nat
 f:Nat
 g:Nat
 h:Nat
structure S8.Lt (s:S8) (m:Nat):Prop where
 a:s.a<m
 b:s.b<m
 c:s.c<m
 d:s.d<m
 e:s.e<m
 f:s.f<m
 g:s.g<m
 h:s.h<m
def mixX (F:ShaF) (s:S8) (k w:Nat):Nat:=(s.h+allF F s.e F.s1 false+((s.e &&& s.f) ^^^ ((2^F.bits - 1 - s.e) &&& s.g))+k+w)%2^F.bits
def mixY (F:ShaF) (s:S8):Nat:=(allF F s.a F.s0 false+((s.a &&& s.b) ^^^ (s.a &&& s.c) ^^^ (s.b &&& s.c)))%2^F.bits
theorem mixX_32 (h al ch k w:Nat):(h+al+ch+k+w)%2^32=((((h+al%4294967296)%2^32+ch)%2^32+k)%2^32+w)%2^32:=by omega
theorem mixX_64 (h al ch k w:Nat):(h+al+ch+k+w)%2^64=((((h+al)%2^64+ch)%2^64+k)%2^64+w)%2^64:=by omega
theorem mixY_32 (al mj:Nat):(al+mj)%2^32=(al%4294967296+mj)%2^32:=by omega
theorem mixY_64 (al mj:Nat):(al+mj)%2^64=(al+mj)%2^64:=rfl
def stepS (F:ShaF) (s:S8) (k w:Nat):S8:=⟨(mixX F s k w+mixY F s)%2^F.bits,s.a,s.b,s.c,(s.d+mixX F s k w)%2^F.bits,s.e,s.f,s.g⟩
def mixTo (F:ShaF) (r:List Nat) (s:S8):Nat→S8
 | 0=>s
 | t+1=>stepS F (mixTo F r s t) (kN F t) (r.getD t 0)
def addS (F:ShaF) (s v:S8):S8:=⟨(v.a+s.a)%2^F.bits,(v.b+s.b)%2^F.bits,(v.c+s.c)%2^F.bits,(v.d+s.d)%2^F.bits,(v.e+s.e)%2^F.bits,(v.f+s.f)%2^F.bits,(v.g+s.g)%2^F.bits,(v.h+s.h)%2^F.bits⟩
def mixS (F:ShaF) (s:S8) (blk:List UInt8):S8:=addS F s (mixTo F (rowW F blk F.many) s F.many)
theorem stepS_lt {F:ShaF} {s:S8} {k w:Nat} (h:s.Lt (2^F.bits)):(stepS F s k w).Lt (2^F.bits) :=
 ⟨Nat.mod_lt _ (Nat.two_pow_pos _),h.a,h.b,h.c,Nat.mod_lt _ (Nat.two_pow_pos _),h.e,h.f,h.g⟩
theorem qc9 {F:ShaF} {r:List Nat} {s:S8} (h:s.Lt (2^F.bits)):∀ t,(mixTo F r s t).Lt (2^F.bits)
 | 0=>h
 | t+1=>stepS_lt (qc9 h t)
theorem addS_lt (F:ShaF) (s v:S8):(addS F s v).Lt (2^F.bits):=by
 constructor <;> exact Nat.mod_lt _ (Nat.two_pow_pos _)
def s8V (K:IntKind) (s:S8):Array Value:=#[.int K (s.a:Int),.int K (s.b:Int),.int K (s.c:Int),.int K (s.d:Int),.int K (s.e:Int),.int K (s.f:Int),.int K (s.g:Int),.int K (s.h:Int)]
def s8L (s:S8):List Nat:=[s.a,s.b,s.c,s.d,s.e,s.f,s.g,s.h]
def addC (K:IntKind) (F:ShaF) (s v:S8) (i:Nat):Array Value:=(wordsV K ((s8L (addS F s v)).take i++(s8L v).drop i)).toArray
theorem addC_zero (K:IntKind) (F:ShaF) (s v:S8):addC K F s v 0=s8V K v:=rfl
theorem addC_end (K:IntKind) (F:ShaF) (s v:S8):addC K F s v 8=s8V K (addS F s v):=rfl
theorem addC_size (K:IntKind) (F:ShaF) (s v:S8) (i:Nat):(addC K F s v i).size=8:=by
 simp [addC,wordsV,s8L]; omega
theorem s8V_at (K:IntKind) (s:S8) (i:Nat) (h:i<8):(s8V K s)[i]?=some (.int K (((s8L s).getD i 0:Nat):Int)):=by
 match i,h with
 | 0,_=>rfl
 | 1,_=>rfl
 | 2,_=>rfl
 | 3,_=>rfl
 | 4,_=>rfl
 | 5,_=>rfl
 | 6,_=>rfl
 | 7,_=>rfl
theorem addC_at (K:IntKind) (F:ShaF) (s v:S8) (i:Nat) (h:i<8):(addC K F s v i)[i]?=some (.int K (((s8L v).getD i 0:Nat):Int)):=by
 match i,h with
 | 0,_=>rfl
 | 1,_=>rfl
 | 2,_=>rfl
 | 3,_=>rfl
 | 4,_=>rfl
 | 5,_=>rfl
 | 6,_=>rfl
 | 7,_=>rfl
theorem addC_set (K:IntKind) (F:ShaF) (s v:S8) (i:Nat) (h:i<8):(addC K F s v i).setIfInBounds i (.int K ((((s8L v).getD i 0+(s8L s).getD i 0)%2^F.bits:Nat):Int))=addC K F s v (i+1):=by
 match i,h with
 | 0,_=>rfl
 | 1,_=>rfl
 | 2,_=>rfl
 | 3,_=>rfl
 | 4,_=>rfl
 | 5,_=>rfl
 | 6,_=>rfl
 | 7,_=>rfl
structure TabG (w:World):Prop where
 size:0<w.heap.size
 cell:∀ i,i<80→w.cell? ⟨0,i,none⟩=some (.int .u64 ((stepsN.getD i 0:Nat):Int))
theorem TabG.below {w w':World} {B:Nat} (h:TabG w) (hb:Below B w w') (hB:0<B):TabG w' :=
 ⟨Nat.lt_of_lt_of_le h.size hb.size,fun i hi=>(hb.cell (p:=⟨0,i,none⟩) hB).trans (h.cell i hi)⟩
end Go.Proofs.YtcbkaaodmjphdaaGreatDoor.Sh
namespace Go.Proofs.YtcbkaaodmjphdaaGreatDoor.Sh
set_option linter.unusedSimpArgs false
set_option linter.unusedVariables false
set_option maxRecDepth 100000
set_option maxHeartbeats 4000000
open Go.ChangeShapes Go.WideShapes Go.ChangeAt Go.RowKit Go.Joins
theorem gSteps:Tryz.prog.globalNamed "brevet/sha.steps" = some 0:=by kernel_rfl
theorem tSteps:(Tryz.prog.globals[0]?).map (·.type)=some 149:=by kernel_rfl
theorem c_u64:Tryz.prog.cellsOf 76=1:=by kernel_rfl
def laidL:List (String × DataW Unit):=[("brevet/sha.steps",Rows.laid_brevet_sha_steps)]
theorem steps_datum:(Rows.laid_brevet_sha_steps:DataW Unit)=.agg (stepsN.map fun n:Nat=>DataW.lit (.int .u64 (n:Int))):=by kernel_rfl
theorem door_met (os:Os) (args:Array Value):laidMetH Tryz.prog laidL ((World.doorLaid Tryz.prog 400 os).forCall (fun _ _=>0) ⟨#[],args,[]⟩).memory :=
 laidMetH_of_parts3 (fuel:=8) (laidMet_of_run' 8 (by kernel_rfl) (by kernel_rfl)) (by kernel_rfl) (by kernel_rfl)
theorem tab_of_laid {W:World} (h:laidMetH Tryz.prog laidL W):TabG W:=by
 rw [MakeChecks.laidMetH_plain _ _ _ (by kernel_rfl)] at h;obtain ⟨ps,⟨g0,t0,cs0,f0,p0,q0,hg0,ht0,hv0,hd0,_,_⟩,_,_⟩:=h;obtain rfl:=Option.some.inj (gSteps.symm.trans hg0);obtain rfl:=Option.some.inj (tSteps.symm.trans ht0);obtain ⟨xs,m,rfl,hx,hlen,hn,hel⟩:=DataW.trod_array Tryz.underlying149 hd0;rw [steps_datum] at hx;simp only [Prod.mk.injEq,DataW.agg.injEq] at hx
 have hcell:∀ i,i<80→W.cell? ⟨0,i,none⟩=some (.int .u64 ((stepsN.getD i 0:Nat):Int)):=fun i hi=>by
  have h0:=hel i hi;rw [c_u64,Nat.mul_one] at h0;have hxl:i<xs.length:=by rw [hn]; exact hi
  have hsl:i<stepsN.length:=by rw [stepsN_length]; exact hi
  rw [List.getElem?_eq_getElem hxl] at h0;obtain ⟨k,e1,e2,_⟩:=DataW.trod_int Tryz.underlying76 h0;have h1:(xs.map (·.1))[i]?=(stepsN.map fun n:Nat=>DataW.lit (H:=Unit) (.int .u64 (n:Int)))[i]?:=by rw [hx.1]
  rw [List.getElem?_map,List.getElem?_map,List.getElem?_eq_getElem hxl,List.getElem?_eq_getElem hsl,e2] at h1;simp at h1;subst h1;rw [World.var?_cell hg0 hv0 i]
  have h2:(cs0.toList.drop i)[0]?=some (.int .u64 ((stepsN[i]:Nat):Int)):=by
   have:((cs0.toList.drop i).take 1)[0]?=some (.int .u64 ((stepsN[i]:Nat):Int)):=by rw [e1]; rfl
   rwa [List.getElem?_take,if_pos (by decide)] at this
  rw [List.getElem?_drop,Nat.add_zero] at h2;rw [List.getD_eq_getElem?_getD,List.getElem?_eq_getElem hsl,Option.getD_some,← h2];simp
 refine ⟨?_,hcell⟩;have:=World.block_lt_of_cell? W _ (hcell 0 (by decide));exact this
theorem open_bytes_cap {H:Type} {enc:TypeId × Value→H} {W:World} {base:Nat} {r:Reach} {b0:Nat} {sp:Nat→Bool} {held:Bool} {v:Value} {d:DataW H} {p:List MemPlace}
  (hv:Value.okWide Tryz.prog W r b0 23 v) (h:DataW.Trod enc Tryz.prog W base sp held 23 v d p) :
  ∃ (l:List UInt8) (A:Option Addr) (c:Nat),v=.slice A l.length c∧Rd W W.heap.size A (bytesV l)∧l.length≤c∧c≤9223372036854775807:=by
 have h9:=h;obtain ⟨l,A,c,rfl,hr,hc,_⟩:=open_bytes_arg hv h;refine ⟨l,A,c,rfl,hr,hc,?_⟩;obtain ⟨fuel,hf⟩:=h9
 rcases open_ints Tryz.underlying23 Tryz.underlying5 cells_u8 hf with ⟨e,_⟩ | ⟨a,len,cap,zs,e,_,_,hm,_⟩
 ·simp [Value.cells] at e;omega
 ·simp [Value.cells] at e;unfold maxLen at hm;omega
end Go.Proofs.YtcbkaaodmjphdaaGreatDoor.Sh
namespace Go.Proofs.YtcbkaaodmjphdaaGreatDoor.Sh
set_option linter.unusedSimpArgs false
set_option linter.unusedVariables false
set_option maxRecDepth 100000
set_option maxHeartbeats 4000000
open Go.RowKit
def f64C:Array Value:=#[.int .i64 64,.int .i64 80,.int .i64 28,.int .i64 34,.int .i64 39,.int .i64 14,.int .i64 18,.int .i64 41,.int .i64 1,.int .i64 8,.int .i64 7,.int .i64 19,.int .i64 61,.int .i64 6]
def f32C:Array Value:=#[.int .i64 32,.int .i64 64,.int .i64 2,.int .i64 13,.int .i64 22,.int .i64 6,.int .i64 11,.int .i64 25,.int .i64 7,.int .i64 18,.int .i64 3,.int .i64 17,.int .i64 19,.int .i64 10]
theorem below_new (w:World) (o:Obj):Below w.heap.size w (w.alloc o):=(Below.refl _ _).alloc (Nat.le_refl _) _
theorem qbC (x n:Nat) (w:World) (hx:x<18446744073709551616) (hn:n<64) :
  Calls Tryz.prog 104 #[.agg f64C,.int .u64 x,.int .i64 n] w fun e w'=>e=.returned (.int .u64 (turnedN 64 x n:Nat))∧Below w.heap.size w w':=by
 have c0:=(Blk.new w 105 f64C).cell 0;simp only [f64C,List.getElem?_toArray,List.getElem?_cons_zero] at c0;have hnn:(0:Int)≤(64:Int) - (n:Int):=by omega
 have hn1:(n:Int)<64:=by omega
 have hx1:(x:Int)<18446744073709551616:=by omega
 have HX:=zY hx;clear hx;rw [f64C];go_enter Tryz.func104,Tryz.ntmps104;go_wp2
 go_quiet (fail)
 go_wp2;go_ret;refine ⟨qbd ?_,qbV (below_new _ _) _⟩;exact rot_walk64 x n HX.out
theorem qbD (x n:Nat) (w:World) (hx:x<18446744073709551616) (hn:n<32) :
  Calls Tryz.prog 104 #[.agg f32C,.int .u64 x,.int .i64 n] w fun e w'=>e=.returned (.int .u64 (turnedN 32 x n:Nat))∧Below w.heap.size w w':=by
 have c0:=(Blk.new w 105 f32C).cell 0;simp only [f32C,List.getElem?_toArray,List.getElem?_cons_zero] at c0;have hnn:(0:Int)≤(32:Int) - (n:Int):=by omega
 have hn1:(n:Int)<32:=by omega
 have hx1:(x:Int)<18446744073709551616:=by omega
 have HX:=zY hx;clear hx;rw [f32C];go_enter Tryz.func104,Tryz.ntmps104;go_wp2
 go_quiet (fail)
 go_wp2;go_ret;refine ⟨qbd ?_,qbV (below_new _ _) _⟩;exact rot_walk32' x n
theorem qaG:(Tryz.prog.info? 105).map (·.size)=some 14:=by kernel_rfl
theorem qdm (x p q c:Nat) (shift:Bool) (w:World) (hx:x<18446744073709551616) (hp:p<64) (hq:q<64) (hc:c<64) :
  Calls Tryz.prog 95 #[.agg f64C,.int .u64 x,.agg #[.int .i64 p,.int .i64 q,.int .i64 c],.bool shift] w fun e w'=>e=.returned (.int .u64 (allN 64 x p q c shift:Nat))∧Below w.heap.size w w':=by
 obtain ⟨W0,hW0⟩:=eX (((w.alloc (.cells f64C 105)).alloc (.cells #[.int .i64 p,.int .i64 q,.int .i64 c] 101)));have hb:Below w.heap.size w W0:=by rw [hW0]; exact (below_new _ _).alloc (by simp) _
 have hb4:Blk W0 w.heap.size 105 f64C:=by rw [hW0]; exact (Blk.new _ _ _).alloc _
 have hb6:Blk W0 (w.heap.size+1) 101 #[.int .i64 p,.int .i64 q,.int .i64 c]:=by
  have:=Blk.new (w.alloc (.cells f64C 105)) 101 #[.int .i64 p,.int .i64 q,.int .i64 c];rw [hW0]; simpa using this
 have hl4:=hb4.lt;have hl6:=hb6.lt;have HB:=zY hb;have H4:=zY hb4;have H6:=zY hb6;have HW:=zY hW0;have hu:=Tryz.underlying105;have hx1:(x:Int)<18446744073709551616:=by omega
 have HX:=zY hx;have hc1:(c:Int)<64:=by omega
 obtain ⟨L,hL⟩:∃ L:Nat,L=lastN 64 x c shift:=⟨_,rfl⟩;have HL:=zY hL;have c2:=hb6.cell 2;simp at c2;have hb40:=hb4;have c20:=c2;rw [hW0] at hb40 c20;have hHC:∀ (f:List Value),f=f:=fun _=>rfl;clear hb hb4 hb6 hW0 hx hL hHC
 cases shift with
 | false =>
  go_enter Tryz.func95,Tryz.ntmps95;go_wp2_with (refine qac (x:=.tmp 4) hb40 rfl rfl rfl hu rfl qaG ?_);rw [← HW.out];clear hb40 c20;refine qab (qbC x c W0 HX.out hc) ?_;rintro e w1 ⟨rfl,hb1⟩;rw [show turnedN 64 x c=L from HL.out.symm];have g4:=H4.out.below hb1 hl4;have g6:=H6.out.below hb1 hl6;have hBw:=HB.out.trans (hb1.mono HB.out.size);have h14:=g4.lt;have h16:=g6.lt;have G4:=zY g4;have G6:=zY g6;have HBw:=zY hBw;clear g4 g6 hBw hb1 c2;go_wp2_with fail;have HC0:Below w1.heap.size w1 w1.drew:=(Below.refl _ _).drew;refine qal (fun u=>Below w1.heap.size w1 u) (fun u=>Below w1.heap.size w1 u) [(0,some 20),(1,some 21),(2,some 22),(3,some 23),(4,some 24),(5,some 25),(6,some 26),(7,some 27),(8,some 28),(9,some 29),(10,some 30),(11,some 31),(12,some 32),(13,some 8)] (by kernel_rfl) (by kernel_rfl) (by decide) (by kernel_rfl) (fun _=>rfl) HC0 ?_;apply yN_
  ·apply dP [];exact fun _=>rfl;rfl;rintro vals - w1 hC1 E hE;simp only [sP] at hE ⊢;refine qac (G4.out.below hC1 h14) rfl rfl rfl hu rfl qaG ?_;go_wp2_with fail;exact .mk (hE _ hC1)
  apply yN_
  ·apply dP [];exact fun _=>rfl;rfl;rintro vals ⟨-,-⟩ w1 hC1 E hE;simp only [sP] at hE ⊢;go_wp2;exact .mk (hE _ hC1)
  apply yN_
  ·apply dP [];exact fun _=>rfl;rfl;intro vals vq w1 hC1 E hE;clear vq;simp only [sP] at hE ⊢;go_wp2;exact .mk (hE _ hC1)
  apply yN_
  ·apply dP [(2,some 22)];exact fun _=>rfl;rfl;intro vals vq w1 hC1 E hE;have d0:=(G6.out.below hC1 h16).cell 0;simp at d0;simp only [sP,vq] at hE ⊢;clear vq;go_wp2;exact .mk (hE _ hC1)
  apply yN_
  ·apply dP [(0,some 20),(1,some 21),(3,some 23)];exact fun _=>rfl;rfl;intro vals vq w1 hC1 E hE;simp only [sP,vq] at hE ⊢;clear vq;go_wp2_with fail;refine qab (qbC x p _ HX.out hp) ?_;rintro e w2 ⟨rfl,hb2⟩;go_wp2_with fail;exact .mk (hE _ (hC1.trans (hb2.mono hC1.size)))
  apply yN_
  ·apply dP [];exact fun _=>rfl;rfl;intro vals vq w1 hC1 E hE;clear vq;simp only [sP] at hE ⊢;refine qac (G4.out.below hC1 h14) rfl rfl rfl hu rfl qaG ?_;go_wp2_with fail;exact .mk (hE _ hC1)
  apply yN_
  ·apply dP [];exact fun _=>rfl;rfl;intro vals vq w1 hC1 E hE;clear vq;simp only [sP] at hE ⊢;go_wp2;exact .mk (hE _ hC1)
  apply yN_
  ·apply dP [];exact fun _=>rfl;rfl;intro vals vq w1 hC1 E hE;clear vq;simp only [sP] at hE ⊢;go_wp2;exact .mk (hE _ hC1)
  apply yN_
  ·apply dP [(7,some 27)];exact fun _=>rfl;rfl;intro vals vq w1 hC1 E hE;have d0:=(G6.out.below hC1 h16).cell 1;simp at d0;simp only [sP,vq] at hE ⊢;clear vq;go_wp2;exact .mk (hE _ hC1)
  apply yN_
  ·apply dP [(5,some 25),(6,some 26),(8,some 28),(4,some 24)];exact fun _=>rfl;rfl;intro vals vq w1 hC1 E hE;simp only [sP,vq] at hE ⊢;clear vq;go_wp2_with fail;refine qab (qbC x q _ HX.out hq) ?_;rintro e w2 ⟨rfl,hb2⟩;go_wp2_with fail;exact .mk (hE _ (hC1.trans (hb2.mono hC1.size)))
  apply yN_
  ·apply dP [(4,some 24),(9,some 29)];exact fun _=>rfl;rfl;intro vals vq w1 hC1 E hE;simp only [sP,vq] at hE ⊢;clear vq;go_wp2;exact .mk (hE _ hC1)
  apply yN_
  ·apply dP [];exact fun _=>rfl;rfl;intro vals vq w1 hC1 E hE;clear vq;simp only [sP] at hE ⊢;go_wp2;exact .mk (hE _ hC1)
  apply yN_
  ·apply dP [(10,some 30),(11,some 31)];exact fun _=>rfl;rfl;intro vals vq w1 hC1 E hE;simp only [sP,vq] at hE ⊢;clear vq;go_wp2;exact .mk (hE _ hC1)
  apply yL_
  ·apply dP [(12,some 32),(9,some 29),(0,some 20),(1,some 21),(2,some 22),(3,some 23),(4,some 24),(5,some 25),(6,some 26),(7,some 27),(8,some 28),(9,some 29),(10,some 30),(11,some 31),(12,some 32)];exact fun _=>rfl;rfl;intro vals vq w1 hC1 E hE;simp only [sP,vq] at hE ⊢;clear vq;go_wp2;exact .mk (hE _ hC1)
  intro vals vq w1 hC1;simp only [sP,vq];clear vq;go_wp2_with fail;go_ret;refine ⟨qbd ?_,HBw.out.trans (hC1.mono HBw.out.size)⟩;rw [xor64 _ _ (qaE HX.out) (qaE HX.out),xor64 _ _ (qcF (qaE HX.out) (qaE HX.out)) (by rw [HL.out]; exact qcN HX.out),HL.out];rfl
 | true =>
  go_enter Tryz.func95,Tryz.ntmps95;go_wp2_with (refine qac (x:=.tmp 4) hb40 rfl rfl rfl hu rfl qaG ?_);rw [← HW.out];clear hb40 c20;refine qab (qbC x c W0 HX.out hc) ?_;rintro e w1 ⟨rfl,hb1⟩;have g4:=H4.out.below hb1 hl4;have g6:=H6.out.below hb1 hl6;have hBw:=HB.out.trans (hb1.mono HB.out.size);have h14:=g4.lt;have h16:=g6.lt;have cc:=g6.cell 2;simp at cc;have G4:=zY g4;have G6:=zY g6;have HBw:=zY hBw;clear g4 g6 hBw hb1 c2;go_wp2_with fail;rw [show (x:Int)/2^c=(L:Int) by rw [HL.out,qcc]; rfl];clear cc;have HC0:Below w1.heap.size w1 w1.drew:=(Below.refl _ _).drew;refine qal (fun u=>Below w1.heap.size w1 u) (fun u=>Below w1.heap.size w1 u) [(0,some 20),(1,some 21),(2,some 22),(3,some 23),(4,some 24),(5,some 25),(6,some 26),(7,some 27),(8,some 28),(9,some 29),(10,some 30),(11,some 31),(12,some 32),(13,some 8)] (by kernel_rfl) (by kernel_rfl) (by decide) (by kernel_rfl) (fun _=>rfl) HC0 ?_;apply yN_
  ·apply dP [];exact fun _=>rfl;rfl;rintro vals - w1 hC1 E hE;simp only [sP] at hE ⊢;refine qac (G4.out.below hC1 h14) rfl rfl rfl hu rfl qaG ?_;go_wp2_with fail;exact .mk (hE _ hC1)
  apply yN_
  ·apply dP [];exact fun _=>rfl;rfl;rintro vals ⟨-,-⟩ w1 hC1 E hE;simp only [sP] at hE ⊢;go_wp2;exact .mk (hE _ hC1)
  apply yN_
  ·apply dP [];exact fun _=>rfl;rfl;intro vals vq w1 hC1 E hE;clear vq;simp only [sP] at hE ⊢;go_wp2;exact .mk (hE _ hC1)
  apply yN_
  ·apply dP [(2,some 22)];exact fun _=>rfl;rfl;intro vals vq w1 hC1 E hE;have d0:=(G6.out.below hC1 h16).cell 0;simp at d0;simp only [sP,vq] at hE ⊢;clear vq;go_wp2;exact .mk (hE _ hC1)
  apply yN_
  ·apply dP [(0,some 20),(1,some 21),(3,some 23)];exact fun _=>rfl;rfl;intro vals vq w1 hC1 E hE;simp only [sP,vq] at hE ⊢;clear vq;go_wp2_with fail;refine qab (qbC x p _ HX.out hp) ?_;rintro e w2 ⟨rfl,hb2⟩;go_wp2_with fail;exact .mk (hE _ (hC1.trans (hb2.mono hC1.size)))
  apply yN_
  ·apply dP [];exact fun _=>rfl;rfl;intro vals vq w1 hC1 E hE;clear vq;simp only [sP] at hE ⊢;refine qac (G4.out.below hC1 h14) rfl rfl rfl hu rfl qaG ?_;go_wp2_with fail;exact .mk (hE _ hC1)
  apply yN_
  ·apply dP [];exact fun _=>rfl;rfl;intro vals vq w1 hC1 E hE;clear vq;simp only [sP] at hE ⊢;go_wp2;exact .mk (hE _ hC1)
  apply yN_
  ·apply dP [];exact fun _=>rfl;rfl;intro vals vq w1 hC1 E hE;clear vq;simp only [sP] at hE ⊢;go_wp2;exact .mk (hE _ hC1)
  apply yN_
  ·apply dP [(7,some 27)];exact fun _=>rfl;rfl;intro vals vq w1 hC1 E hE;have d0:=(G6.out.below hC1 h16).cell 1;simp at d0;simp only [sP,vq] at hE ⊢;clear vq;go_wp2;exact .mk (hE _ hC1)
  apply yN_
  ·apply dP [(5,some 25),(6,some 26),(8,some 28),(4,some 24)];exact fun _=>rfl;rfl;intro vals vq w1 hC1 E hE;simp only [sP,vq] at hE ⊢;clear vq;go_wp2_with fail;refine qab (qbC x q _ HX.out hq) ?_;rintro e w2 ⟨rfl,hb2⟩;go_wp2_with fail;exact .mk (hE _ (hC1.trans (hb2.mono hC1.size)))
  apply yN_
  ·apply dP [(4,some 24),(9,some 29)];exact fun _=>rfl;rfl;intro vals vq w1 hC1 E hE;simp only [sP,vq] at hE ⊢;clear vq;go_wp2;exact .mk (hE _ hC1)
  apply yN_
  ·apply dP [];exact fun _=>rfl;rfl;intro vals vq w1 hC1 E hE;clear vq;simp only [sP] at hE ⊢;go_wp2;exact .mk (hE _ hC1)
  apply yN_
  ·apply dP [(10,some 30),(11,some 31)];exact fun _=>rfl;rfl;intro vals vq w1 hC1 E hE;simp only [sP,vq] at hE ⊢;clear vq;go_wp2;exact .mk (hE _ hC1)
  apply yL_
  ·apply dP [(12,some 32),(9,some 29),(0,some 20),(1,some 21),(2,some 22),(3,some 23),(4,some 24),(5,some 25),(6,some 26),(7,some 27),(8,some 28),(9,some 29),(10,some 30),(11,some 31),(12,some 32)];exact fun _=>rfl;rfl;intro vals vq w1 hC1 E hE;simp only [sP,vq] at hE ⊢;clear vq;go_wp2;exact .mk (hE _ hC1)
  intro vals vq w1 hC1;simp only [sP,vq];clear vq;go_wp2_with fail;go_ret;refine ⟨qbd ?_,HBw.out.trans (hC1.mono HBw.out.size)⟩;rw [xor64 _ _ (qaE HX.out) (qaE HX.out),xor64 _ _ (qcF (qaE HX.out) (qaE HX.out)) (by rw [HL.out]; exact qcN HX.out),HL.out];rfl
theorem qdn (x p q c:Nat) (shift:Bool) (w:World) (hx:x<18446744073709551616) (hp:p<32) (hq:q<32) (hc:c<32) :
  Calls Tryz.prog 95 #[.agg f32C,.int .u64 x,.agg #[.int .i64 p,.int .i64 q,.int .i64 c],.bool shift] w fun e w'=>e=.returned (.int .u64 (allN 32 x p q c shift:Nat))∧Below w.heap.size w w':=by
 obtain ⟨W0,hW0⟩:=eX (((w.alloc (.cells f32C 105)).alloc (.cells #[.int .i64 p,.int .i64 q,.int .i64 c] 101)));have hb:Below w.heap.size w W0:=by rw [hW0]; exact (below_new _ _).alloc (by simp) _
 have hb4:Blk W0 w.heap.size 105 f32C:=by rw [hW0]; exact (Blk.new _ _ _).alloc _
 have hb6:Blk W0 (w.heap.size+1) 101 #[.int .i64 p,.int .i64 q,.int .i64 c]:=by
  have:=Blk.new (w.alloc (.cells f32C 105)) 101 #[.int .i64 p,.int .i64 q,.int .i64 c];rw [hW0]; simpa using this
 have hl4:=hb4.lt;have hl6:=hb6.lt;have HB:=zY hb;have H4:=zY hb4;have H6:=zY hb6;have HW:=zY hW0;have hu:=Tryz.underlying105;have hx1:(x:Int)<18446744073709551616:=by omega
 have HX:=zY hx;have hc1:(c:Int)<32:=by omega
 obtain ⟨L,hL⟩:∃ L:Nat,L=lastN 32 x c shift:=⟨_,rfl⟩;have HL:=zY hL;have c2:=hb6.cell 2;simp at c2;have hb40:=hb4;have c20:=c2;rw [hW0] at hb40 c20;have hHC:∀ (f:List Value),f=f:=fun _=>rfl;clear hb hb4 hb6 hW0 hx hL hHC
 cases shift with
 | false =>
  go_enter Tryz.func95,Tryz.ntmps95;go_wp2_with (refine qac (x:=.tmp 4) hb40 rfl rfl rfl hu rfl qaG ?_);rw [← HW.out];clear hb40 c20;refine qab (qbD x c W0 HX.out hc) ?_;rintro e w1 ⟨rfl,hb1⟩;rw [show turnedN 32 x c=L from HL.out.symm];have g4:=H4.out.below hb1 hl4;have g6:=H6.out.below hb1 hl6;have hBw:=HB.out.trans (hb1.mono HB.out.size);have h14:=g4.lt;have h16:=g6.lt;have G4:=zY g4;have G6:=zY g6;have HBw:=zY hBw;clear g4 g6 hBw hb1 c2;go_wp2_with fail;have HC0:Below w1.heap.size w1 w1.drew:=(Below.refl _ _).drew;refine qal (fun u=>Below w1.heap.size w1 u) (fun u=>Below w1.heap.size w1 u) [(0,some 20),(1,some 21),(2,some 22),(3,some 23),(4,some 24),(5,some 25),(6,some 26),(7,some 27),(8,some 28),(9,some 29),(10,some 30),(11,some 31),(12,some 32),(13,some 8)] (by kernel_rfl) (by kernel_rfl) (by decide) (by kernel_rfl) (fun _=>rfl) HC0 ?_;apply yN_
  ·apply dP [];exact fun _=>rfl;rfl;rintro vals - w1 hC1 E hE;simp only [sP] at hE ⊢;refine qac (G4.out.below hC1 h14) rfl rfl rfl hu rfl qaG ?_;go_wp2_with fail;exact .mk (hE _ hC1)
  apply yN_
  ·apply dP [];exact fun _=>rfl;rfl;rintro vals ⟨-,-⟩ w1 hC1 E hE;simp only [sP] at hE ⊢;go_wp2;exact .mk (hE _ hC1)
  apply yN_
  ·apply dP [];exact fun _=>rfl;rfl;intro vals vq w1 hC1 E hE;clear vq;simp only [sP] at hE ⊢;go_wp2;exact .mk (hE _ hC1)
  apply yN_
  ·apply dP [(2,some 22)];exact fun _=>rfl;rfl;intro vals vq w1 hC1 E hE;have d0:=(G6.out.below hC1 h16).cell 0;simp at d0;simp only [sP,vq] at hE ⊢;clear vq;go_wp2;exact .mk (hE _ hC1)
  apply yN_
  ·apply dP [(0,some 20),(1,some 21),(3,some 23)];exact fun _=>rfl;rfl;intro vals vq w1 hC1 E hE;simp only [sP,vq] at hE ⊢;clear vq;go_wp2_with fail;refine qab (qbD x p _ HX.out hp) ?_;rintro e w2 ⟨rfl,hb2⟩;go_wp2_with fail;exact .mk (hE _ (hC1.trans (hb2.mono hC1.size)))
  apply yN_
  ·apply dP [];exact fun _=>rfl;rfl;intro vals vq w1 hC1 E hE;clear vq;simp only [sP] at hE ⊢;refine qac (G4.out.below hC1 h14) rfl rfl rfl hu rfl qaG ?_;go_wp2_with fail;exact .mk (hE _ hC1)
  apply yN_
  ·apply dP [];exact fun _=>rfl;rfl;intro vals vq w1 hC1 E hE;clear vq;simp only [sP] at hE ⊢;go_wp2;exact .mk (hE _ hC1)
  apply yN_
  ·apply dP [];exact fun _=>rfl;rfl;intro vals vq w1 hC1 E hE;clear vq;simp only [sP] at hE ⊢;go_wp2;exact .mk (hE _ hC1)
  apply yN_
  ·apply dP [(7,some 27)];exact fun _=>rfl;rfl;intro vals vq w1 hC1 E hE;have d0:=(G6.out.below hC1 h16).cell 1;simp at d0;simp only [sP,vq] at hE ⊢;clear vq;go_wp2;exact .mk (hE _ hC1)
  apply yN_
  ·apply dP [(5,some 25),(6,some 26),(8,some 28),(4,some 24)];exact fun _=>rfl;rfl;intro vals vq w1 hC1 E hE;simp only [sP,vq] at hE ⊢;clear vq;go_wp2_with fail;refine qab (qbD x q _ HX.out hq) ?_;rintro e w2 ⟨rfl,hb2⟩;go_wp2_with fail;exact .mk (hE _ (hC1.trans (hb2.mono hC1.size)))
  apply yN_
  ·apply dP [(4,some 24),(9,some 29)];exact fun _=>rfl;rfl;intro vals vq w1 hC1 E hE;simp only [sP,vq] at hE ⊢;clear vq;go_wp2;exact .mk (hE _ hC1)
  apply yN_
  ·apply dP [];exact fun _=>rfl;rfl;intro vals vq w1 hC1 E hE;clear vq;simp only [sP] at hE ⊢;go_wp2;exact .mk (hE _ hC1)
  apply yN_
  ·apply dP [(10,some 30),(11,some 31)];exact fun _=>rfl;rfl;intro vals vq w1 hC1 E hE;simp only [sP,vq] at hE ⊢;clear vq;go_wp2;exact .mk (hE _ hC1)
  apply yL_
  ·apply dP [(12,some 32),(9,some 29),(0,some 20),(1,some 21),(2,some 22),(3,some 23),(4,some 24),(5,some 25),(6,some 26),(7,some 27),(8,some 28),(9,some 29),(10,some 30),(11,some 31),(12,some 32)];exact fun _=>rfl;rfl;intro vals vq w1 hC1 E hE;simp only [sP,vq] at hE ⊢;clear vq;go_wp2;exact .mk (hE _ hC1)
  intro vals vq w1 hC1;simp only [sP,vq];clear vq;go_wp2_with fail;go_ret;refine ⟨qbd ?_,HBw.out.trans (hC1.mono HBw.out.size)⟩;rw [xor64 _ _ (qaE HX.out) (qaE HX.out),xor64 _ _ (qcF (qaE HX.out) (qaE HX.out)) (by rw [HL.out]; exact qcN HX.out),HL.out];rfl
 | true =>
  go_enter Tryz.func95,Tryz.ntmps95;go_wp2_with (refine qac (x:=.tmp 4) hb40 rfl rfl rfl hu rfl qaG ?_);rw [← HW.out];clear hb40 c20;refine qab (qbD x c W0 HX.out hc) ?_;rintro e w1 ⟨rfl,hb1⟩;have g4:=H4.out.below hb1 hl4;have g6:=H6.out.below hb1 hl6;have hBw:=HB.out.trans (hb1.mono HB.out.size);have h14:=g4.lt;have h16:=g6.lt;have cc:=g6.cell 2;simp at cc;have G4:=zY g4;have G6:=zY g6;have HBw:=zY hBw;clear g4 g6 hBw hb1 c2;go_wp2_with fail;rw [show (x:Int)/2^c=(L:Int) by rw [HL.out,qcc]; rfl];clear cc;have HC0:Below w1.heap.size w1 w1.drew:=(Below.refl _ _).drew;refine qal (fun u=>Below w1.heap.size w1 u) (fun u=>Below w1.heap.size w1 u) [(0,some 20),(1,some 21),(2,some 22),(3,some 23),(4,some 24),(5,some 25),(6,some 26),(7,some 27),(8,some 28),(9,some 29),(10,some 30),(11,some 31),(12,some 32),(13,some 8)] (by kernel_rfl) (by kernel_rfl) (by decide) (by kernel_rfl) (fun _=>rfl) HC0 ?_;apply yN_
  ·apply dP [];exact fun _=>rfl;rfl;rintro vals - w1 hC1 E hE;simp only [sP] at hE ⊢;refine qac (G4.out.below hC1 h14) rfl rfl rfl hu rfl qaG ?_;go_wp2_with fail;exact .mk (hE _ hC1)
  apply yN_
  ·apply dP [];exact fun _=>rfl;rfl;rintro vals ⟨-,-⟩ w1 hC1 E hE;simp only [sP] at hE ⊢;go_wp2;exact .mk (hE _ hC1)
  apply yN_
  ·apply dP [];exact fun _=>rfl;rfl;intro vals vq w1 hC1 E hE;clear vq;simp only [sP] at hE ⊢;go_wp2;exact .mk (hE _ hC1)
  apply yN_
  ·apply dP [(2,some 22)];exact fun _=>rfl;rfl;intro vals vq w1 hC1 E hE;have d0:=(G6.out.below hC1 h16).cell 0;simp at d0;simp only [sP,vq] at hE ⊢;clear vq;go_wp2;exact .mk (hE _ hC1)
  apply yN_
  ·apply dP [(0,some 20),(1,some 21),(3,some 23)];exact fun _=>rfl;rfl;intro vals vq w1 hC1 E hE;simp only [sP,vq] at hE ⊢;clear vq;go_wp2_with fail;refine qab (qbD x p _ HX.out hp) ?_;rintro e w2 ⟨rfl,hb2⟩;go_wp2_with fail;exact .mk (hE _ (hC1.trans (hb2.mono hC1.size)))
  apply yN_
  ·apply dP [];exact fun _=>rfl;rfl;intro vals vq w1 hC1 E hE;clear vq;simp only [sP] at hE ⊢;refine qac (G4.out.below hC1 h14) rfl rfl rfl hu rfl qaG ?_;go_wp2_with fail;exact .mk (hE _ hC1)
  apply yN_
  ·apply dP [];exact fun _=>rfl;rfl;intro vals vq w1 hC1 E hE;clear vq;simp only [sP] at hE ⊢;go_wp2;exact .mk (hE _ hC1)
  apply yN_
  ·apply dP [];exact fun _=>rfl;rfl;intro vals vq w1 hC1 E hE;clear vq;simp only [sP] at hE ⊢;go_wp2;exact .mk (hE _ hC1)
  apply yN_
  ·apply dP [(7,some 27)];exact fun _=>rfl;rfl;intro vals vq w1 hC1 E hE;have d0:=(G6.out.below hC1 h16).cell 1;simp at d0;simp only [sP,vq] at hE ⊢;clear vq;go_wp2;exact .mk (hE _ hC1)
  apply yN_
  ·apply dP [(5,some 25),(6,some 26),(8,some 28),(4,some 24)];exact fun _=>rfl;rfl;intro vals vq w1 hC1 E hE;simp only [sP,vq] at hE ⊢;clear vq;go_wp2_with fail;refine qab (qbD x q _ HX.out hq) ?_;rintro e w2 ⟨rfl,hb2⟩;go_wp2_with fail;exact .mk (hE _ (hC1.trans (hb2.mono hC1.size)))
  apply yN_
  ·apply dP [(4,some 24),(9,some 29)];exact fun _=>rfl;rfl;intro vals vq w1 hC1 E hE;simp only [sP,vq] at hE ⊢;clear vq;go_wp2;exact .mk (hE _ hC1)
  apply yN_
  ·apply dP [];exact fun _=>rfl;rfl;intro vals vq w1 hC1 E hE;clear vq;simp only [sP] at hE ⊢;go_wp2;exact .mk (hE _ hC1)
  apply yN_
  ·apply dP [(10,some 30),(11,some 31)];exact fun _=>rfl;rfl;intro vals vq w1 hC1 E hE;simp only [sP,vq] at hE ⊢;clear vq;go_wp2;exact .mk (hE _ hC1)
  apply yL_
  ·apply dP [(12,some 32),(9,some 29),(0,some 20),(1,some 21),(2,some 22),(3,some 23),(4,some 24),(5,some 25),(6,some 26),(7,some 27),(8,some 28),(9,some 29),(10,some 30),(11,some 31),(12,some 32)];exact fun _=>rfl;rfl;intro vals vq w1 hC1 E hE;simp only [sP,vq] at hE ⊢;clear vq;go_wp2;exact .mk (hE _ hC1)
  intro vals vq w1 hC1;simp only [sP,vq];clear vq;go_wp2_with fail;go_ret;refine ⟨qbd ?_,HBw.out.trans (hC1.mono HBw.out.size)⟩;rw [xor64 _ _ (qaE HX.out) (qaE HX.out),xor64 _ _ (qcF (qaE HX.out) (qaE HX.out)) (by rw [HL.out]; exact qcN HX.out),HL.out];rfl
theorem qcA (x:Nat) (w:World) (hx:x<18446744073709551616):Calls Tryz.prog 102 #[.int .u64 x] w fun e w'=>e=.returned (.int .u64 x)∧w=w':=by
 have hx1:(x:Int)<18446744073709551616:=by omega
 clear hx;go_enter Tryz.func102,Tryz.ntmps102;go_wp2;go_ret;exact ⟨rfl,rfl⟩
theorem qcB (x:Nat) (w:World) (hx:x<18446744073709551616):Calls Tryz.prog 74 #[.int .u64 x] w fun e w'=>e=.returned (.int .u32 (x%4294967296:Nat))∧w=w':=by
 have hx1:(x:Int)<18446744073709551616:=by omega
 clear hx;go_enter Tryz.func74,Tryz.ntmps74;go_wp2;go_ret;exact ⟨qbd (by omega),rfl⟩
theorem elem32:(Tryz.prog.info? 100).map (fun i=>(i.zero,i.size,i.bytes))=some (some (.int .u32 0),1,4):=by kernel_rfl
theorem one32:(Tryz.prog.info? 100).map (·.size)=some 1:=by kernel_rfl
theorem qcI:(Tryz.prog.info? 101).map (·.size)=some 3:=by kernel_rfl
def RowPost32 (blk:List UInt8) (w:World) (e:Ending) (w':World):Prop :=
 ∃ g,e=.returned (.slice (some ⟨g,0,none⟩) 64 64)∧w.heap.size≤g∧Blk w' g 100 (rowC .u32 (rowW F32 blk 64) 0)∧Below w.heap.size w w'
structure RowSt32 (w:World) (gf gw:Nat) (cs:Array Value) (u:World):Prop where
 below:Below gf w u
 form:Blk u gf 105 f32C
 row:Blk u gw 100 cs
 lw:gf<gw
theorem RowSt32.put {w u u':World} {gf gw:Nat} {cs cs':Array Value} (h:RowSt32 w gf gw cs u) (hw:Wrote gw u u') (hb:Blk u' gw 100 cs'):RowSt32 w gf gw cs' u' :=
 ⟨hw.below h.below (by have:=h.lw; omega) (by have:=h.form.lt; omega),hw.blk h.form (by have:=h.lw; omega),hb,h.lw⟩
theorem RowSt32.next {w u u':World} {gf gw:Nat} {cs:Array Value} (h:RowSt32 w gf gw cs u) (hb:Below u.heap.size u u'):RowSt32 w gf gw cs u' :=
 ⟨h.below.trans (hb.mono (by have:=h.form.lt; omega)),h.form.below hb h.form.lt,h.row.below hb h.row.lt,h.lw⟩
theorem RowSt32.drew {w u:World} {gf gw:Nat} {cs:Array Value} (h:RowSt32 w gf gw cs u):RowSt32 w gf gw cs u.drew:=⟨h.below.drew,h.form,h.row,h.lw⟩
theorem rowSt32_start (w:World) (cs:Array Value):RowSt32 w w.heap.size (w.heap.size+1) cs ((w.alloc (.cells f32C 105)).alloc (.cells cs 100)) :=
 ⟨(below_new _ _).alloc (by simp) _,(Blk.new _ _ _).alloc _,by have:=Blk.new (w.alloc (.cells f32C 105)) 100 cs; simpa using this,by omega⟩
theorem row32_any (blk:List UInt8) (A:Option Addr) (c B:Nat) (w:World) (hr:Rd w B A (bytesV blk)) (hB:B≤w.heap.size) (hl:blk.length=64) (hc:blk.length≤c) (hcm:c≤9223372036854775807) :
  Calls Tryz.prog 94 #[.agg f32C,.slice A blk.length c] w (RowPost32 blk w):=by
 obtain ⟨W0,hW0⟩:=eX (w.alloc (.cells f32C 105));have hb0:Below w.heap.size w W0:=by rw [hW0]; exact below_new _ _
 have hbf:Blk W0 w.heap.size 105 f32C:=by rw [hW0]; exact Blk.new _ _ _
 have hs0:W0.heap.size=w.heap.size+1:=by rw [hW0]; simp
 have c0:=hbf.cell 0;have c1:=hbf.cell 1;simp only [f32C,List.getElem?_toArray,List.getElem?_cons_zero,List.getElem?_cons_succ] at c0 c1;rw [hW0,f32C] at c0 c1;have HB:=zY hb0;have HF:=zY hbf;have HS:=zY hs0;have HR:=zY (hr.mono hB);have HL:=zY hl;have HW:=zY hW0;obtain ⟨ie,hie,hez,hes,heb⟩:=info_parts elem32;have hc2:64≤c:=by omega
 clear hb0 hbf hs0 hr hW0 HB HF HS hl hc;rw [HL.out];rw [f32C];have hmk:∀ u:World,(Instr.makeSlice 147 (.int .i64 64) (.int .i64 64)).run Tryz.prog u=.ok (.slice (some ⟨u.heap.size,0,none⟩) 64 64) (u.alloc (.cells (rowC .u32 [] 64) 100)):=fun _=>by kernel_rfl
 go_enter Tryz.func94,Tryz.ntmps94;go_wp2_with fail;have hst0:=rowSt32_start w (rowC .u32 (rowW F32 blk 0) (64 - 0));generalize hgw:w.heap.size+1=gw at *;generalize hgf:w.heap.size=gf at *;have HGF:=zY hgf;clear hgf hgw c0 c1 hmk
 go_loopw [20] (fun i wr=>∃ t:Nat,t≤64∧i=.int .i64 t∧RowSt32 w gf gw (rowC .u32 (rowW F32 blk t) (64 - t)) wr) (fun i _=>64 - (intOf i).toNat)
 case atStart=>exact ⟨0,by omega,rfl,hst0⟩
 case round =>
  obtain ⟨t,ht,rfl,hst⟩:=hrel;clear hst0;have hlen:=qaC F32 blk t
  by_cases hlt:t<64
  ·have hlt':(t:Int)<64:=by omega
   by_cases h16:t<16
   ·have h16':(t:Int)<16:=by omega
    rw [show 64 - t=(64 - t - 1)+1 by omega,qcK] at hst;obtain ⟨l,hl'⟩:∃ l,l=rowW F32 blk t:=⟨_,rfl⟩;obtain ⟨m,hm⟩:=eX (64 - t - 1);rw [← hl'] at hst hlen;rw [← hm] at hst;have HL':=zY hl';have HM:=zY hm;have HLEN:=zY hlen;have HST:=zY hst;clear hl' hm hlen hst;obtain ⟨ad,rfl,hadB,_⟩:=(HR.out.below HST.out.below).at_ (k:=t*4) (by rw [qap,HL.out]; omega);go_wp2_with fail;rw [show (t+1)*4 - t*4=4 by omega];obtain ⟨pc,hpc⟩:=eX ((blk.drop (t*4)).take 4);have hpl:pc.length=4:=by rw [hpc]; simp; rw [HL.out]; omega
    have hrp:Rd w gf (some (ad.add (t*4))) (bytesV pc):=by rw [hpc,bytesV,List.map_take,List.map_drop]; exact qcu (qcv HR.out (t*4)) 4
    have HPC:=zY hpc;have HRP:=zY hrp;have HPL:=zY hpl;clear hpc hrp hpl;obtain ⟨wo,rfl⟩:∃ wo:World,wo=wr:=⟨_,rfl⟩
    go_loopw [35] (fun i wi=>∃ j:Nat,j≤4∧i=.int .i64 j∧RowSt32 w gf gw (rowP .u32 l (beN (pc.take j)) m) wi) (fun i _=>4 - (intOf i).toNat)
    case atStart=>exact ⟨0,by omega,rfl,by simpa [beN] using HST.out⟩
    case round =>
     obtain ⟨j,hj,rfl,hsi⟩:=hrel
     by_cases hjl:j<4
     ·have hjl':(j:Int)<4:=by omega
      have hpj:j<pc.length:=by rw [HPL.out]; exact hjl
      obtain ⟨ad',hae,_,hcell⟩:=(HRP.out.below hsi.below).at_ (k:=j) (by rw [qap]; exact hpj)
      injection hae with hae
      subst hae;obtain ⟨z,hz⟩:=eX (pc[j]);have hcl:wr.cell? ((ad.add (t*4)).add j)=some (.int .u8 (z.toNat:Int)):=by rw [hcell,hz]; simp [bytesV,byteV]
      have hzl:=z.toNat_lt;have hzl2:(z.toNat:Int)<256:=by omega
      obtain ⟨x,hx⟩:=eX (beN (pc.take j))
      have hxl:x<256^j:=by
       rw [hx];have h1:=beN_lt (pc.take j);have h2:(pc.take j).length≤j:=List.length_take_le _ _;exact Nat.lt_of_lt_of_le h1 (Nat.pow_le_pow_right (by omega) h2)
      have hst:beN (pc.take (j+1))=x*256+z.toNat:=by
       rw [List.take_succ_eq_append_getElem hpj,qdV,hx,hz]
      rw [← hx] at hsi;have crow:=hsi.row.cell t;rw [show (rowP .u32 l x m)[t]?=some (.int .u32 (x:Int)) by have:=rowP_at .u32 l x m; rwa [HLEN.out] at this] at crow;have frow:=hsi.row.free t;have HSI:=zY hsi;have HST2:=zY hst;have HXL:=zY hxl;clear hcell hz hx hst hsi hpj hxl;go_wp2_with fail;refine ⟨⟨j+1,hjl,by go_num,?_⟩,by simp [intOf]; omega⟩;have hx8:x<256^(4 - 1):=Nat.lt_of_lt_of_le HXL.out (Nat.pow_le_pow_right (by omega) (by omega));rw [or_byte32 x z.toNat hx8 hzl,HST2.out];refine HSI.out.put (qai _ _ _ _) ?_;have:=qak (i:=t) HSI.out.row (.int .u32 ((x*256+z.toNat:Nat):Int));have h9:=qdK .u32 l x (x*256+z.toNat) m;rw [HLEN.out] at h9
      rwa [h9] at this
     ·have hjl':¬ (j:Int)<4:=by omega
      have hfin:RowSt32 w gf gw (rowC .u32 (rowW F32 blk (t+1)) (64 - (t+1))) wr:=by
       obtain rfl:j=4:=by omega
       rw [qc3,List.take_of_length_le (by rw [HPL.out]; omega)] at hsi;rw [rowW,if_pos h16,← HL'.out,show 64 - (t+1)=m by rw [HM.out]; omega];rw [show pieceN (F32.bits/8) blk t=beN pc by rw [HPC.out]; rfl];exact hsi
      have HFIN:=zY hfin;clear hfin hsi;go_wp2_with fail;exact ⟨⟨t+1,hlt,by go_num,HFIN.out⟩,by simp [intOf]; omega⟩
   ·have h16':¬ (t:Int)<16:=by omega
    rw [show 64 - t=(64 - t - 1)+1 by omega,qcK] at hst;obtain ⟨l,hl'⟩:∃ l,l=rowW F32 blk t:=⟨_,rfl⟩;obtain ⟨m,hm⟩:=eX (64 - t - 1);have hlw:∀ i,l.getD i 0<2^32:=by rw [hl']; exact qbZ (qci F32 (by decide) blk t) (by decide)
    rw [← hl'] at hst hlen;rw [← hm] at hst;have HL':=zY hl';have HM:=zY hm;have HLEN:=zY hlen;have HLW:=zY hlw;obtain ⟨a15,h15⟩:=eX (l.getD (t - 15) 0);obtain ⟨a2,h2⟩:=eX (l.getD (t - 2) 0);obtain ⟨a16,h16e⟩:=eX (l.getD (t - 16) 0);obtain ⟨a7,h7⟩:=eX (l.getD (t - 7) 0);have w15:a15<2^32:=by rw [h15]; exact hlw _
    have w2:a2<2^32:=by rw [h2]; exact hlw _
    have w16:a16<2^32:=by rw [h16e]; exact hlw _
    have w7:a7<2^32:=by rw [h7]; exact hlw _
    have e15:(rowP .u32 l 0 m)[t - 15]?=some (.int .u32 (a15:Int)):=by rw [qb9 _ _ _ _ _ (by omega),h15]
    have e2:(rowP .u32 l 0 m)[t - 2]?=some (.int .u32 (a2:Int)):=by rw [qb9 _ _ _ _ _ (by omega),h2]
    have e16:(rowP .u32 l 0 m)[t - 16]?=some (.int .u32 (a16:Int)):=by rw [qb9 _ _ _ _ _ (by omega),h16e]
    have e7:(rowP .u32 l 0 m)[t - 7]?=some (.int .u32 (a7:Int)):=by rw [qb9 _ _ _ _ _ (by omega),h7]
    have E15:=zY e15;have E2:=zY e2;have E16:=zY e16;have E7:=zY e7;have W15:=zY (show a15<18446744073709551616 by omega);have W2:=zY (show a2<18446744073709551616 by omega);have W16:=zY w16;have W7:=zY w7;have H15:=zY h15;have H2:=zY h2;have H16:=zY h16e;have H7:=zY h7;have i15:(a15:Int)<4294967296:=by omega
    have i2:(a2:Int)<4294967296:=by omega
    clear hl' hm hlen hlw h15 h2 h16e h7 w15 w2 w16 w7 e15 e2 e16 e7;have hu:=Tryz.underlying105;have hu3:=Tryz.underlying101;have HC0:=hst.drew;clear hst;go_wp2_with fail;refine qal (fun u=>RowSt32 w gf gw (rowP .u32 l 0 m) u) (fun u=>RowSt32 w gf gw (rowP .u32 l 0 m) u) [(0,some 51),(1,some 52),(2,some 53),(3,some 54),(4,some 55),(5,some 56),(6,some 57),(7,some 58),(8,some 59),(9,some 60),(10,some 61),(11,some 62),(12,some 63),(13,some 64),(14,some 65),(15,some 66),(16,some 67),(17,some 68),(18,some 69),(19,some 70),(20,some 71),(21,some 72),(22,some 10),(23,some 11)] (by kernel_rfl) (by kernel_rfl) (by decide) (by kernel_rfl) (fun _=>rfl) HC0 ?_;apply yN_
    ·apply dP [];exact fun _=>rfl;rfl;rintro vals - w1 hC1 E hE;simp only [sP] at hE ⊢;refine qac hC1.form rfl rfl rfl hu rfl qaG ?_;go_wp2_with fail;exact .mk (hE _ hC1)
    apply yN_
    ·apply dP [];exact fun _=>rfl;rfl;rintro vals ⟨-,-⟩ w1 hC1 E hE;simp only [sP] at hE ⊢;go_wp2;exact .mk (hE _ hC1)
    apply yN_
    ·apply dP [];exact fun _=>rfl;rfl;intro vals vq w1 hC1 E hE;clear vq;simp only [sP] at hE ⊢;go_wp2;exact .mk (hE _ hC1)
    apply yN_
    ·apply dP [(2,some 53)];exact fun _=>rfl;rfl;intro vals vq w1 hC1 E hE;simp only [sP,vq] at hE ⊢;clear vq;go_wp2;exact .mk (hE _ hC1)
    apply yN_
    ·apply dP [(1,some 52),(3,some 54)];exact fun _=>rfl;rfl;intro vals vq w1 hC1 E hE;simp only [sP,vq] at hE ⊢;clear vq;go_wp2;exact .mk (hE _ hC1)
    apply yN_
    ·apply dP [(4,some 55)];exact fun _=>rfl;rfl;intro vals vq w1 hC1 E hE;have d0:=hC1.row.cell (t - 15);rw [E15.out] at d0;simp only [sP,vq] at hE ⊢;clear vq;go_wp2;exact .mk (hE _ hC1)
    apply yN_
    ·apply dP [(5,some 56)];exact fun _=>rfl;rfl;intro vals vq w1 hC1 E hE;simp only [sP,vq] at hE ⊢;clear vq;go_wp2;exact .mk (hE _ hC1)
    apply yN_
    ·apply dP [];exact fun _=>rfl;rfl;intro vals vq w1 hC1 E hE;clear vq;simp only [sP] at hE ⊢;go_wp2;exact .mk (hE _ hC1)
    apply yN_
    ·apply dP [(7,some 58)];exact fun _=>rfl;rfl;intro vals vq w1 hC1 E hE;simp only [sP,vq] at hE ⊢;clear vq;go_wp2;exact .mk (hE _ hC1)
    apply yN_
    ·apply dP [(8,some 59)];exact fun _=>rfl;rfl;intro vals vq w1 hC1 E hE;simp only [sP,vq] at hE ⊢;clear vq;refine qan (n:=3) (r:=#[.int .i64 7,.int .i64 18,.int .i64 3]) hC1.form (by decide) rfl rfl rfl rfl hu3 rfl qcI ?_;go_wp2_with fail;exact .mk (hE _ hC1)
    apply yN_
    ·apply dP [(0,some 51),(6,some 57),(9,some 60)];exact fun _=>rfl;rfl;intro vals vq w1 hC1 E hE;simp only [sP,vq] at hE ⊢;clear vq;go_wp2_with fail;refine qab (qdn a15 7 18 3 true _ W15.out (by decide) (by decide) (by decide)) ?_;rintro e w2 ⟨rfl,hb2⟩;go_wp2_with fail;exact .mk (hE _ (hC1.next hb2))
    apply yN_
    ·apply dP [];exact fun _=>rfl;rfl;intro vals vq w1 hC1 E hE;clear vq;simp only [sP] at hE ⊢;refine qac hC1.form rfl rfl rfl hu rfl qaG ?_;go_wp2_with fail;exact .mk (hE _ hC1)
    apply yN_
    ·apply dP [];exact fun _=>rfl;rfl;intro vals vq w1 hC1 E hE;clear vq;simp only [sP] at hE ⊢;go_wp2;exact .mk (hE _ hC1)
    apply yN_
    ·apply dP [];exact fun _=>rfl;rfl;intro vals vq w1 hC1 E hE;clear vq;simp only [sP] at hE ⊢;go_wp2;exact .mk (hE _ hC1)
    apply yN_
    ·apply dP [(13,some 64)];exact fun _=>rfl;rfl;intro vals vq w1 hC1 E hE;simp only [sP,vq] at hE ⊢;clear vq;go_wp2;exact .mk (hE _ hC1)
    apply yN_
    ·apply dP [(12,some 63),(14,some 65)];exact fun _=>rfl;rfl;intro vals vq w1 hC1 E hE;simp only [sP,vq] at hE ⊢;clear vq;go_wp2;exact .mk (hE _ hC1)
    apply yN_
    ·apply dP [(15,some 66)];exact fun _=>rfl;rfl;intro vals vq w1 hC1 E hE;have d0:=hC1.row.cell (t - 2);rw [E2.out] at d0;simp only [sP,vq] at hE ⊢;clear vq;go_wp2;exact .mk (hE _ hC1)
    apply yN_
    ·apply dP [(16,some 67)];exact fun _=>rfl;rfl;intro vals vq w1 hC1 E hE;simp only [sP,vq] at hE ⊢;clear vq;go_wp2;exact .mk (hE _ hC1)
    apply yN_
    ·apply dP [];exact fun _=>rfl;rfl;intro vals vq w1 hC1 E hE;clear vq;simp only [sP] at hE ⊢;go_wp2;exact .mk (hE _ hC1)
    apply yN_
    ·apply dP [(18,some 69)];exact fun _=>rfl;rfl;intro vals vq w1 hC1 E hE;simp only [sP,vq] at hE ⊢;clear vq;go_wp2;exact .mk (hE _ hC1)
    apply yN_
    ·apply dP [(19,some 70)];exact fun _=>rfl;rfl;intro vals vq w1 hC1 E hE;simp only [sP,vq] at hE ⊢;clear vq;refine qan (n:=3) (r:=#[.int .i64 17,.int .i64 19,.int .i64 10]) hC1.form (by decide) rfl rfl rfl rfl hu3 rfl qcI ?_;go_wp2_with fail;exact .mk (hE _ hC1)
    apply yN_
    ·apply dP [(11,some 62),(17,some 68),(20,some 71),(10,some 61)];exact fun _=>rfl;rfl;intro vals vq w1 hC1 E hE;simp only [sP,vq] at hE ⊢;clear vq;go_wp2_with fail;refine qab (qdn a2 17 19 10 true _ W2.out (by decide) (by decide) (by decide)) ?_;rintro e w2 ⟨rfl,hb2⟩;go_wp2_with fail;exact .mk (hE _ (hC1.next hb2))
    apply yN_
    ·apply dP [(10,some 61),(21,some 72),(0,some 51),(1,some 52),(2,some 53),(3,some 54),(4,some 55),(5,some 56),(6,some 57),(7,some 58),(8,some 59),(9,some 60),(10,some 61)];exact fun _=>rfl;rfl;intro vals vq w1 hC1 E hE;simp only [sP,vq] at hE ⊢;clear vq;go_wp2;exact .mk (hE _ hC1)
    apply yL_
    ·apply dP [(21,some 72),(22,some 10),(0,some 51),(1,some 52),(2,some 53),(3,some 54),(4,some 55),(5,some 56),(6,some 57),(7,some 58),(8,some 59),(9,some 60),(10,some 61),(11,some 62),(12,some 63),(13,some 64),(14,some 65),(15,some 66),(16,some 67),(17,some 68),(18,some 69),(19,some 70),(20,some 71),(21,some 72),(22,some 10)];exact fun _=>rfl;rfl;intro vals vq w1 hC1 E hE;simp only [sP,vq] at hE ⊢;clear vq;go_wp2;exact .mk (hE _ hC1)
    intro vals vq w1 hC1;simp only [sP,vq];clear vq;obtain ⟨X,hX⟩:∃ X:Nat,X=allN 32 a15 7 18 3 true:=⟨_,rfl⟩;obtain ⟨Y,hY⟩:∃ X:Nat,X=allN 32 a2 17 19 10 true:=⟨_,rfl⟩;rw [← hX,← hY];obtain ⟨NV,hNV⟩:∃ v:Nat,v=(a16+a7+(X+Y))%2^32:=⟨_,rfl⟩;have HX:=zY hX;have HY:=zY hY;have HNV:=zY hNV;have lX:(X:Int)<18446744073709551616:=by have:=qcD (b:=32) (p:=7) (q:=18) (c:=3) (shift:=true) W15.out; rw [← HX.out] at this; omega
    have lY:(Y:Int)<18446744073709551616:=by have:=qcD (b:=32) (p:=17) (q:=19) (c:=10) (shift:=true) W2.out; rw [← HY.out] at this; omega
    have l16:(a16:Int)<4294967296:=by have:=W16.out; omega
    have l7:(a7:Int)<4294967296:=by have:=W7.out; omega
    clear HC0 hX hY hNV;go_wp2_with fail;have HC0:=hC1.drew;refine qal (fun u=>RowSt32 w gf gw (rowP .u32 l 0 m) u) (fun u=>RowSt32 w gf gw (rowP .u32 l NV m) u) [(0,some 73),(1,some 74),(2,some 75),(3,some 76),(4,some 77),(5,some 78),(6,some 79),(7,some 80),(8,some 81),(9,some 82),(10,some 83),(11,some 84),(12,some 85),(13,some 86),(14,some 87),(15,some 88),(16,some 89),(17,some 90),(18,some 91),(19,none)] (by kernel_rfl) (by kernel_rfl) (by decide) (by kernel_rfl) (fun _=>rfl) HC0 ?_;apply yN_
    ·apply dP [];exact fun _=>rfl;rfl;rintro vals - w1 hC1 E hE;simp only [sP] at hE ⊢;go_wp2;exact .mk (hE _ hC1)
    apply yN_
    ·apply dP [];exact fun _=>rfl;rfl;rintro vals ⟨-,-⟩ w1 hC1 E hE;simp only [sP] at hE ⊢;go_wp2;exact .mk (hE _ hC1)
    apply yN_
    ·apply dP [];exact fun _=>rfl;rfl;intro vals vq w1 hC1 E hE;clear vq;simp only [sP] at hE ⊢;go_wp2;exact .mk (hE _ hC1)
    apply yN_
    ·apply dP [];exact fun _=>rfl;rfl;intro vals vq w1 hC1 E hE;clear vq;simp only [sP] at hE ⊢;go_wp2;exact .mk (hE _ hC1)
    apply yN_
    ·apply dP [(3,some 76)];exact fun _=>rfl;rfl;intro vals vq w1 hC1 E hE;simp only [sP,vq] at hE ⊢;clear vq;go_wp2;exact .mk (hE _ hC1)
    apply yN_
    ·apply dP [(2,some 75),(4,some 77)];exact fun _=>rfl;rfl;intro vals vq w1 hC1 E hE;simp only [sP,vq] at hE ⊢;clear vq;go_wp2;exact .mk (hE _ hC1)
    apply yN_
    ·apply dP [(5,some 78)];exact fun _=>rfl;rfl;intro vals vq w1 hC1 E hE;have d0:=hC1.row.cell (t - 16);rw [E16.out] at d0;simp only [sP,vq] at hE ⊢;clear vq;go_wp2;exact .mk (hE _ hC1)
    apply yN_
    ·apply dP [];exact fun _=>rfl;rfl;intro vals vq w1 hC1 E hE;clear vq;simp only [sP] at hE ⊢;go_wp2;exact .mk (hE _ hC1)
    apply yN_
    ·apply dP [];exact fun _=>rfl;rfl;intro vals vq w1 hC1 E hE;clear vq;simp only [sP] at hE ⊢;go_wp2;exact .mk (hE _ hC1)
    apply yN_
    ·apply dP [(8,some 81)];exact fun _=>rfl;rfl;intro vals vq w1 hC1 E hE;simp only [sP,vq] at hE ⊢;clear vq;go_wp2;exact .mk (hE _ hC1)
    apply yN_
    ·apply dP [(7,some 80),(9,some 82)];exact fun _=>rfl;rfl;intro vals vq w1 hC1 E hE;simp only [sP,vq] at hE ⊢;clear vq;go_wp2;exact .mk (hE _ hC1)
    apply yN_
    ·apply dP [(10,some 83)];exact fun _=>rfl;rfl;intro vals vq w1 hC1 E hE;have d0:=hC1.row.cell (t - 7);rw [E7.out] at d0;simp only [sP,vq] at hE ⊢;clear vq;go_wp2;exact .mk (hE _ hC1)
    apply yN_
    ·apply dP [(6,some 79),(11,some 84)];exact fun _=>rfl;rfl;intro vals vq w1 hC1 E hE;simp only [sP,vq] at hE ⊢;clear vq;go_wp2;exact .mk (hE _ hC1)
    apply yN_
    ·apply dP [];exact fun _=>rfl;rfl;intro vals vq w1 hC1 E hE;clear vq;simp only [sP] at hE ⊢;go_wp2;exact .mk (hE _ hC1)
    apply yN_
    ·apply dP [];exact fun _=>rfl;rfl;intro vals vq w1 hC1 E hE;clear vq;simp only [sP] at hE ⊢;go_wp2;exact .mk (hE _ hC1)
    apply yN_
    ·apply dP [(13,some 86),(14,some 87)];exact fun _=>rfl;rfl;intro vals vq w1 hC1 E hE;simp only [sP,vq] at hE ⊢;clear vq;go_wp2;exact .mk (hE _ hC1)
    apply yN_
    ·apply dP [(15,some 88)];exact fun _=>rfl;rfl;intro vals vq w1 hC1 E hE;simp only [sP,vq] at hE ⊢;clear vq;go_wp2_with fail;rw [sum64w X Y];refine qab (qcB _ _ (Nat.mod_lt _ (by decide))) ?_;rintro e w2 ⟨rfl,rfl⟩;go_wp2_with fail;exact .mk (hE _ hC1)
    apply yN_
    ·apply dP [(12,some 85),(16,some 89)];exact fun _=>rfl;rfl;intro vals vq w1 hC1 E hE;simp only [sP,vq] at hE ⊢;clear vq;go_wp2;rw [sum32f a16 a7 X Y,← HNV.out];exact .mk (hE _ hC1)
    apply yN_
    ·apply dP [(0,some 73),(1,some 74),(0,some 73),(1,some 74),(2,some 75),(3,some 76),(4,some 77),(5,some 78),(6,some 79),(7,some 80),(8,some 81),(9,some 82),(10,some 83),(11,some 84),(12,some 85),(13,some 86),(14,some 87),(15,some 88),(16,some 89),(17,some 90)];exact fun _=>rfl;rfl;intro vals vq w1 hC1 E hE;simp only [sP,vq] at hE ⊢;clear vq;go_wp2;exact .mk (hE _ hC1)
    apply yL_ (v:=undef)
    ·apply dP [(18,some 91),(17,some 90),(16,some 89),(0,some 73),(1,some 74),(2,some 75),(3,some 76),(4,some 77),(5,some 78),(6,some 79),(7,some 80),(8,some 81),(9,some 82),(10,some 83),(11,some 84),(12,some 85),(13,some 86),(14,some 87),(15,some 88),(16,some 89),(17,some 90)];exact fun _=>rfl;rfl;intro vals vq w1 hC1 E hE;simp only [sP,vq] at hE ⊢;clear vq;refine qam (i:=t) (v:=.int .u32 (NV:Int)) hC1.row rfl rfl rfl rfl one32 (by rw [rowP_size,HLEN.out]; omega) rfl ?_;intro w2 hb2 hw2;go_wp2_with fail;exact .mk (hE _ (hC1.put hw2 (by have h9:=qdK .u32 l 0 NV m; rw [HLEN.out] at h9; rw [h9] at hb2; exact hb2)))
    intro vals vq w1 hC1;simp only [sP,vq];clear vq
    have hfin:RowSt32 w gf gw (rowC .u32 (rowW F32 blk (t+1)) (64 - (t+1))) w1:=by
     rw [qc3] at hC1;rw [rowW,if_neg h16,← HL'.out,show 64 - (t+1)=m by rw [HM.out]; omega]
     have:nextW F32 l t=NV:=by
      rw [HNV.out,nextW,← H16.out,← H7.out,← H15.out,← H2.out,HX.out,HY.out]; rfl
     rw [this];exact hC1
    have HFIN:=zY hfin;clear hfin hC1 HC0;go_wp2_with fail;exact ⟨⟨t+1,hlt,by go_num,HFIN.out⟩,by simp [intOf]; omega⟩
  ·have hge:¬ (t:Int)<64:=by omega
   go_wp2_with fail;go_ret;obtain rfl:t=64:=by omega
   exact ⟨gw,rfl,by rw [HGF.out]; have:=hst.lw; omega,hst.row,by rw [HGF.out]; exact hst.below⟩
theorem qbi:(Tryz.prog.info? 131).map (·.size)=some 8:=by kernel_rfl
structure MixSt32 (w0:World) (gf gr:Nat) (s:S8) (r:Array Value) (v:Array Value) (u:World):Prop where
 bel:Below gf w0 u
 form:Blk u gf 105 f32C
 s:Blk u (gf+1) 131 (s8V .u32 s)
 res:Blk u (gf+1+1) 131 (s8V .u32 ⟨0,0,0,0,0,0,0,0⟩)
 v:Blk u (gf+1+1+1) 131 v
 row:Blk u gr 100 r
 lr:gf+1+1+1<gr
theorem MixSt32.next {w0:World} {gf gr:Nat} {s:S8} {r v:Array Value} {u u':World} (h:MixSt32 w0 gf gr s r v u) (hb:Below u.heap.size u u'):MixSt32 w0 gf gr s r v u' :=
 ⟨h.bel.trans (hb.mono (by have:=h.form.lt; omega)),h.form.below hb h.form.lt,h.s.below hb h.s.lt,h.res.below hb h.res.lt,h.v.below hb h.v.lt,h.row.below hb h.row.lt,h.lr⟩
theorem MixSt32.drew {w0:World} {gf gr:Nat} {s:S8} {r v:Array Value} {u:World} (h:MixSt32 w0 gf gr s r v u):MixSt32 w0 gf gr s r v u.drew :=
 ⟨h.bel.drew,h.form,h.s,h.res,h.v,h.row,h.lr⟩
theorem MixSt32.put {w0:World} {gf gr:Nat} {s:S8} {r v v':Array Value} {u u':World} (h:MixSt32 w0 gf gr s r v u) (hw:Wrote (gf+1+1+1) u u') (hb:Blk u' (gf+1+1+1) 131 v'):MixSt32 w0 gf gr s r v' u' :=
 ⟨hw.below h.bel (by omega) (by have:=h.form.lt; omega),hw.blk h.form (by omega),hw.blk h.s (by omega),hw.blk h.res (by omega),hb,hw.blk h.row (by have:=h.lr; omega),h.lr⟩
def MixPost32 (s:S8) (blk:List UInt8) (w:World) (e:Ending) (w':World):Prop :=
 e=.returned (.agg (s8V .u32 (mixS F32 s blk)))∧Below w.heap.size w w'
theorem mix32_any (s:S8) (blk:List UInt8) (A:Option Addr) (c B:Nat) (w:World) (hr:Rd w B A (bytesV blk)) (hB:B≤w.heap.size) (hl:blk.length=64) (hc:blk.length≤c) (hcm:c≤9223372036854775807) (hs:s.Lt (2^32)) (hG:TabG w) :
  Calls Tryz.prog 75 #[.agg f32C,.agg (s8V .u32 s),.slice A blk.length c] w (MixPost32 s blk w):=by
 obtain ⟨W0,hW0⟩:∃ W0,W0=((w.alloc (.cells f32C 105)).alloc (.cells (s8V .u32 s) 131)).alloc (.cells (s8V .u32 ⟨0,0,0,0,0,0,0,0⟩) 131):=⟨_,rfl⟩;have hb0:Below w.heap.size w W0:=by rw [hW0]; exact ((below_new _ _).alloc (by simp) _).alloc (by simp; omega) _
 have hs0:W0.heap.size=w.heap.size+1+1+1:=by rw [hW0]; simp
 have hf0:Blk W0 w.heap.size 105 f32C:=by rw [hW0]; exact ((Blk.new _ _ _).alloc _).alloc _
 have hbs0:Blk W0 (w.heap.size+1) 131 (s8V .u32 s):=by
  have:=(Blk.new (w.alloc (.cells f32C 105)) 131 (s8V .u32 s)).alloc (.cells (s8V .u32 ⟨0,0,0,0,0,0,0,0⟩) 131);rw [hW0]; simpa using this
 have hbr0:Blk W0 (w.heap.size+1+1) 131 (s8V .u32 ⟨0,0,0,0,0,0,0,0⟩):=by
  have:=Blk.new ((w.alloc (.cells f32C 105)).alloc (.cells (s8V .u32 s) 131)) 131 (s8V .u32 ⟨0,0,0,0,0,0,0,0⟩);rw [hW0]; simpa using this
 have hbv0:Blk (W0.alloc (.cells (s8V .u32 ⟨0,0,0,0,0,0,0,0⟩) 131)) (w.heap.size+1+1+1) 131 (s8V .u32 ⟨0,0,0,0,0,0,0,0⟩):=by
  have:=Blk.new W0 131 (s8V .u32 ⟨0,0,0,0,0,0,0,0⟩)
  rwa [hs0] at this
 have hbs1:=hbs0;rw [hW0] at hbs1;have HB0:=zY hb0;have HS0:=zY hs0;have HF0:=zY hf0;have HBS0:=zY hbs0;have HBR0:=zY hbr0;have HR:=zY (hr.mono hB);have HL:=zY hl;have HG:=zY hG;have HSL:=zY hs;have hu8:=Tryz.underlying131;have hu:=Tryz.underlying105;have hu3:=Tryz.underlying101;have hc2:64≤c:=by omega
 rw [hW0] at hbv0;have HW:=zY hW0;rw [HL.out];clear hb0 hs0 hf0 hbs0 hbr0 hr hl hG hs hc hW0;go_enter Tryz.func75,Tryz.ntmps75
 go_wp2_with (first
  | (refine qac (x:=.tmp 4) (o:=⟨some 16,_,_,_,_,_⟩) (hbs1) rfl rfl rfl hu8 rfl qbi ?_)
  | (refine qad (x:=.tmp 7) hbv0 rfl rfl rfl rfl qbi rfl (by simp [s8V,Value.oneCell']) ?_; intro w1 hb1 hw1)
  | (refine qac (x:=.tmp 3) (hw1.blk (((Blk.new w 105 f32C).alloc _).alloc _ |>.alloc _) (by omega)) rfl rfl rfl hu rfl qaG ?_))
 have hf1:=hw1.blk (((Blk.new w 105 f32C).alloc (.cells (s8V .u32 s) 131)).alloc (.cells (s8V .u32 ⟨0,0,0,0,0,0,0,0⟩) 131) |>.alloc (.cells (s8V .u32 ⟨0,0,0,0,0,0,0,0⟩) 131)) (by omega);have hs1:Blk w1 (w.heap.size+1) 131 (s8V .u32 s):=hw1.blk (by have:=HBS0.out.alloc (.cells (s8V .u32 ⟨0,0,0,0,0,0,0,0⟩) 131); rwa [HW.out] at this) (by omega);have hr1:Blk w1 (w.heap.size+1+1) 131 (s8V .u32 ⟨0,0,0,0,0,0,0,0⟩):=hw1.blk (by have:=HBR0.out.alloc (.cells (s8V .u32 ⟨0,0,0,0,0,0,0,0⟩) 131); rwa [HW.out] at this) (by omega);have hbel1:Below w.heap.size w w1:=hw1.below (by have:=HB0.out.alloc HB0.out.size (.cells (s8V .u32 ⟨0,0,0,0,0,0,0,0⟩) 131); rwa [HW.out] at this) (by omega) (by simp; omega);have hz1:w1.heap.size=w.heap.size+1+1+1+1:=by rw [hw1.size]; simp
 have HF1:=zY hf1;have HS1:=zY hs1;have HR1:=zY hr1;have HV1:=zY hb1;have HBEL1:=zY hbel1;have HZ1:=zY hz1;have hrow:=row32_any blk A c w1.heap.size w1 ((HR.out.below hbel1).mono hbel1.size) (Nat.le_refl _) HL.out (by rw [HL.out]; exact hc2) hcm;rw [HL.out] at hrow;clear hf1 hs1 hr1 hb1 hbel1 hz1 hw1 hbv0 hbs1 HB0 HS0 HF0 HBS0 HBR0 HW W0;refine qab hrow ?_;rintro e w2 ⟨gr,rfl,hgl,hbr,hbw⟩;clear hrow;obtain ⟨RW,hRW⟩:=eX (rowW F32 blk 64);rw [← hRW] at hbr
 have hst0:MixSt32 w w.heap.size gr s (rowC .u32 RW 0) (s8V .u32 s) w2 :=
  ⟨HBEL1.out.trans (hbw.mono HBEL1.out.size),HF1.out.below hbw HF1.out.lt,HS1.out.below hbw HS1.out.lt,HR1.out.below hbw HR1.out.lt,HV1.out.below hbw HV1.out.lt,hbr,by rw [HZ1.out] at hgl; omega⟩
 have HGP:=zY HG.out.size;have HRW:=zY hRW;clear hbr hbw hgl hRW HF1 HS1 HR1 HV1 HBEL1 HZ1 HR;generalize hgf:w.heap.size=gf at *;have HGF:=zY hgf;clear hgf;go_wp2_with fail
 go_loopw [21] (fun i wr=>∃ k:Nat,k≤64∧i=.int .i64 k∧MixSt32 w gf gr s (rowC .u32 RW 0) (s8V .u32 (mixTo F32 RW s k)) wr) (fun i _=>64 - (intOf i).toNat)
 case atStart=>exact ⟨0,by omega,rfl,hst0⟩
 case round =>
  obtain ⟨k,hk,rfl,hst⟩:=hrel;clear hst0
  by_cases hlt:k<64
  ·have hlt':(k:Int)<64:=by omega
   obtain ⟨vv,hvv⟩:=eX (mixTo F32 RW s k);have hvl:vv.Lt (2^32):=by rw [hvv]; exact qc9 HSL.out k
   rw [← hvv] at hst;have HVV:=zY hvv;obtain ⟨va,vb,vc,vd,ve,vf,vg,vh⟩:=vv;obtain ⟨la,lb,lc,ld,le_,lf,lg,lh⟩:=hvl;dsimp only at la lb lc ld le_ lf lg lh;obtain ⟨wk,hwk⟩:=eX (RW.getD k 0);obtain ⟨kk,hkk⟩:=eX (stepsN.getD k 0);have hRL:RW.length=64:=by rw [HRW.out]; exact qaC _ _ _
   have hwl:wk<2^32:=by rw [hwk,HRW.out]; exact qbZ (qci F32 (by decide) blk 64) (by decide) k
   have hkl:kk<18446744073709551616:=by rw [hkk]; exact stepsN_lt k
   have hcr:(rowC .u32 RW 0)[k]?=some (.int .u32 (wk:Int)):=by rw [rowC_get _ _ _ _ (by rw [hRL]; exact hlt),hwk]
   have HGC:Hid (∀ u,Below gf w u→u.cell? ⟨0,k,none⟩=some (.int .u64 (kk:Int))):=zY fun u hu=>by
    rw [hkk]; exact (HG.out.below hu HGP.out).cell k (by omega)
   have crow:=hst.row.cell k;rw [hcr] at crow;have iwk:(wk:Int)<4294967296:=by omega
   have ikk:(kk:Int)<18446744073709551616:=by omega
   have HWK:=zY hwk;have HKK:=zY hkk;have HL8:=zY (show S8.Lt ⟨va,vb,vc,vd,ve,vf,vg,vh⟩ (2^32) from ⟨la,lb,lc,ld,le_,lf,lg,lh⟩);have HWL:=zY hwl;have HKL:=zY hkl;clear hvv la lb lc ld le_ lf lg lh hwk hkk hRL hwl hkl hcr;have HST:=zY hst;clear hst;go_wp2_with fail;obtain ⟨kn,hkn⟩:=eX (kN F32 k);have hkn2:kk/4294967296%4294967296=kn:=by rw [hkn,kN,← HKK.out]; rfl
   have hknl:kn<2^32:=by rw [hkn]; exact Nat.mod_lt _ (by decide)
   skip
   have HKN:=zY hkn2;have HKNE:=zY hkn;have HKNL:=zY hknl;clear hkn2 hkn hknl;have HC0:=HST.out.drew;refine qal (fun u=>MixSt32 w gf gr s (rowC .u32 RW 0) (s8V .u32 ⟨va,vb,vc,vd,ve,vf,vg,vh⟩) u) (fun u=>MixSt32 w gf gr s (rowC .u32 RW 0) (s8V .u32 ⟨va,vb,vc,vd,ve,vf,vg,vh⟩) u) [(0,some 26),(1,some 27),(2,some 28),(3,some 29),(4,some 30),(5,some 31),(6,some 32),(7,some 33),(8,some 10)] (by kernel_rfl) (by kernel_rfl) (by decide) (by kernel_rfl) (fun _=>rfl) HC0 ?_;apply yN_
   ·apply dP [];exact fun _=>rfl;rfl;rintro vals - w1 hC1 E hE;simp only [sP] at hE ⊢;go_wp2;exact .mk (hE _ hC1)
   apply yN_
   ·apply dP [(0,some 26)];exact fun _=>rfl;rfl;intro vals vq w1 hC1 E hE;simp only [sP,vq] at hE ⊢;clear vq;go_wp2;exact .mk (hE _ hC1)
   apply yN_
   ·apply dP [(1,some 27)];exact fun _=>rfl;rfl;intro vals vq w1 hC1 E hE;have d0:=HGC.out _ hC1.bel;simp only [sP,vq] at hE ⊢;clear vq;go_wp2;exact .mk (hE _ hC1)
   apply yN_
   ·apply dP [];exact fun _=>rfl;rfl;intro vals vq w1 hC1 E hE;clear vq;simp only [sP] at hE ⊢;go_wp2;exact .mk (hE _ hC1)
   apply yN_
   ·apply dP [(3,some 29)];exact fun _=>rfl;rfl;intro vals vq w1 hC1 E hE;have d0:=hC1.form.cell 0;simp [f32C] at d0;simp only [sP,vq] at hE ⊢;clear vq;go_wp2;exact .mk (hE _ hC1)
   apply yN_
   ·apply dP [(4,some 30)];exact fun _=>rfl;rfl;intro vals vq w1 hC1 E hE;simp only [sP,vq] at hE ⊢;clear vq;go_wp2;exact .mk (hE _ hC1)
   apply yN_
   ·apply dP [(2,some 28),(5,some 31)];exact fun _=>rfl;rfl;intro vals vq w1 hC1 E hE;simp only [sP,vq] at hE ⊢;clear vq;go_wp2;exact .mk (hE _ hC1)
   apply yN_
   ·apply dP [(6,some 32)];exact fun _=>rfl;rfl;intro vals vq w1 hC1 E hE;simp only [sP,vq] at hE ⊢;clear vq;go_wp2_with fail;rw [show (kk:Int)/4294967296=((kk/4294967296:Nat):Int) from by omega];refine qab (qcB _ _ (by have:=HKL.out; omega)) ?_;rintro e w2 ⟨rfl,rfl⟩;rw [HKN.out];go_wp2_with fail;exact .mk (hE _ hC1)
   apply yL_
   ·apply dP [(7,some 33),(7,some 33),(0,some 26),(1,some 27),(2,some 28),(3,some 29),(4,some 30),(5,some 31),(6,some 32),(7,some 33)];exact fun _=>rfl;rfl;intro vals vq w1 hC1 E hE;simp only [sP,vq] at hE ⊢;clear vq;go_wp2;exact .mk (hE _ hC1)
   intro vals vq w1 hC1;simp only [sP,vq];clear vq;clear HC0 crow;go_wp2_with fail;have HC0:=hC1.drew;clear hC1;refine qal (fun u=>MixSt32 w gf gr s (rowC .u32 RW 0) (s8V .u32 ⟨va,vb,vc,vd,ve,vf,vg,vh⟩) u) (fun u=>MixSt32 w gf gr s (rowC .u32 RW 0) (s8V .u32 ⟨va,vb,vc,vd,ve,vf,vg,vh⟩) u) [(0,some 34),(1,some 35),(2,some 36),(3,some 37),(4,some 11),(5,some 12)] (by kernel_rfl) (by kernel_rfl) (by decide) (by kernel_rfl) (fun _=>rfl) HC0 ?_;apply yN_
   ·apply dP [];exact fun _=>rfl;rfl;rintro vals - w1 hC1 E hE;simp only [sP] at hE ⊢;go_wp2;exact .mk (hE _ hC1)
   apply yN_
   ·apply dP [(0,some 34)];exact fun _=>rfl;rfl;intro vals vq w1 hC1 E hE;have d0:=hC1.v.cell 0;simp [s8V] at d0;simp only [sP,vq] at hE ⊢;clear vq;go_wp2;exact .mk (hE _ hC1)
   apply yN_
   ·apply dP [];exact fun _=>rfl;rfl;intro vals vq w1 hC1 E hE;clear vq;simp only [sP] at hE ⊢;go_wp2;exact .mk (hE _ hC1)
   apply yN_
   ·apply dP [(2,some 36)];exact fun _=>rfl;rfl;intro vals vq w1 hC1 E hE;have d0:=hC1.v.cell 4;simp [s8V] at d0;simp only [sP,vq] at hE ⊢;clear vq;go_wp2;exact .mk (hE _ hC1)
   apply yN_
   ·apply dP [(1,some 35),(0,some 34),(1,some 35)];exact fun _=>rfl;rfl;intro vals vq w1 hC1 E hE;simp only [sP,vq] at hE ⊢;clear vq;go_wp2;exact .mk (hE _ hC1)
   apply yL_
   ·apply dP [(3,some 37),(4,some 11),(0,some 34),(1,some 35),(2,some 36),(3,some 37),(4,some 11)];exact fun _=>rfl;rfl;intro vals vq w1 hC1 E hE;simp only [sP,vq] at hE ⊢;clear vq;go_wp2;exact .mk (hE _ hC1)
   intro vals vq w1 hC1;simp only [sP,vq];clear vq;clear HC0;have ive:(ve:Int)<4294967296:=by have:=HL8.out.e; dsimp only at this; omega
   have iva:(va:Int)<4294967296:=by have:=HL8.out.a; dsimp only at this; omega
   go_wp2_with fail;have HC0:=hC1.drew;clear hC1;obtain ⟨XA,hXA⟩:=eX (allN 32 ve 6 11 25 false);have lXA:XA<18446744073709551616:=by rw [hXA]; exact qcD (by have:=HL8.out.e; dsimp only at this; omega)
   obtain ⟨ca,hca⟩:=eX (XA%4294967296);obtain ⟨af,haf⟩:=eX (ve &&& vf);obtain ⟨ne,hne⟩:=eX (4294967295 - ve);obtain ⟨ng,hng⟩:=eX (ne &&& vg);obtain ⟨ch,hch⟩:=eX (af ^^^ ng);obtain ⟨p1,hp1⟩:=eX ((vh+ca)%2^32);obtain ⟨p2,hp2⟩:=eX ((p1+ch)%2^32);obtain ⟨p3,hp3⟩:=eX ((p2+kn)%2^32);obtain ⟨xx,hxx⟩:=eX ((p3+wk)%2^32);have HP1:=zY hp1;have HP2:=zY hp2;have HP3:=zY hp3;have HXA:=zY hXA;have LXA:=zY lXA;have HCA:=zY hca;have HAF:=zY haf;have HNE:=zY hne;have HNG:=zY hng;have HCH:=zY hch;have AFL:Hid (af<2^32):=zY (by rw [haf]; exact qbF HL8.out.e);have NEL:Hid (ne<2^32):=zY (by rw [hne]; omega);have NGL:Hid (ng<2^32):=zY (by rw [hng]; exact qbF NEL.out);have HXX:=zY hxx;clear hXA lXA hca haf hne hng hch hxx hp1 hp2 hp3;refine qal (fun u=>MixSt32 w gf gr s (rowC .u32 RW 0) (s8V .u32 ⟨va,vb,vc,vd,ve,vf,vg,vh⟩) u) (fun u=>MixSt32 w gf gr s (rowC .u32 RW 0) (s8V .u32 ⟨va,vb,vc,vd,ve,vf,vg,vh⟩) u) [(0,some 38),(1,some 39),(2,some 40),(3,some 41),(4,some 42),(5,some 43),(6,some 44),(7,some 45),(8,some 46),(9,some 47),(10,some 48),(11,some 49),(12,some 50),(13,some 51),(14,some 52),(15,some 53),(16,some 54),(17,some 55),(18,some 56),(19,some 57),(20,some 58),(21,some 59),(22,some 60),(23,some 61),(24,some 62),(25,some 63),(26,some 13)] (by kernel_rfl) (by kernel_rfl) (by decide) (by kernel_rfl) (fun _=>rfl) HC0 ?_;apply yN_
   ·apply dP [];exact fun _=>rfl;rfl;rintro vals - w1 hC1 E hE;simp only [sP] at hE ⊢;go_wp2;exact .mk (hE _ hC1)
   apply yN_
   ·apply dP [(0,some 38)];exact fun _=>rfl;rfl;intro vals vq w1 hC1 E hE;have d0:=hC1.v.cell 7;simp [s8V] at d0;simp only [sP,vq] at hE ⊢;clear vq;go_wp2;exact .mk (hE _ hC1)
   apply yN_
   ·apply dP [];exact fun _=>rfl;rfl;intro vals vq w1 hC1 E hE;clear vq;simp only [sP] at hE ⊢;refine qac hC1.form rfl rfl rfl hu rfl qaG ?_;go_wp2_with fail;exact .mk (hE _ hC1)
   apply yN_
   ·apply dP [];exact fun _=>rfl;rfl;intro vals vq w1 hC1 E hE;clear vq;simp only [sP] at hE ⊢;go_wp2;exact .mk (hE _ hC1)
   apply yN_
   ·apply dP [(3,some 41)];exact fun _=>rfl;rfl;intro vals vq w1 hC1 E hE;simp only [sP,vq] at hE ⊢;clear vq;go_wp2;exact .mk (hE _ hC1)
   apply yN_
   ·apply dP [];exact fun _=>rfl;rfl;intro vals vq w1 hC1 E hE;clear vq;simp only [sP] at hE ⊢;go_wp2;exact .mk (hE _ hC1)
   apply yN_
   ·apply dP [(5,some 43)];exact fun _=>rfl;rfl;intro vals vq w1 hC1 E hE;simp only [sP,vq] at hE ⊢;clear vq;go_wp2;exact .mk (hE _ hC1)
   apply yN_
   ·apply dP [(6,some 44)];exact fun _=>rfl;rfl;intro vals vq w1 hC1 E hE;simp only [sP,vq] at hE ⊢;clear vq;refine qan (n:=3) (r:=#[.int .i64 6,.int .i64 11,.int .i64 25]) hC1.form (by decide) rfl rfl rfl rfl hu3 rfl qcI ?_;go_wp2_with fail;exact .mk (hE _ hC1)
   apply yN_
   ·apply dP [(2,some 40),(4,some 42),(7,some 45)];exact fun _=>rfl;rfl;intro vals vq w1 hC1 E hE;simp only [sP,vq] at hE ⊢;clear vq;go_wp2_with fail;refine qab (qdn ve 6 11 25 false _ (by have:=HL8.out.e; dsimp only at this; omega) (by decide) (by decide) (by decide)) ?_;rintro e w2 ⟨rfl,hb2⟩;rw [← HXA.out];go_wp2_with fail;exact .mk (hE _ (hC1.next hb2))
   apply yN_
   ·apply dP [(8,some 46),(8,some 46)];exact fun _=>rfl;rfl;intro vals vq w1 hC1 E hE;simp only [sP,vq] at hE ⊢;clear vq;go_wp2_with fail;refine qab (qcB XA _ LXA.out) ?_;rintro e w2 ⟨rfl,rfl⟩;rw [← HCA.out];go_wp2_with fail;exact .mk (hE _ hC1)
   apply yN_
   ·apply dP [(1,some 39),(9,some 47)];exact fun _=>rfl;rfl;intro vals vq w1 hC1 E hE;simp only [sP,vq] at hE ⊢;clear vq;go_wp2;rw [qcE vh ca,← HP1.out];exact .mk (hE _ hC1)
   apply yN_
   ·apply dP [];exact fun _=>rfl;rfl;intro vals vq w1 hC1 E hE;clear vq;simp only [sP] at hE ⊢;go_wp2;exact .mk (hE _ hC1)
   apply yN_
   ·apply dP [];exact fun _=>rfl;rfl;intro vals vq w1 hC1 E hE;clear vq;simp only [sP] at hE ⊢;go_wp2;exact .mk (hE _ hC1)
   apply yN_
   ·apply dP [(12,some 50)];exact fun _=>rfl;rfl;intro vals vq w1 hC1 E hE;have d0:=hC1.v.cell 5;simp [s8V] at d0;simp only [sP,vq] at hE ⊢;clear vq;go_wp2;exact .mk (hE _ hC1)
   apply yN_
   ·apply dP [(11,some 49),(13,some 51)];exact fun _=>rfl;rfl;intro vals vq w1 hC1 E hE;simp only [sP,vq] at hE ⊢;clear vq;go_wp2;rw [and32 ve vf HL8.out.e HL8.out.f,← HAF.out];exact .mk (hE _ hC1)
   apply yN_
   ·apply dP [];exact fun _=>rfl;rfl;intro vals vq w1 hC1 E hE;clear vq;simp only [sP] at hE ⊢;go_wp2;exact .mk (hE _ hC1)
   apply yN_
   ·apply dP [(15,some 53)];exact fun _=>rfl;rfl;intro vals vq w1 hC1 E hE;simp only [sP,vq] at hE ⊢;clear vq;refine qdy (run_not32 ve HL8.out.e) rfl rfl rfl ?_;rw [← HNE.out];go_wp2_with fail;exact .mk (hE _ hC1)
   apply yN_
   ·apply dP [];exact fun _=>rfl;rfl;intro vals vq w1 hC1 E hE;clear vq;simp only [sP] at hE ⊢;go_wp2;exact .mk (hE _ hC1)
   apply yN_
   ·apply dP [(17,some 55)];exact fun _=>rfl;rfl;intro vals vq w1 hC1 E hE;have d0:=hC1.v.cell 6;simp [s8V] at d0;simp only [sP,vq] at hE ⊢;clear vq;go_wp2;exact .mk (hE _ hC1)
   apply yN_
   ·apply dP [(16,some 54),(18,some 56)];exact fun _=>rfl;rfl;intro vals vq w1 hC1 E hE;simp only [sP,vq] at hE ⊢;clear vq;go_wp2;rw [and32 ne vg NEL.out HL8.out.g,← HNG.out];exact .mk (hE _ hC1)
   apply yN_
   ·apply dP [(14,some 52),(19,some 57)];exact fun _=>rfl;rfl;intro vals vq w1 hC1 E hE;simp only [sP,vq] at hE ⊢;clear vq;go_wp2;rw [xor32 af ng AFL.out NGL.out,← HCH.out];exact .mk (hE _ hC1)
   apply yN_
   ·apply dP [(10,some 48),(20,some 58)];exact fun _=>rfl;rfl;intro vals vq w1 hC1 E hE;simp only [sP,vq] at hE ⊢;clear vq;go_wp2;rw [qcE p1 ch,← HP2.out];exact .mk (hE _ hC1)
   apply yN_
   ·apply dP [];exact fun _=>rfl;rfl;intro vals vq w1 hC1 E hE;clear vq;simp only [sP] at hE ⊢;go_wp2;exact .mk (hE _ hC1)
   apply yN_
   ·apply dP [(21,some 59),(22,some 60)];exact fun _=>rfl;rfl;intro vals vq w1 hC1 E hE;simp only [sP,vq] at hE ⊢;clear vq;go_wp2;rw [qcE p2 kn,← HP3.out];exact .mk (hE _ hC1)
   apply yN_
   ·apply dP [];exact fun _=>rfl;rfl;intro vals vq w1 hC1 E hE;clear vq;simp only [sP] at hE ⊢;go_wp2;exact .mk (hE _ hC1)
   apply yN_
   ·apply dP [(23,some 61),(24,some 62)];exact fun _=>rfl;rfl;intro vals vq w1 hC1 E hE;simp only [sP,vq] at hE ⊢;clear vq;go_wp2;rw [qcE p3 wk,← HXX.out];exact .mk (hE _ hC1)
   apply yL_
   ·apply dP [(25,some 63),(9,some 47),(0,some 38),(1,some 39),(2,some 40),(3,some 41),(4,some 42),(5,some 43),(6,some 44),(7,some 45),(8,some 46),(9,some 47),(10,some 48),(11,some 49),(12,some 50),(13,some 51),(14,some 52),(15,some 53),(16,some 54),(17,some 55),(18,some 56),(19,some 57),(20,some 58),(21,some 59),(22,some 60),(23,some 61),(24,some 62),(25,some 63)];exact fun _=>rfl;rfl;intro vals vq w1 hC1 E hE;simp only [sP,vq] at hE ⊢;clear vq;go_wp2;exact .mk (hE _ hC1)
   intro vals vq w1 hC1;simp only [sP,vq];clear vq;clear HC0;go_wp2_with fail;have HC0:=hC1.drew;clear hC1;obtain ⟨YA,hYA⟩:=eX (allN 32 va 2 13 22 false);have lYA:YA<18446744073709551616:=by rw [hYA]; exact qcD (by have:=HL8.out.a; dsimp only at this; omega)
   obtain ⟨cy,hcy⟩:=eX (YA%4294967296);obtain ⟨ab,hab⟩:=eX (va &&& vb);obtain ⟨ac,hac⟩:=eX (va &&& vc);obtain ⟨bc,hbc⟩:=eX (vb &&& vc);obtain ⟨x1,hx1⟩:=eX (ab ^^^ ac);obtain ⟨mj,hmj⟩:=eX (x1 ^^^ bc);obtain ⟨yy,hyy⟩:=eX ((cy+mj)%2^32);have HYA:=zY hYA;have LYA:=zY lYA;have HCY:=zY hcy;have HAB:=zY hab;have HAC:=zY hac;have HBC:=zY hbc;have HX1:=zY hx1;have HMJ:=zY hmj;have HYY:=zY hyy;have ABL:Hid (ab<2^32):=zY (by rw [hab]; exact qbF HL8.out.a);have ACL:Hid (ac<2^32):=zY (by rw [hac]; exact qbF HL8.out.a);have BCL:Hid (bc<2^32):=zY (by rw [hbc]; exact qbF HL8.out.b);have X1L:Hid (x1<2^32):=zY (by rw [hx1]; exact Nat.xor_lt_two_pow ABL.out ACL.out);clear hYA lYA hcy hab hac hbc hx1 hmj hyy;refine qal (fun u=>MixSt32 w gf gr s (rowC .u32 RW 0) (s8V .u32 ⟨va,vb,vc,vd,ve,vf,vg,vh⟩) u) (fun u=>MixSt32 w gf gr s (rowC .u32 RW 0) (s8V .u32 ⟨va,vb,vc,vd,ve,vf,vg,vh⟩) u) [(0,some 64),(1,some 65),(2,some 66),(3,some 67),(4,some 68),(5,some 69),(6,some 70),(7,some 71),(8,some 72),(9,some 73),(10,some 74),(11,some 75),(12,some 76),(13,some 77),(14,some 78),(15,some 79),(16,some 80),(17,some 81),(18,some 82),(19,some 83),(20,some 84),(21,some 85),(22,some 86),(23,some 87),(24,some 14)] (by kernel_rfl) (by kernel_rfl) (by decide) (by kernel_rfl) (fun _=>rfl) HC0 ?_;apply yN_
   ·apply dP [];exact fun _=>rfl;rfl;rintro vals - w1 hC1 E hE;simp only [sP] at hE ⊢;refine qac hC1.form rfl rfl rfl hu rfl qaG ?_;go_wp2_with fail;exact .mk (hE _ hC1)
   apply yN_
   ·apply dP [];exact fun _=>rfl;rfl;rintro vals ⟨-,-⟩ w1 hC1 E hE;simp only [sP] at hE ⊢;go_wp2;exact .mk (hE _ hC1)
   apply yN_
   ·apply dP [(1,some 65)];exact fun _=>rfl;rfl;intro vals vq w1 hC1 E hE;simp only [sP,vq] at hE ⊢;clear vq;go_wp2;exact .mk (hE _ hC1)
   apply yN_
   ·apply dP [];exact fun _=>rfl;rfl;intro vals vq w1 hC1 E hE;clear vq;simp only [sP] at hE ⊢;go_wp2;exact .mk (hE _ hC1)
   apply yN_
   ·apply dP [(3,some 67)];exact fun _=>rfl;rfl;intro vals vq w1 hC1 E hE;simp only [sP,vq] at hE ⊢;clear vq;go_wp2;exact .mk (hE _ hC1)
   apply yN_
   ·apply dP [(4,some 68)];exact fun _=>rfl;rfl;intro vals vq w1 hC1 E hE;simp only [sP,vq] at hE ⊢;clear vq;refine qan (n:=3) (r:=#[.int .i64 2,.int .i64 13,.int .i64 22]) hC1.form (by decide) rfl rfl rfl rfl hu3 rfl qcI ?_;go_wp2_with fail;exact .mk (hE _ hC1)
   apply yN_
   ·apply dP [(0,some 64),(2,some 66),(5,some 69)];exact fun _=>rfl;rfl;intro vals vq w1 hC1 E hE;simp only [sP,vq] at hE ⊢;clear vq;go_wp2_with fail;refine qab (qdn va 2 13 22 false _ (by have:=HL8.out.a; dsimp only at this; omega) (by decide) (by decide) (by decide)) ?_;rintro e w2 ⟨rfl,hb2⟩;rw [← HYA.out];go_wp2_with fail;exact .mk (hE _ (hC1.next hb2))
   apply yN_
   ·apply dP [(6,some 70),(6,some 70)];exact fun _=>rfl;rfl;intro vals vq w1 hC1 E hE;simp only [sP,vq] at hE ⊢;clear vq;go_wp2_with fail;refine qab (qcB YA _ LYA.out) ?_;rintro e w2 ⟨rfl,rfl⟩;rw [← HCY.out];go_wp2_with fail;exact .mk (hE _ hC1)
   apply yN_
   ·apply dP [];exact fun _=>rfl;rfl;intro vals vq w1 hC1 E hE;clear vq;simp only [sP] at hE ⊢;go_wp2;exact .mk (hE _ hC1)
   apply yN_
   ·apply dP [];exact fun _=>rfl;rfl;intro vals vq w1 hC1 E hE;clear vq;simp only [sP] at hE ⊢;go_wp2;exact .mk (hE _ hC1)
   apply yN_
   ·apply dP [(9,some 73)];exact fun _=>rfl;rfl;intro vals vq w1 hC1 E hE;have d0:=hC1.v.cell 1;simp [s8V] at d0;simp only [sP,vq] at hE ⊢;clear vq;go_wp2;exact .mk (hE _ hC1)
   apply yN_
   ·apply dP [(8,some 72),(10,some 74)];exact fun _=>rfl;rfl;intro vals vq w1 hC1 E hE;simp only [sP,vq] at hE ⊢;clear vq;go_wp2;rw [and32 va vb HL8.out.a HL8.out.b,← HAB.out];exact .mk (hE _ hC1)
   apply yN_
   ·apply dP [];exact fun _=>rfl;rfl;intro vals vq w1 hC1 E hE;clear vq;simp only [sP] at hE ⊢;go_wp2;exact .mk (hE _ hC1)
   apply yN_
   ·apply dP [];exact fun _=>rfl;rfl;intro vals vq w1 hC1 E hE;clear vq;simp only [sP] at hE ⊢;go_wp2;exact .mk (hE _ hC1)
   apply yN_
   ·apply dP [(13,some 77)];exact fun _=>rfl;rfl;intro vals vq w1 hC1 E hE;have d0:=hC1.v.cell 2;simp [s8V] at d0;simp only [sP,vq] at hE ⊢;clear vq;go_wp2;exact .mk (hE _ hC1)
   apply yN_
   ·apply dP [(12,some 76),(14,some 78)];exact fun _=>rfl;rfl;intro vals vq w1 hC1 E hE;simp only [sP,vq] at hE ⊢;clear vq;go_wp2;rw [and32 va vc HL8.out.a HL8.out.c,← HAC.out];exact .mk (hE _ hC1)
   apply yN_
   ·apply dP [(11,some 75),(15,some 79)];exact fun _=>rfl;rfl;intro vals vq w1 hC1 E hE;simp only [sP,vq] at hE ⊢;clear vq;go_wp2;rw [xor32 ab ac ABL.out ACL.out,← HX1.out];exact .mk (hE _ hC1)
   apply yN_
   ·apply dP [];exact fun _=>rfl;rfl;intro vals vq w1 hC1 E hE;clear vq;simp only [sP] at hE ⊢;go_wp2;exact .mk (hE _ hC1)
   apply yN_
   ·apply dP [(17,some 81)];exact fun _=>rfl;rfl;intro vals vq w1 hC1 E hE;have d0:=hC1.v.cell 1;simp [s8V] at d0;simp only [sP,vq] at hE ⊢;clear vq;go_wp2;exact .mk (hE _ hC1)
   apply yN_
   ·apply dP [];exact fun _=>rfl;rfl;intro vals vq w1 hC1 E hE;clear vq;simp only [sP] at hE ⊢;go_wp2;exact .mk (hE _ hC1)
   apply yN_
   ·apply dP [(19,some 83)];exact fun _=>rfl;rfl;intro vals vq w1 hC1 E hE;have d0:=hC1.v.cell 2;simp [s8V] at d0;simp only [sP,vq] at hE ⊢;clear vq;go_wp2;exact .mk (hE _ hC1)
   apply yN_
   ·apply dP [(18,some 82),(20,some 84)];exact fun _=>rfl;rfl;intro vals vq w1 hC1 E hE;simp only [sP,vq] at hE ⊢;clear vq;go_wp2;rw [and32 vb vc HL8.out.b HL8.out.c,← HBC.out];exact .mk (hE _ hC1)
   apply yN_
   ·apply dP [(16,some 80),(21,some 85)];exact fun _=>rfl;rfl;intro vals vq w1 hC1 E hE;simp only [sP,vq] at hE ⊢;clear vq;go_wp2;rw [xor32 x1 bc X1L.out BCL.out,← HMJ.out];exact .mk (hE _ hC1)
   apply yN_
   ·apply dP [(7,some 71),(22,some 86)];exact fun _=>rfl;rfl;intro vals vq w1 hC1 E hE;simp only [sP,vq] at hE ⊢;clear vq;go_wp2;rw [qcE cy mj,← HYY.out];exact .mk (hE _ hC1)
   apply yL_
   ·apply dP [(23,some 87),(7,some 71),(0,some 64),(1,some 65),(2,some 66),(3,some 67),(4,some 68),(5,some 69),(6,some 70),(7,some 71),(8,some 72),(9,some 73),(10,some 74),(11,some 75),(12,some 76),(13,some 77),(14,some 78),(15,some 79),(16,some 80),(17,some 81),(18,some 82),(19,some 83),(20,some 84),(21,some 85),(22,some 86),(23,some 87)];exact fun _=>rfl;rfl;intro vals vq w1 hC1 E hE;simp only [sP,vq] at hE ⊢;clear vq;go_wp2;exact .mk (hE _ hC1)
   intro vals vq w1 hC1;simp only [sP,vq];clear vq;clear HC0;go_wp2_with fail;have HC0:=hC1.drew;clear hC1;refine qal (fun u=>MixSt32 w gf gr s (rowC .u32 RW 0) (s8V .u32 ⟨va,vb,vc,vd,ve,vf,vg,vh⟩) u) (fun u=>MixSt32 w gf gr s (rowC .u32 RW 0) (s8V .u32 ⟨va,va,vb,vc,vd,ve,vf,vg⟩) u) [(0,some 88),(1,some 89),(2,some 90)] (by kernel_rfl) (by kernel_rfl) (by decide) (by kernel_rfl) (fun _=>rfl) HC0 ?_;apply yN_
   ·apply dP [];exact fun _=>rfl;rfl;rintro vals - w1 hC1 E hE;simp only [sP] at hE ⊢;go_wp2;exact .mk (hE _ hC1)
   apply yN_
   ·apply dP [];exact fun _=>rfl;rfl;rintro vals ⟨-,-⟩ w1 hC1 E hE;simp only [sP] at hE ⊢;go_wp2;exact .mk (hE _ hC1)
   apply yL_
   ·apply dP [(0,some 88),(1,some 89)];exact fun _=>rfl;rfl;intro vals vq w1 hC1 E hE;simp only [sP,vq] at hE ⊢;clear vq;refine qcr ((s8V .u32 ⟨va,vb,vc,vd,ve,vf,vg,vh⟩).toList.take 7) (new:=s8V .u32 ⟨va,va,vb,vc,vd,ve,vf,vg⟩) hC1.v rfl rfl Tryz.underlying147 one32 rfl rfl rfl (blk_src hC1.v 7) (by simp [s8V]) (by simp [s8V,Value.oneCell']) rfl ?_;intro w2 hb2 hw2;go_wp2_with fail;exact .mk (hE _ (hC1.put hw2 hb2))
   intro vals vq w1 hC1;simp only [sP,vq];clear vq;clear HC0;have d4:=hC1.v.cell 4;simp [s8V] at d4;have d0:=hC1.v.cell 0;simp [s8V] at d0;have g4:=hC1.v.free 4;have g0:=hC1.v.free 0;have HC1:=zY hC1;clear hC1 iwk ikk ive iva;have hu8':=zY hu8;have hu':=zY hu;have hu3':=zY hu3;clear hu8 hu hu3;obtain ⟨dx,hdx⟩:=eX ((vd+xx)%2^32);obtain ⟨xy,hxy⟩:=eX ((xx+yy)%2^32);have HDX:=zY hdx;have HXY:=zY hxy;clear hdx hxy
   have hfin:∀ u,u=(w1.setCell ⟨gf+1+1+1,4,none⟩ (.int .u32 (dx:Int))).setCell ⟨gf+1+1+1,0,none⟩ (.int .u32 (xy:Int))→MixSt32 w gf gr s (rowC .u32 RW 0) (s8V .u32 (mixTo F32 RW s (k+1))) u:=by
    intro u hu;rw [hu,mixTo,← HVV.out];have h1:=HC1.out.put (v':=s8V .u32 ⟨va,va,vb,vc,dx,ve,vf,vg⟩) (qai w1 (gf+1+1+1) 4 (.int .u32 (dx:Int))) (qak (i:=4) HC1.out.v (.int .u32 (dx:Int)));have h2:=h1.put (v':=s8V .u32 ⟨xy,va,vb,vc,dx,ve,vf,vg⟩) (qai _ (gf+1+1+1) 0 (.int .u32 (xy:Int))) (qak (i:=0) h1.v (.int .u32 (xy:Int)))
    have e1:mixX F32 ⟨va,vb,vc,vd,ve,vf,vg,vh⟩ (kN F32 k) (RW.getD k 0)=xx:=by
     rw [HXX.out,HP3.out,HP2.out,HP1.out,HCH.out,HNG.out,HNE.out,HAF.out,HCA.out,HXA.out,HWK.out,HKNE.out];exact mixX_32 _ _ _ _ _
    have e2:mixY F32 ⟨va,vb,vc,vd,ve,vf,vg,vh⟩=yy:=by
     rw [HYY.out,HMJ.out,HX1.out,HAB.out,HAC.out,HBC.out,HCY.out,HYA.out];exact mixY_32 _ _
    have e3:stepS F32 ⟨va,vb,vc,vd,ve,vf,vg,vh⟩ (kN F32 k) (RW.getD k 0)=⟨xy,va,vb,vc,dx,ve,vf,vg⟩:=by
     rw [stepS,e1,e2,HDX.out,HXY.out];rfl
    rw [e3];exact h2
   have HFIN:=zY hfin;clear hfin;go_wp2_with fail;rw [qcE vd xx,qcE xx yy,← HDX.out,← HXY.out];exact ⟨⟨k+1,hlt,by go_num,HFIN.out _ rfl⟩,by simp [intOf]; omega⟩
  ·have hge:¬ (k:Int)<64:=by omega
   obtain rfl:k=64:=by omega
   have HST:=zY hst;clear hst;go_wp2_with fail;obtain ⟨vv,hvv⟩:=eX (mixTo F32 RW s 64);have HVV:=zY hvv;have hst9:MixSt32 w gf gr s (rowC .u32 RW 0) (addC .u32 F32 s vv 0) wr:=by rw [addC_zero,HVV.out]; exact HST.out
   clear hvv HST;obtain ⟨wo,rfl⟩:∃ wo:World,wo=wr:=⟨_,rfl⟩
   go_loopw [101] (fun i wr=>∃ j:Nat,j≤8∧i=.int .i64 j∧MixSt32 w gf gr s (rowC .u32 RW 0) (addC .u32 F32 s vv j) wr) (fun i _=>8 - (intOf i).toNat)
   case atStart=>exact ⟨0,by omega,rfl,hst9⟩
   case round =>
    obtain ⟨j,hj,rfl,hsj⟩:=hrel;clear hst9
    by_cases hj8:j<8
    ·have hj8':(j:Int)<8:=by omega
     obtain ⟨vj,hvj⟩:=eX ((s8L vv).getD j 0);obtain ⟨sj,hsj'⟩:∃ x,x=(s8L s).getD j 0:=⟨_,rfl⟩;obtain ⟨aj,haj⟩:=eX ((vj+sj)%2^32);have E1:Hid ((addC .u32 F32 s vv j)[j]?=some (.int .u32 (vj:Int))):=zY (by rw [addC_at .u32 F32 s vv j hj8,hvj]);have E2:Hid ((s8V .u32 s)[j]?=some (.int .u32 (sj:Int))):=zY (by rw [s8V_at .u32 s j hj8,hsj']);have E3:Hid ((addC .u32 F32 s vv j).setIfInBounds j (.int .u32 (aj:Int))=addC .u32 F32 s vv (j+1)):=zY (by rw [haj,hvj,hsj']; exact addC_set .u32 F32 s vv j hj8);have HAJ:=zY haj;clear hvj hsj' haj;go_wp2_with fail;have HC0:=hsj.drew;clear hsj;refine qal (fun u=>MixSt32 w gf gr s (rowC .u32 RW 0) (addC .u32 F32 s vv j) u) (fun u=>MixSt32 w gf gr s (rowC .u32 RW 0) (addC .u32 F32 s vv (j+1)) u) [(0,some 104),(1,some 105),(2,some 106),(3,some 107),(4,some 108),(5,some 109),(6,some 110),(7,some 111),(8,none)] (by kernel_rfl) (by kernel_rfl) (by decide) (by kernel_rfl) (fun _=>rfl) HC0 ?_;apply yN_
     ·apply dP [];exact fun _=>rfl;rfl;rintro vals - w1 hC1 E hE;simp only [sP] at hE ⊢;go_wp2;exact .mk (hE _ hC1)
     apply yN_
     ·apply dP [(0,some 104)];exact fun _=>rfl;rfl;intro vals vq w1 hC1 E hE;simp only [sP,vq] at hE ⊢;clear vq;go_wp2;exact .mk (hE _ hC1)
     apply yN_
     ·apply dP [(1,some 105)];exact fun _=>rfl;rfl;intro vals vq w1 hC1 E hE;have d0:=hC1.v.cell j;rw [E1.out] at d0;simp only [sP,vq] at hE ⊢;clear vq;go_wp2;exact .mk (hE _ hC1)
     apply yN_
     ·apply dP [];exact fun _=>rfl;rfl;intro vals vq w1 hC1 E hE;clear vq;simp only [sP] at hE ⊢;go_wp2;exact .mk (hE _ hC1)
     apply yN_
     ·apply dP [(3,some 107)];exact fun _=>rfl;rfl;intro vals vq w1 hC1 E hE;simp only [sP,vq] at hE ⊢;clear vq;go_wp2;exact .mk (hE _ hC1)
     apply yN_
     ·apply dP [(4,some 108)];exact fun _=>rfl;rfl;intro vals vq w1 hC1 E hE;have d0:=hC1.s.cell j;rw [E2.out] at d0;simp only [sP,vq] at hE ⊢;clear vq;go_wp2;exact .mk (hE _ hC1)
     apply yN_
     ·apply dP [(2,some 106),(5,some 109)];exact fun _=>rfl;rfl;intro vals vq w1 hC1 E hE;simp only [sP,vq] at hE ⊢;clear vq;go_wp2;rw [qcE vj sj,← HAJ.out];exact .mk (hE _ hC1)
     apply yN_
     ·apply dP [(0,some 104),(0,some 104),(1,some 105),(2,some 106),(3,some 107),(4,some 108),(5,some 109),(6,some 110)];exact fun _=>rfl;rfl;intro vals vq w1 hC1 E hE;simp only [sP,vq] at hE ⊢;clear vq;go_wp2;exact .mk (hE _ hC1)
     apply yL_ (v:=undef)
     ·apply dP [(7,some 111),(6,some 110),(0,some 104),(1,some 105),(2,some 106),(3,some 107),(4,some 108),(5,some 109),(6,some 110)];exact fun _=>rfl;rfl;intro vals vq w1 hC1 E hE;simp only [sP,vq] at hE ⊢;clear vq;refine qam (i:=j) (v:=.int .u32 (aj:Int)) hC1.v rfl rfl rfl rfl one32 (by rw [addC_size]; exact hj8) rfl ?_;intro w2 hb2 hw2;go_wp2_with fail;exact .mk (hE _ (hC1.put hw2 (by rw [E3.out] at hb2; exact hb2)))
     intro vals vq w1 hC1;simp only [sP,vq];clear vq;clear HC0;have HC1:=zY hC1;clear hC1;go_wp2_with fail;exact ⟨⟨j+1,hj8,by go_num,HC1.out⟩,by simp [intOf]; omega⟩
    ·have hge:¬ (j:Int)<8:=by omega
     obtain rfl:j=8:=by omega
     rw [addC_end] at hsj
     go_wp2_with (first
      | (refine qac (x:=.tmp 7) hsj.v rfl rfl rfl hu8 rfl qbi ?_)
      | (refine qad (x:=.tmp 6) hsj.res rfl rfl rfl rfl qbi rfl (by simp [s8V,Value.oneCell']) ?_; intro w5 hb5 hw5))
     refine bodyPost_ret (qau (P:=Tryz.prog) rfl rfl hb5 hu8 rfl qbi) rfl ?_;refine ⟨?_,?_⟩
     ·rw [mixS,HVV.out,HRW.out]; rfl
     ·rw [HGF.out];exact hw5.below hsj.bel (by omega) (by have:=hsj.form.lt; omega)
def zeroN (F:ShaF) (n:Nat):Nat:=(2*F.bits - 8+2*F.bits - (n+1)%(2*F.bits))%(2*F.bits)
def moreN (F:ShaF) (n:Nat):Nat:=if 8<F.bits/4∧2*F.bits - F.bits/4≤n%(2*F.bits)∧n%(2*F.bits)<2*F.bits - 8 then 2*F.bits else 0
def be8 (n:Nat):Nat→List UInt8
 | 0=>[]
 | k+1=>be8 n k++[UInt8.ofNat (n/2^(56 - 8*k))]
def prepS (F:ShaF) (data:List UInt8):List UInt8:=data++[128]++List.replicate (zeroN F data.length) 0++List.replicate (moreN F data.length) 0
def padS (F:ShaF) (data:List UInt8):List UInt8:=data++[128]++List.replicate (zeroN F data.length) 0++List.replicate (moreN F data.length) 0++be8 (data.length*8) 8
def firstN:List Nat:=[7640891576956012808,13503953896175478587,4354685564936845355,11912009170470909681,5840696475078001361,11170449401992604703,2270897969802886507,6620516959819538809]
def startS (F:ShaF):S8 :=
 let f:=fun i=>firstN.getD i 0/2^(64 - F.bits)%2^F.bits
 ⟨f 0,f 1,f 2,f 3,f 4,f 5,f 6,f 7⟩
def runS (F:ShaF) (all:List UInt8):Nat→S8
 | 0=>startS F
 | k+1=>mixS F (runS F all k) ((all.drop (k*(2*F.bits))).take (2*F.bits))
def setC (K:IntKind) (s:S8) (i:Nat):Array Value:=(wordsV K ((s8L s).take i++(s8L ⟨0,0,0,0,0,0,0,0⟩).drop i)).toArray
theorem setC_end (K:IntKind) (s:S8):setC K s 8=s8V K s:=rfl
theorem setC_at (K:IntKind) (s:S8) (i:Nat) (h:i<8):(setC K s i)[i]?=some (.int K 0):=by
 match i,h with
 | 0,_=>rfl
 | 1,_=>rfl
 | 2,_=>rfl
 | 3,_=>rfl
 | 4,_=>rfl
 | 5,_=>rfl
 | 6,_=>rfl
 | 7,_=>rfl
theorem setC_set (K:IntKind) (s:S8) (i:Nat) (h:i<8):(setC K s i).setIfInBounds i (.int K (((s8L s).getD i 0:Nat):Int))=setC K s (i+1):=by
 match i,h with
 | 0,_=>rfl
 | 1,_=>rfl
 | 2,_=>rfl
 | 3,_=>rfl
 | 4,_=>rfl
 | 5,_=>rfl
 | 6,_=>rfl
 | 7,_=>rfl
theorem qd0 (F:ShaF) (i:Nat) (h:i<8):(s8L (startS F)).getD i 0=firstN.getD i 0/2^(64 - F.bits)%2^F.bits:=by
 match i,h with
 | 0,_=>rfl
 | 1,_=>rfl
 | 2,_=>rfl
 | 3,_=>rfl
 | 4,_=>rfl
 | 5,_=>rfl
 | 6,_=>rfl
 | 7,_=>rfl
theorem firstN_all:(firstN.all fun x=>decide (x<18446744073709551616))=true:=by decide +kernel
theorem qeu (i:Nat):firstN.getD i 0<18446744073709551616 :=
 qbZ (fun x hx=>by simpa using (List.all_eq_true.1 firstN_all) x hx) (by decide) i
theorem startS_lt (F:ShaF):(startS F).Lt (2^F.bits):=by
 constructor <;> exact Nat.mod_lt _ (Nat.two_pow_pos _)
theorem mixS_lt (F:ShaF) (s:S8) (blk:List UInt8):(mixS F s blk).Lt (2^F.bits):=addS_lt _ _ _
theorem qct (F:ShaF) (all:List UInt8):∀ k,(runS F all k).Lt (2^F.bits)
 | 0=>startS_lt F
 | _+1=>mixS_lt F _ _
theorem s8L_lt {s:S8} {m:Nat} (h:s.Lt m) (hm:0<m) (i:Nat):(s8L s).getD i 0<m :=
 qbZ (fun x hx=>by
  simp [s8L] at hx
  rcases hx with rfl | rfl | rfl | rfl | rfl | rfl | rfl | rfl
  all_goals first | exact h.a | exact h.b | exact h.c | exact h.d | exact h.e | exact h.f | exact h.g | exact h.h) hm i
def wordB (b:Nat) (x:Nat):Nat→List UInt8
 | 0=>[]
 | k+1=>wordB b x k++[UInt8.ofNat (x/2^(b - 8 - 8*k))]
def digS (F:ShaF) (data:List UInt8):List UInt8:=(s8L (runS F (padS F data) ((padS F data).length/(2*F.bits)))).flatMap fun x=>wordB F.bits x (F.bits/8)
end Go.Proofs.YtcbkaaodmjphdaaGreatDoor.Sh
namespace Go.Proofs.YtcbkaaodmjphdaaGreatDoor
set_option linter.unusedSimpArgs false
set_option linter.unusedVariables false
set_option maxRecDepth 100000
set_option maxHeartbeats 4000000
open Go.RowKit
theorem own_lt {w:World} {base e size n:Nat} {v:Value} {xs:List Value} (h:w.ownsRow base e size v n xs):∀ k,v.ownBlock=some k→base≤k∧k<w.heap.size:=(OwnX.of h).lt
theorem own_mono {w:World} {base base' e size n:Nat} {v:Value} {xs:List Value} (h:w.ownsRow base e size v n xs) (hb:base'≤base):w.ownsRow base' e size v n xs :=
 ⟨h.1,h.2.elim .inl fun ⟨g,cap,cur,hv,hg,r⟩=>.inr ⟨g,cap,cur,hv,Nat.le_trans hb hg,r⟩⟩
theorem qcj {w:World} {base e size n c:Nat} {A:Option Addr} {xs:List Value} (h:OwnX w base e size (.slice A n c) n xs):n≤c∧c≤9223372036854775807:=by
 rcases h.2 with ⟨hv,hn⟩ | ⟨g,cap,cur,fz,hv,_,_,hnc,hcm,_⟩
 ·injection hv with _ _ h3; omega
 ·injection hv with _ _ h3; unfold maxLen at hcm; omega
section
variable {P:Program}
theorem qbl {w0:World} {y:Value} {ops:Array Oper} {rest:List Oper} {o:Oper} {a:Act} {Q:Exit→Act→World→Prop} {s x:Operand} {t e:TypeId} {bytes:Nat} (T:SlT P t e 1 bytes)
  (hgd:o.guard=none) (ho:o.op=.call { callee:=.builtin .append,args:=#[s,x],argTypes:=#[t,t] })
  {base n:Nat} {v:Value} {xs:List Value} {ad:Nat} (hown:w0.ownsRow base e 1 v n xs) (hs:a.eval s=v) (hx:a.eval x=.slice (some ⟨ad,0,none⟩) 1 1) (had:ad=w0.heap.size)
  (hy:y.oneCell'=true)
  (h63:n+1≤maxLen) (hbytes:(n+1)*bytes≤140737488355328) (hbase:base≤w0.heap.size)
  (h:∀ A c w',w'.ownsRow base e 1 (.slice A (n+1) c) (n+1) (xs++[y])→w0.grownBy w' v.ownBlock→wpList P ops Q rest (a.put o.dst (.slice A (n+1) c)) w') :
  wpList P ops Q (o :: rest) a (w0.alloc (.cells #[y] e)):=by
 subst had;obtain ⟨i,z,hi,hz,hsz,hby,hzs⟩:=T.info
 obtain ⟨v',w',hr,h2,h3,_,_⟩:=run_append_own_at (P:=P) (w0.alloc (.cells #[y] e)) base t o.type e i z 1 bytes T.und hi hz hsz hby hzs (by omega) v n xs (hown.alloc _) ⟨w0.heap.size,0,none⟩ 1 1 [y] rfl (fun j u hu=>cell_one_new _ _ _ j u hu)
  (by intro u hu; simp at hu; subst hu; exact hy) h63 hbytes (by simp; omega)
 have hv:∃ A c,v'=.slice A (n+1) c:=by
  rcases h2.2 with ⟨_,h0⟩ | ⟨g,cap,cur,rfl,_⟩
  ·omega
  ·exact ⟨_,_,rfl⟩
 obtain ⟨A,c,rfl⟩:=hv;refine qaU (R:=fun v' w1=>v'=.slice A (n+1) c∧w1=w') hgd ho hs hx ⟨_,_,hr,rfl,rfl⟩ ?_;rintro v' w1 ⟨rfl,rfl⟩;exact h _ _ _ h2 ((World.grownBy_alloc w0 _ _).trans h3)
end
theorem qco (m:Nat):(Builtin.zeroCells (Value.cells (.int .u8 0)) m).toList=List.replicate m (.int .u8 0):=by
 apply List.ext_getElem
 ·simp [Builtin.zeroCells,Value.cells]
 ·intro i h1 h2;simp [Builtin.zeroCells,Value.cells];rw [Nat.mod_one];rfl
section
variable {P:Program}
theorem qdI {w:World} {t u ty e:TypeId} (T:SlT P t e 1 1) (hz0:∃ i,P.info? e=some i∧i.zero=some (.int .u8 0)) (hu:P.underlying u=some (.int .i64))
  {base n m:Nat} {v:Value} {xs:List Value} (hown:OwnX w base e 1 v n xs) (hn:0<n) (hm:0<m) (hbytes:n+m≤140737488355328) (hbase:base≤w.heap.size) :
  ∃ A c w',(Builtin.append_ #[t,u] ty #[v,.int .i64 (m:Int)]).run P w=.ok (.slice A (n+m) c) w'∧App w base e 1 v (n+m) (xs++List.replicate m (.int .u8 0)) (.slice A (n+m) c) w':=by
 obtain ⟨i,z,hi,hz,hsz,hby,hzs⟩:=T.info;obtain ⟨i',hi',hz'⟩:=hz0;have:i=i':=by rw [hi] at hi'; exact Option.some.inj hi'
 subst this;have hl:(List.replicate m (Value.int .u8 0)).length=m*1:=by simp
 have hwr:IntKind.i64.wrap (m:Int)=(m:Int):=by rw [IntKind.wrap_i64]; omega
 have hneg:¬ ((m:Int)<0):=by omega
 have hbig:¬ (281474976710656<(m:Int)):=by omega
 have hm0:¬ m=0:=by omega
 have hmax:max (m:Int) 0=(m:Int):=by omega
 rcases hown.2 with ⟨rfl,rfl⟩ | ⟨g,cap,cur,fz,rfl,hbg,hg,hnc,hcm,hcs,htake,hfz⟩
 ·omega
 ·by_cases hroom:n+m≤cap
  ·obtain rfl:fz=(0,0):=by
    rcases hfz with h | h
    ·exact h
    ·omega
   have hadd:(⟨g,0,none⟩:Addr).add n=⟨g,n,none⟩:=by unfold Addr.add; split <;> simp_all
   have hst:=run_storeCells_at P g n e (List.replicate m (.int .u8 0)) 0 cur w hg (by simp; omega) (by intro u hu; rw [List.mem_replicate] at hu; rw [hu.2]; rfl);simp only [Nat.add_zero,List.length_replicate] at hst
   have hr:(Builtin.append_ #[t,u] ty #[.slice (some ⟨g,0,none⟩) n cap,.int .i64 (m:Int)]).run P w=.ok (.slice (some ⟨g,0,none⟩) (n+m) cap) (w.setRow g (cur.toList.take n++List.replicate m (Value.int .u8 0)++cur.toList.drop (n+m)).toArray):=by
    simp [Builtin.append_,run_underlying T.und,run_underlying hu,sizeOf,typeInfo,zeroValue,hi,hz',hsz,hby,asInt,asIntOf,hwr,hneg,hbig,hm0,hmax,hadd,Builtin.lenOf,hroom,Addr.add_lit,qco,hst]
   refine ⟨_,_,_,hr,.of ⟨by rw [List.length_append,hl,hown.1,Nat.add_mul],.inr ⟨g,cap,_,rfl,hbg,setRow_heap w g cur _ e _ hg,hroom,hcm,?_,?_⟩⟩,⟨rfl,rfl,rfl,by simp,fun k _ hk=>setRow_other w g k _ (fun e=>hk (by simp [Value.ownBlock,e]))⟩,.inl rfl⟩
   ·simp only [List.size_toArray,List.length_append,List.length_take,List.length_drop,Array.length_toList,List.length_replicate];omega
   ·have ht':cur.toList.take n=xs:=by simpa using htake
    have hxl:xs.length=n:=by simpa using hown.1
    rw [ht',show (n+m)*1=(xs++List.replicate m (Value.int .u8 0)).length by rw [List.length_append,List.length_replicate]; omega];exact List.take_left
  ·have holds:=hown.cells (g:=g) rfl;have h63':¬ (9223372036854775807<((n:Int)+(m:Int))):=by omega
   have h48':¬ (281474976710656<Builtin.nextslicecap (n+m) cap):=by have:=growslice_fits (bytes:=1) (need:=n+m) (old:=cap) (by omega) (by omega); omega
   have hfo:=run_firstCells_some (P:=P) w.drew 1 n ⟨g,0,none⟩ n cap xs hown.1 (by simpa using holds)
   have hr:(Builtin.append_ #[t,u] ty #[.slice (some ⟨g,0,none⟩) n cap,.int .i64 (m:Int)]).run P w=.ok (.slice (some ⟨w.heap.size,0,none⟩) (n+m) (grownCap w (n+m) cap e))
     (w.drew.alloc (.cells (xs.toArray++(List.replicate m (Value.int .u8 0)).toArray++Builtin.zeroCells (Value.cells (.int .u8 0)) (grownCap w (n+m) cap e - (n+m))) e)):=by
    have hzc:Builtin.zeroCells (Value.cells (.int .u8 0)) m=(List.replicate m (Value.int .u8 0)).toArray:=by apply Array.ext'; rw [qco]
    simp [Builtin.append_,run_underlying T.und,run_underlying hu,sizeOf,typeInfo,zeroValue,hi,hz',hsz,hby,asInt,asIntOf,hwr,hneg,hbig,hm0,hmax,hroom,h63',h48',Question.forced,hfo,newRow,grownCap,hzc]
   exact ⟨_,_,_,hr,.of (qed hown.1 hl rfl (by unfold maxLen; omega) hbase),qbY _ _ _,.inr fun k hk=>by simp [Value.ownBlock] at hk; omega⟩
theorem qcU {w:World} {ops:Array Oper} {rest:List Oper} {o:Oper} {a:Act} {Q:Exit→Act→World→Prop} {sl x:Operand} {t u e:TypeId} (T:SlT P t e 1 1)
  (hz:∃ i,P.info? e=some i∧i.zero=some (.int .u8 0)) (hu:P.underlying u=some (.int .i64))
  (hgd:o.guard=none) (ho:o.op=.call { callee:=.builtin .append,args:=#[sl,x],argTypes:=#[t,u] })
  {base n m:Nat} {v:Value} {xs:List Value} (hown:OwnX w base e 1 v n xs) (hs:a.eval sl=v) (hx:a.eval x=.int .i64 (m:Int))
  (hn:0<n) (hm:0<m) (hbytes:n+m≤140737488355328) (hbase:base≤w.heap.size)
  (h:∀ A c w',OwnX w' base e 1 (.slice A (n+m) c) (n+m) (xs++List.replicate m (.int .u8 0))→w.grownBy w' v.ownBlock→Next w v (.slice A (n+m) c)→wpList P ops Q rest (a.put o.dst (.slice A (n+m) c)) w') :
  wpList P ops Q (o :: rest) a w:=by
 obtain ⟨A,c,w',hr,h2,h3,h4⟩:=qdI (ty:=o.type) T hz hu hown hn hm hbytes hbase;refine qaU (R:=fun v' w1=>v'=.slice A (n+m) c∧w1=w') hgd ho hs hx ⟨_,_,hr,rfl,rfl⟩ ?_;rintro v' w1 ⟨rfl,rfl⟩;exact h _ _ _ h2 h3 h4
end
end Go.Proofs.YtcbkaaodmjphdaaGreatDoor
namespace Go.Proofs.YtcbkaaodmjphdaaGreatDoor.Sh
set_option linter.unusedSimpArgs false
set_option linter.unusedVariables false
set_option maxRecDepth 100000
set_option maxHeartbeats 4000000
open Go.RowKit
theorem sl_bytes:SlT Tryz.prog 23 5 1 1:=SlT.mk1 (z:=.int .u8 0) Tryz.underlying23 (by kernel_rfl) rfl (by decide)
def lenOf:Value→Nat | .slice _ n _=>n | _=>0
def firstV:Array Value:=#[.int .u64 7640891576956012808,.int .u64 13503953896175478587,.int .u64 4354685564936845355,.int .u64 11912009170470909681,.int .u64 5840696475078001361,.int .u64 11170449401992604703,.int .u64 2270897969802886507,.int .u64 6620516959819538809]
theorem firstV_at (k:Nat) (h:k<8):firstV[k]?=some (.int .u64 ((firstN.getD k 0:Nat):Int)):=by
 match k,h with
 | 0,_=>rfl
 | 1,_=>rfl
 | 2,_=>rfl
 | 3,_=>rfl
 | 4,_=>rfl
 | 5,_=>rfl
 | 6,_=>rfl
 | 7,_=>rfl
def outW (b e:Nat) (s:S8) (k:Nat):List UInt8:=((s8L s).take k).flatMap fun x=>wordB b x e
theorem wordB_length (b x:Nat):∀ k,(wordB b x k).length=k
 | 0=>rfl
 | k+1=>by simp [wordB,wordB_length b x k]
theorem outW_length (b e:Nat) (s:S8) (k:Nat) (h:k≤8):(outW b e s k).length=k*e:=by
 match k,h with
 | 0,_=>simp [outW,s8L]
 | 1,_=>simp [outW,s8L,wordB_length]
 | 2,_=>simp [outW,s8L,wordB_length]; omega
 | 3,_=>simp [outW,s8L,wordB_length]; omega
 | 4,_=>simp [outW,s8L,wordB_length]; omega
 | 5,_=>simp [outW,s8L,wordB_length]; omega
 | 6,_=>simp [outW,s8L,wordB_length]; omega
 | 7,_=>simp [outW,s8L,wordB_length]; omega
 | 8,_=>simp [outW,s8L,wordB_length]; omega
theorem qc6 (b e:Nat) (s:S8) (k:Nat) (h:k<8):outW b e s (k+1)=outW b e s k++wordB b ((s8L s).getD k 0) e:=by
 match k,h with
 | 0,_=>simp [outW,s8L]
 | 1,_=>simp [outW,s8L]
 | 2,_=>simp [outW,s8L]
 | 3,_=>simp [outW,s8L]
 | 4,_=>simp [outW,s8L]
 | 5,_=>simp [outW,s8L]
 | 6,_=>simp [outW,s8L]
 | 7,_=>simp [outW,s8L]
theorem wordB_val (x sh b k:Nat) (h:sh=b - 8 - 8*k):(Value.int .u8 ((x:Int)/2^sh%256))=.int .u8 ((UInt8.ofNat (x/2^(b - 8 - 8*k))).toNat:Int):=by
 subst h;rw [qcc]
 congr 1
theorem first_any (w:World):Calls Tryz.prog 73 #[] w fun e w'=>e=.returned (.agg firstV)∧Below w.heap.size w w':=by
 have hb:=Blk.new w 132 (s8V .u64 ⟨0,0,0,0,0,0,0,0⟩);have hu8:=Tryz.underlying132;go_enter Tryz.func73,Tryz.ntmps73;go_wp2_with (refine qad (x:=.tmp 0) (cells:=firstV) hb rfl rfl rfl rfl (by kernel_rfl) rfl (by simp [firstV,Value.oneCell']) ?_; intro w1 hb1 hw1);refine bodyPost_ret (qau (P:=Tryz.prog) rfl rfl hb1 hu8 rfl (by kernel_rfl)) rfl ⟨rfl,?_⟩;exact hw1.below (below_new _ _) (Nat.le_refl _) (by simp)
def oneZ (data:List UInt8) (k:Nat):List UInt8:=data++[128]++List.replicate k 0
theorem qax (data:List UInt8) (k:Nat):(oneZ data k).length=data.length+1+k:=by simp [oneZ]; omega
theorem qc7 (data:List UInt8):oneZ data 0=data++[128]:=by simp [oneZ]
theorem qc8 (data:List UInt8) (k:Nat):oneZ data (k+1)=oneZ data k++[0]:=by simp [oneZ,List.replicate_succ']
theorem qaS (l:List UInt8) (b:UInt8):bytesV (l++[b])=bytesV l++[.int .u8 (b.toNat:Int)]:=by simp [bytesV,byteV]
theorem prepS_32 {data:List UInt8} (_:data.length≤1000):prepS F32 data=oneZ data (zeroN F32 data.length):=by simp [prepS,oneZ,moreN,F32]
theorem prep32_le {data:List UInt8} (h:data.length≤1000):(prepS F32 data).length≤3000:=by
 rw [prepS_32 h,qax];have:zeroN F32 data.length<64:=Nat.mod_lt _ (by decide);omega
theorem qa8 (n:Nat):∀ k,(be8 n k).length=k
 | 0=>rfl
 | k+1=>by simp [be8,qa8 n k]
theorem be8_val (n sh k:Nat) (h:sh=56 - 8*k):(Value.int .u8 ((n:Int)*8/2^sh%256))=.int .u8 ((UInt8.ofNat (n*8/2^(56 - 8*k))).toNat:Int):=by
 subst h;rw [show (n:Int)*8=((n*8:Nat):Int) by omega,qcc]
 congr 1
theorem own_empty (w:World) {B:Nat} {e:TypeId} (hB:B≤w.heap.size):OwnX (w.alloc (.cells #[] e)) B e 1 (.slice (some ⟨w.heap.size,0,none⟩) 0 0) 0 (bytesV []) :=
 ⟨rfl,.inr ⟨w.heap.size,0,#[],(0,0),rfl,hB,heap_alloc_new w _,Nat.le_refl _,by unfold maxLen; omega,rfl,rfl,.inl rfl⟩⟩
structure SumSt32 (w0:World) (gf:Nat) (xs:List UInt8) (v:Value) (u:World):Prop where
 bel:Below gf w0 u
 form:Blk u gf 105 f32C
 own:OwnX u (gf+1) 5 1 v xs.length (bytesV xs)
theorem SumSt32.grow {w0 u u':World} {gf:Nat} {xs ys:List UInt8} {v v':Value} (h:SumSt32 w0 gf xs v u) (hg:u.grownBy u' v.ownBlock) (ho:OwnX u' (gf+1) 5 1 v' ys.length (bytesV ys)):SumSt32 w0 gf ys v' u' :=
 ⟨h.bel.grown hg (by have:=h.form.lt; omega) (fun k hk=>by have:=(h.own.lt k hk).1; omega),h.form.grown hg (fun e=>by have:=(h.own.lt gf e.symm).1; omega),ho⟩
theorem zero32_ne (n k:Nat) (h:k<zeroN F32 n):((((n+1+k:Nat):Int)%64) != 56)=true:=by
 simp only [zeroN,F32] at h;rw [bne_iff_ne];omega
theorem zero32_eq (n:Nat):((((n+1+zeroN F32 n:Nat):Int)%64) != 56)=false:=by
 have h:zeroN F32 n=(2*32 - 8+2*32 - (n+1)%(2*32))%(2*32):=rfl;rw [bne_eq_false_iff_eq];omega
theorem qdA (data:List UInt8):(padS F32 data).length%64=0:=by
 have hz:zeroN F32 data.length=(2*32 - 8+2*32 - (data.length+1)%(2*32))%(2*32):=rfl
 have hm:moreN F32 data.length=0∨moreN F32 data.length=64:=by
  unfold moreN
  split
  ·exact .inr rfl
  ·exact .inl rfl
 simp only [padS,List.length_append,List.length_replicate,List.length_singleton,qa8];omega
structure SumT32 (w0:World) (gf gs:Nat) (A:Option Addr) (xs:List UInt8) (cs:Array Value) (u:World):Prop where
 bel:Below gf w0 u
 form:Blk u gf 105 f32C
 rd:Rd u gs A (bytesV xs)
 s:Blk u gs 131 cs
 lg:gf<gs
theorem SumT32.next {w0 u u':World} {gf gs:Nat} {A:Option Addr} {xs:List UInt8} {cs:Array Value} (h:SumT32 w0 gf gs A xs cs u) (hb:Below u.heap.size u u'):SumT32 w0 gf gs A xs cs u' :=
 ⟨h.bel.trans (hb.mono (by have:=h.form.lt; omega)),h.form.below hb h.form.lt,h.rd.below (hb.mono (by have:=h.s.lt; omega)),h.s.below hb h.s.lt,h.lg⟩
theorem SumT32.drew {w0 u:World} {gf gs:Nat} {A:Option Addr} {xs:List UInt8} {cs:Array Value} (h:SumT32 w0 gf gs A xs cs u):SumT32 w0 gf gs A xs cs u.drew :=
 ⟨h.bel.drew,h.form,h.rd.below ((Below.refl _ _).drew),h.s,h.lg⟩
theorem SumT32.put {w0 u u':World} {gf gs:Nat} {A:Option Addr} {xs:List UInt8} {cs cs':Array Value} (h:SumT32 w0 gf gs A xs cs u) (hw:Wrote gs u u') (hb:Blk u' gs 131 cs'):SumT32 w0 gf gs A xs cs' u' :=
 ⟨hw.below h.bel (by have:=h.lg; omega) (by have:=h.form.lt; omega),hw.blk h.form (by have:=h.lg; omega),h.rd.below (hw.below (Below.refl _ _) (Nat.le_refl _) (by have:=h.s.lt; omega)),hb,h.lg⟩
structure SumO32 (w0:World) (gf gb:Nat) (xs:List UInt8) (v:Value) (u:World):Prop where
 bel:Below gf w0 u
 form:Blk u gf 105 f32C
 own:u.ownsRow gb 5 1 v xs.length (bytesV xs)
 lb:gb≤u.heap.size
theorem SumO32.grow {w0 u u':World} {gf gb:Nat} {xs ys:List UInt8} {v v':Value} (h:SumO32 w0 gf gb xs v u) (hlt:gf<gb) (hg:u.grownBy u' v.ownBlock) (ho:u'.ownsRow gb 5 1 v' ys.length (bytesV ys)):SumO32 w0 gf gb ys v' u' :=
 ⟨h.bel.grown hg (by have:=h.form.lt; omega) (fun k hk=>by have:=(own_lt h.own k hk).1; omega),h.form.grown hg (fun e=>by have:=(own_lt h.own gf e.symm).1; omega),ho,by have:=h.lb; have:=hg.size; omega⟩
def SumPost32 (data:List UInt8) (w:World) (e:Ending) (w':World):Prop :=
 ∃ A c,e=.returned (.slice A (8*4) c)∧w'.ownsRow w.heap.size 5 1 (.slice A (8*4) c) (8*4) (bytesV (digS F32 data))∧Below w.heap.size w w'
theorem sum32_any (data:List UInt8) (A:Option Addr) (c B:Nat) (w:World) (hr:Rd w B A (bytesV data)) (hB:B≤w.heap.size) (hl:data.length≤1000) (hc:data.length≤c) (hcm:c≤9223372036854775807) (hG:TabG w) :
  Calls Tryz.prog 51 #[.agg f32C,.slice A data.length c] w (SumPost32 data w):=by
 obtain ⟨W0,hW0⟩:=eX (w.alloc (.cells f32C 105));have hb0:Below w.heap.size w W0:=by rw [hW0]; exact below_new _ _
 have hf0:Blk W0 w.heap.size 105 f32C:=by rw [hW0]; exact Blk.new _ _ _
 have hs0:W0.heap.size=w.heap.size+1:=by rw [hW0]; simp
 have c0:=hf0.cell 0;simp [f32C] at c0;rw [hW0] at c0;have HB0:=zY hb0;have HF0:=zY hf0;have HS0:=zY hs0;have HR:=zY (hr.mono hB);have HW:=zY hW0;have HG:=zY hG;have hl':(data.length:Int)≤1000:=by omega
 clear hb0 hf0 hs0 hr hW0 hG;go_enter Tryz.func51,Tryz.ntmps51;go_wp2
 go_quiet (fail)
 have hb1:Below w.heap.size w ((w.alloc (.cells f32C 105)).drewN nq):=qbV (below_new _ _) nq;have hf1:Blk ((w.alloc (.cells f32C 105)).drewN nq) w.heap.size 105 f32C:=Blk.new _ _ _;have hz1:((w.alloc (.cells f32C 105)).drewN nq).heap.size=w.heap.size+1:=by simp
 generalize (w.alloc (.cells f32C 105)).drewN nq=W1 at *;have hr1:=HR.out.below hb1;generalize hgf:w.heap.size=gf at *;have HGF:=zY hgf
 have hst0:SumSt32 w gf [] (.slice (some ⟨W1.heap.size,0,none⟩) 0 0) (W1.alloc (.cells #[] 5)) :=
  ⟨hb1.alloc (by omega) _,hf1.alloc _,own_empty W1 (by omega)⟩
 have hr2:Rd (W1.alloc (.cells #[] 5)) gf A (bytesV data):=hr1.below ((Below.refl _ _).alloc (by omega) _);have HST0:=zY hst0;have HR2:=zY hr2;have HZ1:=zY hz1;clear hb1 hf1 hz1 hr1 hst0 hr2 hgf c0 HB0 HF0 HS0 HW;have HOWN0:Hid (OwnX (W1.alloc (.cells #[] 5)) (gf+1) 5 1 (.slice (some ⟨W1.heap.size,0,none⟩) 0 0) 0 []):=zY HST0.out.own
 go_wp2_with (first
  | (refine qaz (o:=⟨some 25,_,_,_,_,_⟩) sl_bytes rfl rfl HOWN0.out rfl rfl (by simp [bytesV]) HR2.out (by intro u hu; simp [bytesV,byteV] at hu; obtain ⟨_,_,rfl⟩:=hu; rfl) (by unfold maxLen; omega) (by omega) (by have:=HST0.out.form.lt; omega) ?_; intro A1 c1 w1 hown1 hg1 hn1; have HOWN1:Hid (OwnX w1 (gf+1) 5 1 (.slice A1 data.length c1) data.length (bytesV data)):=zY (by simpa using hown1); have H641:Hid (gf+1≤w1.heap.size):=zY (by have:=hg1.size; have:=HZ1.out; simp at *; omega); have HG1:=zY hg1; clear hown1 hg1 hn1)
  | (refine qao (o:=⟨some 28,_,_,_,_,_⟩) sl_bytes rfl rfl HOWN1.out rfl rfl rfl rfl (by unfold maxLen; omega) (by omega) H641.out ?_; intro A2 c2 w2 hown2 hg2 hn2; have HOWN2:=zY hown2; have HG2:=zY hg2; clear hown2 hg2 hn2))
 have hst2:SumSt32 w gf (oneZ data 0) (.slice A2 (data.length+1) c2) w2 :=
  (HST0.out.grow (ys:=data) HG1.out HOWN1.out).grow HG2.out (by rw [qax,qc7,qaS]; exact HOWN2.out)
 have hzl:zeroN F32 data.length<64:=Nat.mod_lt _ (by decide);clear HST0 HOWN0 HR2 HZ1 HOWN1 H641 HG1 HOWN2 HG2
 go_loopw [7] (fun v wr=>∃ (k n:Nat) (A3:Option Addr) (c3:Nat),k≤zeroN F32 data.length∧n=data.length+1+k∧v=.slice A3 n c3∧SumSt32 w gf (oneZ data k) (.slice A3 n c3) wr) (fun v _=>data.length+1+zeroN F32 data.length - lenOf v)
 case atStart=>exact ⟨0,data.length+1,A2,c2,Nat.zero_le _,rfl,rfl,hst2⟩
 case round =>
  obtain ⟨k,n,A3,c3,hk,hn,rfl,hst⟩:=hrel;clear hst2;have hn2:n≤2000:=by omega
  by_cases hlt:k<zeroN F32 data.length
  ·have hne:(((n:Nat):Int)%64 != 56)=true:=by rw [hn]; exact zero32_ne _ _ hlt
   have ho:OwnX wr (gf+1) 5 1 (.slice A3 n c3) n (bytesV (oneZ data k)):=by have:=hst.own; rwa [qax,← hn] at this
   have HO:=zY ho;have HN:=zY hn;have HST:=zY hst;clear ho hn hst;go_wp2_with (refine qao (o:=⟨some 38,_,_,_,_,_⟩) sl_bytes rfl rfl HO.out rfl rfl rfl rfl (by unfold maxLen; omega) (by omega) (by have:=HST.out.form.lt; omega) ?_; intro A4 c4 w4 hown4 hg4 hn4; have HOWN4:=zY hown4; have HG4:=zY hg4; clear hown4 hg4 hn4);exact ⟨⟨k+1,n+1,A4,c4,hlt,by rw [HN.out]; omega,rfl,HST.out.grow HG4.out (by rw [qax,qc8,qaS,← Nat.add_assoc,← HN.out]; exact HOWN4.out)⟩,by simp only [lenOf]; have:=HN.out; omega⟩
  ·obtain rfl:k=zeroN F32 data.length:=by omega
   have hne:(((n:Nat):Int)%64 != 56)=false:=by rw [hn]; exact zero32_eq _
   have HN:=zY hn;have HST:=zY hst;clear hn hst;go_wp2_with fail;obtain ⟨pl,hpl⟩:=eX ((prepS F32 data).length);have hpl3:pl≤3000:=by rw [hpl]; exact prep32_le hl
   have hst3:SumSt32 w gf (prepS F32 data++be8 (data.length*8) 0) (.slice A3 n c3) wr:=by
    have h:=HST.out;simp only [be8,List.append_nil];rw [prepS_32 hl];exact h
   have hn3:n=pl+0:=by rw [hpl,prepS_32 hl,qax,HN.out]; rfl
   have HPL:=zY hpl;have HN3:=zY hn3;clear hpl hn3 hn2;obtain ⟨wo,rfl⟩:∃ wo:World,wo=wr:=⟨_,rfl⟩
   go_loopw [7,8] (fun v i wr=>∃ (k m:Nat) (A4:Option Addr) (c4:Nat),k≤8∧m=pl+k∧v=.slice A4 m c4∧i=.int .i64 (56 - 8*(k:Int))∧SumSt32 w gf (prepS F32 data++be8 (data.length*8) k) (.slice A4 m c4) wr) (fun _ i _=>(intOf i+8).toNat)
   case atStart=>exact ⟨0,n,A3,c3,by omega,HN3.out,rfl,rfl,hst3⟩
   case round =>
    obtain ⟨k,m,A4,c4,hk8,hm,rfl,rfl,hs4⟩:=hrel;clear hst3
    by_cases hlt8:k<8
    ·obtain ⟨sh,hsh⟩:∃ sh:Nat,(56 - 8*(k:Int))=(sh:Int):=⟨56 - 8*k,by omega⟩;rw [hsh];have hsh2:sh=56 - 8*k:=by omega
     have hsl:(sh:Int)<64:=by omega
     have HSH:=zY hsh2;have HM:=zY hm;have HS4:=zY hs4
     have ho4:OwnX wr (gf+1) 5 1 (.slice A4 m c4) m (bytesV (prepS F32 data++be8 (data.length*8) k)):=by
      have:=hs4.own
      rwa [List.length_append,qa8,← HPL.out,← hm] at this
     have HO4:=zY ho4;have hm3:m≤4000:=by omega
     clear hsh hsh2 hm hs4 ho4;go_wp2_with (refine qao (o:=⟨some 76,_,_,_,_,_⟩) sl_bytes rfl rfl HO4.out rfl rfl rfl rfl (by unfold maxLen; omega) (by omega) (by have:=HS4.out.form.lt; omega) ?_; intro A5 c5 w5 hown5 hg5 hn5; have HOWN5:=zY hown5; have HG5:=zY hg5; clear hown5 hg5 hn5)
     have hfin:SumSt32 w gf (prepS F32 data++be8 (data.length*8) (k+1)) (.slice A5 (m+1) c5) w5:=by
      refine HS4.out.grow HG5.out ?_;have h:=HOWN5.out;rw [be8_val _ _ _ HSH.out,← qaS,List.append_assoc] at h;rw [List.length_append,qa8,← HPL.out,show pl+(k+1)=m+1 by rw [HM.out]; omega];exact h
     exact ⟨⟨k+1,m+1,A5,c5,hlt8,by rw [HM.out]; omega,rfl,by have:=HSH.out; exact congrArg (Value.int .i64) (by omega),hfin⟩,by have:=HSH.out; simp [intOf]; omega⟩
    ·obtain rfl:k=8:=by omega
     have HM:=zY hm;have HS4:=zY hs4;clear hm hs4;go_wp2_with fail;obtain ⟨A64,hA64⟩:=eX (padS F32 data);have hAll:A64=prepS F32 data++be8 (data.length*8) 8:=by rw [hA64]; rfl
     have hal:A64.length=m:=by rw [hAll,List.length_append,qa8,← HPL.out,HM.out]
     obtain ⟨gs,hgs⟩:=eX (wr.heap.size)
     have hst5:SumT32 w gf gs A4 A64 (setC .u32 (startS F32) 0) (wr.alloc (.cells (s8V .u32 ⟨0,0,0,0,0,0,0,0⟩) 131)) :=
      ⟨HS4.out.bel.alloc (by have:=HS4.out.form.lt; omega) _,HS4.out.form.alloc _,by
       have ho:OwnX wr (gf+1) 5 1 (.slice A4 m c4) m (bytesV A64):=by have:=HS4.out.own; rwa [← hAll,hal] at this
       have h:=Rd.of_own ho (Nat.le_refl _);rw [← hgs] at h;exact h.below ((Below.refl _ _).alloc (by omega) _),by rw [hgs]; exact Blk.new _ _ _,by have:=HS4.out.form.lt; omega⟩
     rw [← hgs];have HOWN4:Hid (OwnX wr (gf+1) 5 1 (.slice A4 m c4) m (bytesV A64)):=zY (by have:=HS4.out.own; rwa [← hAll,hal] at this);have HA64:=zY hA64;have HAL:=zY hal;have HGS:=zY hgs;have HS5:=zY hst5;clear hA64 hAll hal hgs hst5;refine qab (first_any _) ?_;rintro e w6 ⟨rfl,hb6⟩;have hst6:=HS5.out.next hb6;clear HS5 hb6;go_wp2_with fail;have hu42:=Tryz.underlying132;have hst6':=hst6;clear hst6
     go_loopw [78] (fun i wr=>∃ k:Nat,k≤8∧i=.int .i64 k∧SumT32 w gf gs A4 A64 (setC .u32 (startS F32) k) wr) (fun i _=>8 - (intOf i).toNat)
     case atStart=>exact ⟨0,by omega,rfl,hst6'⟩
     case round =>
      obtain ⟨k,hk,rfl,hsk⟩:=hrel;clear hst6'
      by_cases hk8:k<8
      ·have hk8':(k:Int)<8:=by omega
       obtain ⟨x,hx⟩:=eX (firstN.getD k 0);obtain ⟨y,hy⟩:=eX ((s8L (startS F32)).getD k 0);have hxl:x<18446744073709551616:=by rw [hx]; exact qeu k
       have hxl':(x:Int)<18446744073709551616:=by omega
       have hyx:y=x/4294967296%4294967296:=by rw [hy,hx,qd0 _ _ hk8]; rfl
       have hix:∀ u:World,(Instr.index 132 (.agg firstV) (.int .i64 (k:Int))).run Tryz.prog u=.ok (.int .u64 (x:Int)) u:=fun u =>
        qaR (n:=8) (e:=76) hu42 hk8 (by rw [hx]; exact firstV_at k hk8) (by kernel_rfl) (by kernel_rfl) ⟨_,Tryz.underlying76⟩
       have f0:=hsk.form.cell 0;simp [f32C] at f0;have d0:=hsk.s.cell k;rw [setC_at _ _ _ hk8] at d0;have g0:=hsk.s.free k
       have hfin:SumT32 w gf gs A4 A64 (setC .u32 (startS F32) (k+1)) (wr.setCell ⟨gs,k,none⟩ (.int .u32 (y:Int))) :=
        hsk.put (qai _ _ _ _) (by have:=qak (i:=k) hsk.s (.int .u32 (y:Int)); rwa [hy,setC_set _ _ _ hk8,← hy] at this)
       have HFIN:=zY hfin;have HYX:=zY hyx;have HXL:=zY hxl;clear hfin hyx hxl hx hy hsk;go_wp2_with fail;rw [show (x:Int)/4294967296=((x/4294967296:Nat):Int) from by omega];refine qab (qcB _ _ (by have:=HXL.out; omega)) ?_;rintro e w7 ⟨rfl,rfl⟩;rw [← HYX.out];go_wp2_with fail;exact ⟨⟨k+1,hk8,by go_num,HFIN.out⟩,by simp [intOf]; omega⟩
      ·have hge:¬ (k:Int)<8:=by omega
       obtain rfl:k=8:=by omega
       rw [setC_end] at hsk;obtain ⟨nb,hnb⟩:∃ nb,m=nb*64:=⟨m/64,by have:=qdA data; rw [← HA64.out,HAL.out] at this; omega⟩;have hm4:m≤4000:=by have:=HM.out; omega
       have hcap:m≤c4∧c4≤9223372036854775807:=by
        have ho:OwnX _ (gf+1) 5 1 (.slice A4 m c4) m (bytesV A64):=HOWN4.out;exact qcj ho
       obtain ⟨hcap1,hcap2⟩:=hcap;have hst8:SumT32 w gf gs A4 A64 (s8V .u32 (runS F32 A64 0)) wr:=hsk;have HNB:=zY hnb;have HS8:=zY hst8;clear hnb hst8 hsk hu42;obtain ⟨wo3,rfl⟩:∃ wo3:World,wo3=wr:=⟨_,rfl⟩;go_wp2_with fail
       go_loopw [12] (fun i wr=>∃ j a:Nat,j≤nb∧a=j*64∧i=.int .i64 (a:Int)∧SumT32 w gf gs A4 A64 (s8V .u32 (runS F32 A64 j)) wr) (fun i _=>m - (intOf i).toNat)
       case atStart=>exact ⟨0,0,by omega,rfl,rfl,HS8.out⟩
       case round =>
        obtain ⟨j,a,hj,ha,rfl,hsj⟩:=hrel
        by_cases hjn:j<nb
        ·have ham:a+64≤m:=by rw [HNB.out,ha]; omega
         have hlt:a<m:=by omega
         have hle1:a+64≤c4:=by omega
         obtain ⟨ad,hAd,_,_⟩:=(hsj.rd).at_ (k:=a) (by rw [qap,HAL.out]; omega);subst hAd;obtain ⟨bk,hbk⟩:=eX ((A64.drop a).take 64);have hbl:bk.length=64:=by rw [hbk]; simp; rw [HAL.out]; omega
         have HRB:Hid (∀ u,SumT32 w gf gs (some ad) A64 (s8V .u32 (runS F32 A64 j)) u→Rd u gs (some (ad.add a)) (bytesV bk)):=zY fun u hu=>by
          rw [hbk,bytesV,List.map_take,List.map_drop]; exact qcu (qcv hu.rd a) 64
         obtain ⟨sj,hsj2⟩:=eX (runS F32 A64 j);obtain ⟨sn,hsn⟩:=eX (mixS F32 sj bk);have hsl:sj.Lt (2^32):=by rw [hsj2]; exact qct F32 A64 j
         have hs1:runS F32 A64 (j+1)=sn:=by rw [hsn,hsj2,hbk,ha]; rfl
         rw [← hsj2] at hsj;have HRB2:Hid (∀ u,SumT32 w gf gs (some ad) A64 (s8V .u32 sj) u→Rd u gs (some (ad.add a)) (bytesV bk)):=zY (by rw [hsj2]; exact HRB.out);have HBL:=zY hbl;have HSN:=zY hsn;have HSL:=zY hsl;have HS1:=zY hs1;have HA:=zY ha;clear HRB hbl hsn hsl hs1 hbk hsj2 ha;have HC0:=hsj.drew;clear hsj;have hu8:=Tryz.underlying131;have hu:=Tryz.underlying105;go_wp2_with fail;refine qal (fun u=>SumT32 w gf gs (some ad) A64 (s8V .u32 sj) u) (fun u=>SumT32 w gf gs (some ad) A64 (s8V .u32 sn) u) [(0,some 98),(1,some 99),(2,some 100),(3,some 101),(4,some 102),(5,some 103),(6,some 104),(7,some 105),(8,some 106),(9,none)] (by kernel_rfl) (by kernel_rfl) (by decide) (by kernel_rfl) (fun _=>rfl) HC0 ?_;apply yN_
         ·apply dP [];exact fun _=>rfl;rfl;rintro vals - w1 hC1 E hE;simp only [sP] at hE ⊢;refine qac hC1.form rfl rfl rfl hu rfl qaG ?_;go_wp2_with fail;exact .mk (hE _ hC1)
         apply yN_
         ·apply dP [];exact fun _=>rfl;rfl;rintro vals ⟨-,-⟩ w1 hC1 E hE;simp only [sP] at hE ⊢;refine qac hC1.s rfl rfl rfl hu8 rfl qbi ?_;go_wp2_with fail;exact .mk (hE _ hC1)
         apply yN_
         ·apply dP [];exact fun _=>rfl;rfl;intro vals vq w1 hC1 E hE;clear vq;simp only [sP] at hE ⊢;go_wp2;exact .mk (hE _ hC1)
         apply yN_
         ·apply dP [];exact fun _=>rfl;rfl;intro vals vq w1 hC1 E hE;clear vq;simp only [sP] at hE ⊢;go_wp2;exact .mk (hE _ hC1)
         apply yN_
         ·apply dP [];exact fun _=>rfl;rfl;intro vals vq w1 hC1 E hE;clear vq;simp only [sP] at hE ⊢;go_wp2;exact .mk (hE _ hC1)
         apply yN_
         ·apply dP [];exact fun _=>rfl;rfl;intro vals vq w1 hC1 E hE;clear vq;simp only [sP] at hE ⊢;go_wp2;exact .mk (hE _ hC1)
         apply yN_
         ·apply dP [(4,some 102),(5,some 103)];exact fun _=>rfl;rfl;intro vals vq w1 hC1 E hE;simp only [sP,vq] at hE ⊢;clear vq;go_wp2;exact .mk (hE _ hC1)
         apply yN_
         ·apply dP [(2,some 100),(3,some 101),(6,some 104)];exact fun _=>rfl;rfl;intro vals vq w1 hC1 E hE;simp only [sP,vq] at hE ⊢;clear vq;go_wp2;rw [show a+64 - a=64 by omega];exact .mk (hE _ hC1)
         apply yN_
         ·apply dP [(0,some 98),(1,some 99),(7,some 105)];exact fun _=>rfl;rfl;intro vals vq w1 hC1 E hE;simp only [sP,vq] at hE ⊢;clear vq;go_wp2_with fail;have hmx:=mix32_any sj bk (some (ad.add a)) (c4 - a) gs w1 (HRB2.out _ hC1) (by have:=hC1.s.lt; omega) HBL.out (by rw [HBL.out]; omega) (by omega) HSL.out (HG.out.below hC1.bel (by rw [← HGF.out]; exact HG.out.size));rw [HBL.out] at hmx;refine qab hmx ?_;rintro e w2 ⟨rfl,hb2⟩;rw [← HSN.out];go_wp2_with fail;exact .mk (hE _ (hC1.next hb2))
         apply yL_ (v:=undef)
         ·apply dP [(8,some 106),(8,some 106),(0,some 98),(1,some 99),(2,some 100),(3,some 101),(4,some 102),(5,some 103),(6,some 104),(7,some 105),(8,some 106)];exact fun _=>rfl;rfl;intro vals vq w1 hC1 E hE;simp only [sP,vq] at hE ⊢;clear vq;refine qad hC1.s rfl rfl rfl rfl qbi rfl (by simp [s8V,Value.oneCell']) ?_;intro w2 hb2 hw2;go_wp2_with fail;exact .mk (hE _ (hC1.put hw2 hb2))
         intro vals vq w1 hC1;simp only [sP,vq];clear vq;clear HC0;have hfin:SumT32 w gf gs (some ad) A64 (s8V .u32 (runS F32 A64 (j+1))) w1:=by rw [HS1.out]; exact hC1
         have HFIN:=zY hfin;clear hfin hC1;go_wp2_with fail;exact ⟨⟨j+1,a+64,hjn,by rw [HA.out]; omega,by go_num,HFIN.out⟩,by simp [intOf]; omega⟩
        ·obtain rfl:j=nb:=by omega
         have hge:¬ a<m:=by rw [HNB.out,ha]; omega
         have HA:=zY ha;obtain ⟨sv,hsv⟩:=eX (runS F32 A64 j);have hsl:sv.Lt (2^32):=by rw [hsv]; exact qct F32 A64 j
         rw [← hsv] at hsj;have hu8:=Tryz.underlying131;have HSV:=zY hsv;have HSL:=zY hsl;clear ha hsv hsl;go_wp2_with (refine qac (x:=.tmp 9) hsj.s rfl rfl rfl hu8 rfl qbi ?_);obtain ⟨g2,hg2⟩:=eX (wr.heap.size);have hso:SumO32 w gf (gf+1) [] (.slice none 0 0) wr:=⟨hsj.bel,hsj.form,World.ownsRow_nil _ _ _ _,by have:=hsj.form.lt; omega⟩;have HSO:=zY hso;clear hso hsj;obtain ⟨wo4,rfl⟩:∃ wo4:World,wo4=wr:=⟨_,rfl⟩
         go_loopw [13,108] (fun v i wr=>∃ (k q:Nat) (A5:Option Addr) (c5:Nat),k≤8∧q=k*4∧i=.int .i64 k∧v=.slice A5 q c5∧SumO32 w gf (gf+1) (outW 32 4 sv k) (.slice A5 q c5) wr) (fun _ i _=>8 - (intOf i).toNat)
         case atStart=>exact ⟨0,0,none,0,by omega,by omega,rfl,rfl,HSO.out⟩
         case round =>
          obtain ⟨k,q,A5,c5,hk,hq,rfl,rfl,hso⟩:=hrel
          by_cases hk8:k<8
          ·have hk8':(k:Int)<8:=by omega
           obtain ⟨x,hx⟩:=eX ((s8L sv).getD k 0);have hxl:x<2^32:=by rw [hx]; exact s8L_lt HSL.out (by decide) k
           have hxl':(x:Int)<4294967296:=by omega
           have hix:∀ u:World,(Instr.index 131 (.agg (s8V .u32 sv)) (.int .i64 (k:Int))).run Tryz.prog u=.ok (.int .u32 (x:Int)) u:=fun u =>
            qaR (n:=8) (e:=100) hu8 hk8 (by rw [hx]; exact s8V_at .u32 sv k hk8) (by kernel_rfl) (by kernel_rfl) ⟨_,Tryz.underlying100⟩
           have f0:=hso.form.cell 0;simp [f32C] at f0;have hs6:SumO32 w gf (gf+1) (outW 32 4 sv k++wordB 32 x 0) (.slice A5 q c5) wr:=by simpa [wordB] using hso
           have HX:=zY hx;have HQ:=zY hq;have HS6:=zY hs6;have HU8:=zY hu8;have hq9:q≤64:=by omega
           clear hx hq hs6 hso hxl hu8;go_wp2_with fail;clear hix f0;obtain ⟨wo5,rfl⟩:∃ wo5:World,wo5=wr:=⟨_,rfl⟩
           go_loopw [13,16] (fun v i wr=>∃ (p r:Nat) (A6:Option Addr) (c6:Nat),p≤4∧r=q+p∧v=.slice A6 r c6∧i=.int .i64 (32 - 8 - 8*(p:Int))∧SumO32 w gf (gf+1) (outW 32 4 sv k++wordB 32 x p) (.slice A6 r c6) wr) (fun _ i _=>(intOf i+8).toNat)
           case atStart=>exact ⟨0,q,A5,c5,by omega,by omega,rfl,rfl,HS6.out⟩
           case round =>
            obtain ⟨p,r,A6,c6,hp,hr6,rfl,rfl,hs7⟩:=hrel
            by_cases hp8:p<4
            ·obtain ⟨sh,hsh⟩:∃ sh:Nat,(32 - 8 - 8*(p:Int))=(sh:Int):=⟨32 - 8 - 8*p,by omega⟩;rw [hsh];have hsh2:sh=32 - 8 - 8*p:=by omega
             have hsl:(sh:Int)<32:=by omega
             have HSH:=zY hsh2;have HR6:=zY hr6;have HS7:=zY hs7
             have ho7:wr.ownsRow (gf+1) 5 1 (.slice A6 r c6) r (bytesV (outW 32 4 sv k++wordB 32 x p)):=by
              have:=hs7.own
              rwa [List.length_append,wordB_length,outW_length _ _ _ _ (by omega),← HQ.out,← hr6] at this
             have HO7:=zY ho7;have hr9:r≤100:=by omega
             clear hsh hsh2 hr6 hs7 ho7;go_wp2_with (refine qbl sl_bytes rfl rfl HO7.out rfl rfl rfl rfl (by unfold maxLen; omega) (by omega) HS7.out.lb ?_; intro A8 c8 w8 hown8 hg8; have HOWN8:=zY hown8; have HG8:=zY hg8; clear hown8 hg8)
             have hfin:SumO32 w gf (gf+1) (outW 32 4 sv k++wordB 32 x (p+1)) (.slice A8 (r+1) c8) w8:=by
              refine HS7.out.grow (by omega) HG8.out ?_;have h:=HOWN8.out;rw [wordB_val _ _ _ _ HSH.out,← qaS,List.append_assoc] at h;rw [List.length_append,wordB_length,outW_length _ _ _ _ (by omega),← HQ.out,show q+(p+1)=r+1 by rw [HR6.out]; omega];exact h
             exact ⟨⟨p+1,r+1,A8,c8,hp8,by rw [HR6.out]; omega,rfl,by have:=HSH.out; exact congrArg (Value.int .i64) (by omega),hfin⟩,by have:=HSH.out; simp [intOf]; omega⟩
            ·obtain rfl:p=4:=by omega
             have hfin:SumO32 w gf (gf+1) (outW 32 4 sv (k+1)) (.slice A6 r c6) wr:=by rw [qc6 _ _ _ _ hk8,← HX.out]; exact hs7
             have HFIN:=zY hfin;have HR6:=zY hr6;clear hfin hr6 hs7;go_wp2_with fail;exact ⟨⟨k+1,r,A6,c6,hk8,by rw [HR6.out,HQ.out]; omega,by go_num,rfl,HFIN.out⟩,by simp [intOf]; omega⟩
          ·have hge:¬ (k:Int)<8:=by omega
           obtain rfl:k=8:=by omega
           have HSO:=zY hso;obtain rfl:q=8*4:=hq;clear hso;go_wp2_with fail;go_ret;refine ⟨A5,c5,rfl,?_,by rw [HGF.out]; exact HSO.out.bel⟩;have h:=HSO.out.own;rw [outW_length _ _ _ _ (by omega)] at h
           have hd:outW 32 4 sv 8=digS F32 data:=by
            rw [HSV.out,digS,← HA64.out,HAL.out,HNB.out];show _=(s8L (runS F32 A64 (j*64/64))).flatMap _;rw [Nat.mul_div_cancel _ (by decide)];rfl
           rw [← hd];exact own_mono h (by rw [HGF.out]; omega)
theorem p256_any (data:List UInt8) (A:Option Addr) (c B:Nat) (w:World) (hr:Rd w B A (bytesV data)) (hB:B≤w.heap.size) (hl:data.length≤1000) (hc:data.length≤c) (hcm:c≤9223372036854775807) (hG:TabG w) :
  Calls Tryz.prog 33 #[.slice A data.length c] w (SumPost32 data w):=by
 have hs:=sum32_any data A c B w hr hB hl hc hcm hG;rw [f32C] at hs;go_enter Tryz.func33,Tryz.ntmps33;go_wp2_with fail;refine qab hs ?_;rintro e w' ⟨A2,c2,rfl,ho,hb⟩;have HO:=zY ho;have HB:=zY hb;clear ho hb hs;go_wp2_with fail;go_ret;exact ⟨A2,c2,rfl,HO.out,HB.out⟩
end Go.Proofs.YtcbkaaodmjphdaaGreatDoor.Sh
namespace Go.Proofs.YtcbkaaodmjphdaaGreatDoor
set_option linter.unusedSimpArgs false
set_option linter.unusedVariables false
set_option maxRecDepth 100000
set_option maxHeartbeats 4000000
open Go.RowKit
structure E5 where
 a:Nat
 b:Nat
 c:Nat
 d:Nat
 e:Nat
def PN:Nat:=57896044618658097711785492504343953926634992332820282019728792003956564819949
def E5.val (x:E5):Nat:=x.a+x.b*2251799813685248+x.c*5070602400912917605986812821504+x.d*11417981541647679048466287755595961091061972992+x.e*25711008708143844408671393477458601640355247900524685364822016
structure E5.Lt (x:E5) (m:Nat):Prop where
 a:x.a<m
 b:x.b<m
 c:x.c<m
 d:x.d<m
 e:x.e<m
theorem E5.Lt.mono {x:E5} {m n:Nat} (h:x.Lt m) (hm:m≤n):x.Lt n:=⟨Nat.lt_of_lt_of_le h.a hm,Nat.lt_of_lt_of_le h.b hm,Nat.lt_of_lt_of_le h.c hm,Nat.lt_of_lt_of_le h.d hm,Nat.lt_of_lt_of_le h.e hm⟩
def carryE (x:E5):E5:=⟨x.a%2251799813685248+x.e/2251799813685248*19,x.b%2251799813685248+x.a/2251799813685248,x.c%2251799813685248+x.b/2251799813685248,x.d%2251799813685248+x.c/2251799813685248,x.e%2251799813685248+x.d/2251799813685248⟩
theorem carry_val (x:E5):(carryE x).val+x.e/2251799813685248*PN=x.val:=by
 simp only [carryE,E5.val,PN];omega
theorem qcg (x:E5):(carryE x).val%PN=x.val%PN:=by
 rw [← carry_val x,Nat.add_mul_mod_self_right]
theorem qcP {x:E5} (h:x.Lt 18446744073709551616):(carryE x).Lt 2251799813947392:=by
 obtain ⟨h1,h2,h3,h4,h5⟩:=h
 constructor <;> simp only [carryE] <;> omega
theorem carry_lt2 {x:E5} (h:x.Lt 2251799813947392):(carryE x).a<2251799813685267∧(carryE x).b<2251799813685249∧(carryE x).c<2251799813685249∧(carryE x).d<2251799813685249∧(carryE x).e<2251799813685249:=by
 obtain ⟨h1,h2,h3,h4,h5⟩:=h;simp only [carryE];refine ⟨?_,?_,?_,?_,?_⟩ <;> omega
def overP (x:E5):Nat:=(x.e+(x.d+(x.c+(x.b+(x.a+19)/2251799813685248)/2251799813685248)/2251799813685248)/2251799813685248)/2251799813685248
def leastQ (x:E5) (q:Nat):E5 :=
 let a:=x.a+19*q
 let b:=x.b+a/2251799813685248
 let c:=x.c+b/2251799813685248
 let d:=x.d+c/2251799813685248
 let e:=x.e+d/2251799813685248
 ⟨a%2251799813685248,b%2251799813685248,c%2251799813685248,d%2251799813685248,e%2251799813685248⟩
def leastE (x:E5):E5:=leastQ (carryE (carryE x)) (overP (carryE (carryE x)))
theorem overP_eq (x:E5):overP x=(x.val+19)/57896044618658097711785492504343953926634992332820282019728792003956564819968:=by
 simp only [overP,E5.val];omega
theorem leastQ_lt (x:E5) (q:Nat):(leastQ x q).Lt 2251799813685248:=by
 constructor <;> exact Nat.mod_lt _ (by decide)
theorem leastQ_val (x:E5) (q:Nat):(leastQ x q).val=(x.val+19*q)%57896044618658097711785492504343953926634992332820282019728792003956564819968:=by
 simp only [leastQ,E5.val];omega
theorem least_lt (x:E5):(leastE x).Lt 2251799813685248:=leastQ_lt _ _
theorem qen {x:E5} (h:x.Lt 18446744073709551616):(leastE x).val=x.val%PN:=by
 obtain ⟨h1,h2,h3,h4,h5⟩:=carry_lt2 (qcP h);have hm:(carryE (carryE x)).val%PN=x.val%PN:=by rw [qcg,qcg]
 rw [← hm,leastE,leastQ_val,overP_eq];generalize carryE (carryE x)=y at *
 have hv:y.val<2*PN:=by
  simp only [E5.val,PN];omega
 generalize y.val=v at *
 by_cases hp:v<PN
 ·have hq:(v+19)/57896044618658097711785492504343953926634992332820282019728792003956564819968=0:=Nat.div_eq_of_lt (by simp only [PN] at hp; omega);rw [hq,Nat.mod_eq_of_lt hp,Nat.mod_eq_of_lt (by simp only [PN] at hp; omega)];omega
 ·have hq:(v+19)/57896044618658097711785492504343953926634992332820282019728792003956564819968=1:=by simp only [PN] at hp hv; omega
  have e:v%PN=v - PN:=by rw [Nat.mod_eq_sub_mod (by omega),Nat.mod_eq_of_lt (by omega)]
  rw [hq,e];simp only [PN] at hp hv ⊢;omega
def addE (x y:E5):E5:=carryE ⟨x.a+y.a,x.b+y.b,x.c+y.c,x.d+y.d,x.e+y.e⟩
def subE (x y:E5):E5 :=
 let z:=carryE y
 carryE ⟨x.a+(4503599627370458 - z.a),x.b+(4503599627370494 - z.b),x.c+(4503599627370494 - z.c),x.d+(4503599627370494 - z.d),x.e+(4503599627370494 - z.e)⟩
abbrev E5.Ok (x:E5):Prop:=x.Lt 4503599627370496
theorem carry_ok {x:E5} (h:x.Lt 18446744073709551616):(carryE x).Ok:=(qcP h).mono (by decide)
theorem E5.Ok.big {x:E5} (h:x.Ok):x.Lt 18446744073709551616:=E5.Lt.mono h (by decide)
theorem qbu {x y:E5} (hx:x.Ok) (hy:y.Ok):(addE x y).Ok:=by
 obtain ⟨h1,h2,h3,h4,h5⟩:=hx;obtain ⟨k1,k2,k3,k4,k5⟩:=hy;exact carry_ok ⟨by dsimp only; omega,by dsimp only; omega,by dsimp only; omega,by dsimp only; omega,by dsimp only; omega⟩
theorem add_val (x y:E5):(addE x y).val%PN=(x.val+y.val)%PN:=by
 rw [addE,qcg]
 congr 1
 simp only [E5.val];omega
theorem qbR {x y:E5} (hx:x.Ok) (hy:y.Ok):(subE x y).Ok:=by
 obtain ⟨h1,h2,h3,h4,h5⟩:=hx;exact carry_ok ⟨by dsimp only; omega,by dsimp only; omega,by dsimp only; omega,by dsimp only; omega,by dsimp only; omega⟩
theorem sub_val {x y:E5} (hy:y.Ok):((subE x y).val+y.val)%PN=x.val%PN:=by
 obtain ⟨h1,h2,h3,h4,h5⟩:=qcP hy.big;have hz:=carry_val y;have e:(subE x y).val%PN=(⟨x.a+(4503599627370458 - (carryE y).a),x.b+(4503599627370494 - (carryE y).b),x.c+(4503599627370494 - (carryE y).c),x.d+(4503599627370494 - (carryE y).d),x.e+(4503599627370494 - (carryE y).e)⟩:E5).val%PN:=qcg _;rw [Nat.add_mod,e,← Nat.add_mod,← hz];generalize carryE y=z at *;generalize y.e/2251799813685248=k at *
 have e2:(⟨x.a+(4503599627370458 - z.a),x.b+(4503599627370494 - z.b),x.c+(4503599627370494 - z.c),x.d+(4503599627370494 - z.d),x.e+(4503599627370494 - z.e)⟩:E5).val+z.val=x.val+2*PN:=by
  simp only [E5.val,PN];omega
 rw [← Nat.add_assoc,e2,Nat.add_mul_mod_self_right,Nat.mul_comm,Nat.add_mul_mod_self_left]
def mulR (x y:E5):E5 :=
 ⟨x.a*y.a+(x.b*19)*y.e+(x.c*19)*y.d+(x.d*19)*y.c+(x.e*19)*y.b,
  x.a*y.b+x.b*y.a+(x.c*19)*y.e+(x.d*19)*y.d+(x.e*19)*y.c,
  x.a*y.c+x.b*y.b+x.c*y.a+(x.d*19)*y.e+(x.e*19)*y.d,
  x.a*y.d+x.b*y.c+x.c*y.b+x.d*y.a+(x.e*19)*y.e,
  x.a*y.e+x.b*y.d+x.c*y.c+x.d*y.b+x.e*y.a⟩
def mulE (x y:E5):E5:=carryE (carryE (mulR x y))
theorem mulR_poly (a b c d e p q r s t C:Nat) :
  (a+b*C+c*(C*C)+d*(C*C*C)+e*(C*C*C*C))*(p+q*C+r*(C*C)+s*(C*C*C)+t*(C*C*C*C))+19*((b*t+c*s+d*r+e*q)+(c*t+d*s+e*r)*C+(d*t+e*s)*(C*C)+e*t*(C*C*C)) =
  (a*p+(b*19)*t+(c*19)*s+(d*19)*r+(e*19)*q)+(a*q+b*p+(c*19)*t+(d*19)*s+(e*19)*r)*C+(a*r+b*q+c*p+(d*19)*t+(e*19)*s)*(C*C)+(a*s+b*r+c*q+d*p+(e*19)*t)*(C*C*C)+(a*t+b*s+c*r+d*q+e*p)*(C*C*C*C)
  + (C*C*C*C*C)*((b*t+c*s+d*r+e*q)+(c*t+d*s+e*r)*C+(d*t+e*s)*(C*C)+e*t*(C*C*C)):=by grind
theorem mulR_val (x y:E5):(mulR x y).val%PN=(x.val*y.val)%PN:=by
 have h:=mulR_poly x.a x.b x.c x.d x.e y.a y.b y.c y.d y.e 2251799813685248;generalize hk:(x.b*y.e+x.c*y.d+x.d*y.c+x.e*y.b)+(x.c*y.e+x.d*y.d+x.e*y.c)*2251799813685248+(x.d*y.e+x.e*y.d)*(2251799813685248*2251799813685248)+x.e*y.e*(2251799813685248*2251799813685248*2251799813685248)=k at h;have e1:x.val*y.val+19*k=(mulR x y).val+(PN+19)*k:=h
 have e2:x.val*y.val=(mulR x y).val+PN*k:=by
  rw [Nat.add_mul] at e1; omega
 rw [e2,Nat.add_mul_mod_self_left]
theorem mul_val (x y:E5):(mulE x y).val%PN=(x.val*y.val)%PN:=by rw [mulE,qcg,qcg,mulR_val]
theorem qei {a b m n:Nat} (ha:a<m) (hb:b<n):a*b≤(m - 1)*(n - 1):=Nat.mul_le_mul (by omega) (by omega)
theorem mulR_lt {x y:E5} (hx:x.Ok) (hy:y.Ok):(mulR x y).Lt 2596148429267413814265248164610048∧(mulR x y).e<162259276829213363391578010288128:=by
 obtain ⟨h1,h2,h3,h4,h5⟩:=hx;obtain ⟨k1,k2,k3,k4,k5⟩:=hy;have m:∀ {a b:Nat},a<4503599627370496→b<4503599627370496→a*b≤20282409603651661416747996545025:=fun ha hb=>Nat.le_trans (qei ha hb) (by decide)
 have n:∀ {a b:Nat},a<4503599627370496→b<4503599627370496→(a*19)*b≤385365782469381566918211934355475:=fun {a b} ha hb=>by
  have:=m ha hb;rw [Nat.mul_right_comm]; omega
 have a1:=m h1 k1; have a2:=n h2 k5; have a3:=n h3 k4; have a4:=n h4 k3; have a5:=n h5 k2;have b1:=m h1 k2; have b2:=m h2 k1; have b3:=n h3 k5; have b4:=n h4 k4; have b5:=n h5 k3;have c1:=m h1 k3; have c2:=m h2 k2; have c3:=m h3 k1; have c4:=n h4 k5; have c5:=n h5 k4;have d1:=m h1 k4; have d2:=m h2 k3; have d3:=m h3 k2; have d4:=m h4 k1; have d5:=n h5 k5;have e1:=m h1 k5; have e2:=m h2 k4; have e3:=m h3 k3; have e4:=m h4 k2; have e5:=m h5 k1;refine ⟨⟨?_,?_,?_,?_,?_⟩,?_⟩ <;> simp only [mulR] <;> omega
theorem mul_big {x y:E5} (hx:x.Ok) (hy:y.Ok):(carryE (mulR x y)).Lt 18446744073709551616:=by
 obtain ⟨⟨h1,h2,h3,h4,h5⟩,h6⟩:=mulR_lt hx hy;generalize mulR x y=r at *
 constructor <;> simp only [carryE] <;> omega
theorem qba {x y:E5} (hx:x.Ok) (hy:y.Ok):(mulE x y).Ok:=carry_ok (mul_big hx hy)
theorem below_new (w:World) (o:Obj):Below w.heap.size w (w.alloc o):=(Below.refl _ _).alloc (Nat.le_refl _) _
theorem qah:(Tryz.prog.info? 79).map (·.size)=some 5:=by kernel_rfl
theorem qdd:(Tryz.prog.info? 77).map (·.size)=some 5:=by kernel_rfl
theorem one64:(Tryz.prog.info? 76).map (·.size)=some 1:=by kernel_rfl
def limbs (x:E5):List Nat:=[x.a,x.b,x.c,x.d,x.e]
def wV (l:List Nat):Array Value:=(l.map fun n:Nat=>Value.int .u64 (n:Int)).toArray
def eV (x:E5):Array Value:=wV (limbs x)
def mixV (x y:E5) (k:Nat):Array Value:=wV ((limbs x).take k++(limbs y).drop k)
theorem qcM (x y:E5):mixV x y 5=eV x:=rfl
theorem eV_size (x:E5):(eV x).size=5:=rfl
theorem eV_at (x:E5) (k:Nat) (h:k<5):(eV x)[k]?=some (.int .u64 (((limbs x).getD k 0:Nat):Int)):=by
 match k,h with
 | 0,_=>rfl
 | 1,_=>rfl
 | 2,_=>rfl
 | 3,_=>rfl
 | 4,_=>rfl
theorem qcX (x y:E5) (k:Nat) (h:k<5):(mixV x y k)[k]?=some (.int .u64 (((limbs y).getD k 0:Nat):Int)):=by
 match k,h with
 | 0,_=>rfl
 | 1,_=>rfl
 | 2,_=>rfl
 | 3,_=>rfl
 | 4,_=>rfl
theorem qcL (x y:E5) (k:Nat) (h:k<5):(mixV x y k).setIfInBounds k (.int .u64 (((limbs x).getD k 0:Nat):Int))=mixV x y (k+1):=by
 match k,h with
 | 0,_=>rfl
 | 1,_=>rfl
 | 2,_=>rfl
 | 3,_=>rfl
 | 4,_=>rfl
theorem qbg {x:E5} {m:Nat} (h:x.Lt m) (hm:0<m) (k:Nat):(limbs x).getD k 0<m:=by
 match k with
 | 0=>exact h.a
 | 1=>exact h.b
 | 2=>exact h.c
 | 3=>exact h.d
 | 4=>exact h.e
 | k+5=>exact hm
def zE:E5:=⟨0,0,0,0,0⟩
def highE (x:E5):E5:=⟨x.a/2251799813685248,x.b/2251799813685248,x.c/2251799813685248,x.d/2251799813685248,x.e/2251799813685248⟩
theorem qdT (x:E5) (k:Nat) (h:k<5):(limbs (highE x)).getD k 0=(limbs x).getD k 0/2251799813685248:=by
 match k,h with
 | 0,_=>rfl
 | 1,_=>rfl
 | 2,_=>rfl
 | 3,_=>rfl
 | 4,_=>rfl
theorem carryE_at (x:E5) (k:Nat) (h:k<5):(limbs (carryE x)).getD k 0=(limbs x).getD k 0%2251799813685248+(if k=0 then (limbs (highE x)).getD 4 0*19 else (limbs (highE x)).getD (k - 1) 0):=by
 match k,h with
 | 0,_=>rfl
 | 1,_=>rfl
 | 2,_=>rfl
 | 3,_=>rfl
 | 4,_=>rfl
structure F3 (w0:World) (g r h:Nat) (x z y:Array Value) (u:World):Prop where
 bel:Below w0.heap.size w0 u
 x:Blk u g 79 x
 z:Blk u r 79 z
 y:Blk u h 77 y
 lg:w0.heap.size≤g
 lr:w0.heap.size≤r
 lh:w0.heap.size≤h
 gh:g≠h
 gr:g≠r
 rh:r≠h
theorem F3.putX {w0 u u':World} {g r h:Nat} {x z y x':Array Value} (k:F3 w0 g r h x z y u) (hw:Wrote g u u') (hb:Blk u' g 79 x'):F3 w0 g r h x' z y u' :=
 ⟨hw.below k.bel k.lg k.bel.size,hb,hw.blk k.z (Ne.symm k.gr),hw.blk k.y (Ne.symm k.gh),k.lg,k.lr,k.lh,k.gh,k.gr,k.rh⟩
theorem F3.putY {w0 u u':World} {g r h:Nat} {x z y y':Array Value} (k:F3 w0 g r h x z y u) (hw:Wrote h u u') (hb:Blk u' h 77 y'):F3 w0 g r h x z y' u' :=
 ⟨hw.below k.bel k.lh k.bel.size,hw.blk k.x k.gh,hw.blk k.z k.rh,hb,k.lg,k.lr,k.lh,k.gh,k.gr,k.rh⟩
theorem qel (l:Nat) (h:l<18446744073709551616):bits .and .u64 (l:Int) 2251799813685247=((l%2251799813685248:Nat):Int):=by
 have h1:=and64 l 2251799813685247 h (by decide);rw [show ((2251799813685247:Nat):Int)=2251799813685247 from rfl] at h1;rw [h1]
 congr 1
 exact Nat.and_two_pow_sub_one_eq_mod l 51
theorem mask_sum (l v:Nat) (h:l<18446744073709551616) (hv:v<18444492273895866368):IntKind.u64.wrap (bits .and .u64 (l:Int) 2251799813685247+(v:Int))=((l%2251799813685248+v:Nat):Int):=by
 rw [qel l h,IntKind.wrap_u64]; omega
theorem mask_sum19 (l v:Nat) (h:l<18446744073709551616) (hv:v<900000000000000000):IntKind.u64.wrap (bits .and .u64 (l:Int) 2251799813685247+(v:Int)*19)=((l%2251799813685248+v*19:Nat):Int):=by
 rw [qel l h,IntKind.wrap_u64]; omega
def ElemPost (x:E5) (w:World) (e:Ending) (w':World):Prop:=e=.returned (.agg (eV x))∧Below w.heap.size w w'
theorem Blk.newAt {w:World} {n:Nat} {t:TypeId} {cs:Array Value} (h:w.heap.size=n):Blk (w.alloc (.cells cs t)) n t cs:=h▸Blk.new w t cs
theorem qbQ (x:E5) (w:World) (hx:x.Lt 18446744073709551616):Calls Tryz.prog 67 #[.agg (eV x)] w (ElemPost (carryE x) w):=by
 have hu:=Tryz.underlying79;have hu5:=Tryz.underlying77
 have hst0:F3 w w.heap.size (w.heap.size+1) (w.heap.size+1+1) (eV x) (eV zE) (mixV (highE x) zE 0) (((w.alloc (.cells (eV x) 79)).alloc (.cells (eV zE) 79)).alloc (.cells (eV zE) 77)) :=
  ⟨((below_new _ _).alloc (by simp) _).alloc (by simp; try omega) _,((Blk.new _ _ _).alloc _).alloc _,(Blk.newAt (by simp)).alloc _,Blk.newAt (by simp),Nat.le_refl _,by omega,by omega,by omega,by omega,by omega⟩
 have HX:=zY hx;have HST0:=zY hst0;clear hx;go_enter Tryz.func67,Tryz.ntmps67;go_wp2_with (refine qan (x:=.tmp 8) (n:=5) (r:=eV x) hst0.x (by rw [eV_size]; decide) rfl rfl rfl rfl hu5 rfl qdd ?_);clear hst0;generalize hc:w.heap.size+1+1=c at *;generalize hr:w.heap.size+1=r at *;generalize hg:w.heap.size=g at *;have HC:=zY hc;have HR:=zY hr;have HG:=zY hg;clear hc hr hg
 go_loopw [10] (fun i wr=>∃ k:Nat,k≤5∧i=.int .i64 k∧F3 w g r c (eV x) (eV zE) (mixV (highE x) zE k) wr) (fun i _=>5 - (intOf i).toNat)
 case atStart=>exact ⟨0,by omega,rfl,HST0.out⟩
 case round =>
  clear HST0;obtain ⟨k,hk,rfl,hst⟩:=hrel
  by_cases hlt:k<5
  ·have hlt':(k:Int)<5:=by omega
   obtain ⟨l,hl⟩:=eX ((limbs x).getD k 0);have hll:(l:Int)<18446744073709551616:=by have:=qbg HX.out (by decide) k; rw [← hl] at this; omega
   have hix:∀ u:World,(Instr.index 77 (.agg (eV x)) (.int .i64 (k:Int))).run Tryz.prog u=.ok (.int .u64 (l:Int)) u:=fun u =>
    qaR (n:=5) (e:=76) hu5 hlt (by rw [hl]; exact eV_at x k hlt) (by kernel_rfl) (by kernel_rfl) ⟨_,Tryz.underlying76⟩
   have d0:=hst.y.cell k;rw [qcX _ _ _ hlt] at d0;have f0:=hst.y.free k;have hset:=qcL (highE x) zE k hlt;rw [qdT _ _ hlt,← hl] at hset;have HSET:=zY hset;have HST:=zY hst;clear hset hst hl;go_wp2_with fail;refine ⟨⟨k+1,by omega,by go_num,HST.out.putY (qai _ _ _ _) ?_⟩,by simp [intOf]; omega⟩;have h:=qak (i:=k) HST.out.y (.int .u64 ((l/2251799813685248:Nat):Int));rw [HSET.out] at h;exact h
  ·obtain rfl:k=5:=by omega
   rw [qcM] at hst;have hst1:F3 w g r c (mixV (carryE x) x 0) (eV zE) (eV (highE x)) wr:=hst;have HST:=zY hst1;clear hst hst1;go_wp2_with fail;obtain ⟨wo,rfl⟩:∃ x:World,x=wr:=⟨_,rfl⟩
   go_loopw [19] (fun i wr=>∃ k:Nat,k≤5∧i=.int .i64 k∧F3 w g r c (mixV (carryE x) x k) (eV zE) (eV (highE x)) wr) (fun i _=>5 - (intOf i).toNat)
   case atStart=>exact ⟨0,by omega,rfl,HST.out⟩
   case round =>
    clear HST;obtain ⟨k,hk,rfl,hst⟩:=hrel
    by_cases hlt2:k<5
    ·obtain ⟨l,hl⟩:=eX ((limbs x).getD k 0);have hll0:=qbg HX.out (by decide) k;rw [← hl] at hll0;have hll:(l:Int)<18446744073709551616:=by omega
     obtain ⟨j,hj⟩:=eX (if k=0 then 4 else k - 1);have hj5:j<5:=by rw [hj]; split <;> omega
     have hjk:((k:Int)+5 - 1)%5=(j:Int):=by rw [hj]; split <;> omega
     have hjk2:((k:Int)+4)%5=(j:Int):=by rw [hj]; split <;> omega
     obtain ⟨m,hm⟩:=eX ((limbs (highE x)).getD j 0)
     have hml:m<8192:=by
      have:=qbg HX.out (by decide) j;rw [hm,qdT _ _ hj5]; omega
     have hml':(m:Int)<8192:=by omega
     have dx:=hst.x.cell k;rw [qcX _ _ _ hlt2,← hl] at dx;have fx:=hst.x.free k;have dy:=hst.y.cell j;rw [eV_at _ _ hj5,← hm] at dy;have hset:=qcL (carryE x) x k hlt2
     have hval:(limbs (carryE x)).getD k 0=l%2251799813685248+(if k=0 then m*19 else m):=by
      rw [carryE_at _ _ hlt2,← hl,hm,hj]
      by_cases h0:k=0
      ·simp [h0]
      ·simp [h0]
     rw [hval] at hset;have HSET:=zY hset;have HST:=zY hst;have HJ:=zY hj;have hlt':(k:Int)<5:=by omega
     clear hset hst hl hm hval hj
     by_cases h0:k=0
     ·subst h0;obtain rfl:j=4:=by have:=HJ.out; simpa using this
      rw [show ((0:Nat):Int)=0 from rfl];clear hjk hjk2 hlt' hlt2;go_wp2_with fail;refine ⟨⟨1,by omega,rfl,HST.out.putX (qai _ _ _ _) ?_⟩,by simp [intOf]⟩;rw [mask_sum19 l m hll0 (by omega)];have h:=qak (i:=0) HST.out.x (.int .u64 ((l%2251799813685248+m*19:Nat):Int));have h2:=HSET.out;rw [if_pos rfl] at h2;rw [h2] at h;exact h
     ·have hb:((k:Int) == 0)=false:=by rw [beq_eq_false_iff_ne]; omega
      go_wp2_with fail;refine ⟨⟨k+1,by omega,by go_num,HST.out.putX (qai _ _ _ _) ?_⟩,by simp [intOf]; omega⟩;rw [mask_sum l m hll0 (by omega)];have h:=qak (i:=k) HST.out.x (.int .u64 ((l%2251799813685248+m:Nat):Int));have h2:=HSET.out;rw [if_neg h0] at h2;rw [h2] at h;exact h
    ·obtain rfl:k=5:=by omega
     rw [qcM] at hst;have HST:=zY hst;clear hst
     go_wp2_with (first
      | (refine qac (x:=.tmp 1) HST.out.x rfl rfl rfl hu rfl qah ?_)
      | (refine qad (x:=.tmp 2) (cells:=eV (carryE x)) HST.out.z rfl rfl rfl rfl qah rfl (by simp [eV,wV,limbs,Value.oneCell']) ?_; intro w5 hb5 hw5))
     refine bodyPost_ret (qau (P:=Tryz.prog) rfl rfl hb5 hu rfl qah) rfl ⟨rfl,?_⟩;exact hw5.below HST.out.bel HST.out.lr HST.out.bel.size
def rawAdd (x y:E5):E5:=⟨x.a+y.a,x.b+y.b,x.c+y.c,x.d+y.d,x.e+y.e⟩
theorem rawAdd_at (x y:E5) (k:Nat) (h:k<5):(limbs (rawAdd x y)).getD k 0=(limbs x).getD k 0+(limbs y).getD k 0:=by
 match k,h with
 | 0,_=>rfl
 | 1,_=>rfl
 | 2,_=>rfl
 | 3,_=>rfl
 | 4,_=>rfl
def rawSub (x z:E5):E5:=⟨x.a+(4503599627370458 - z.a),x.b+(4503599627370494 - z.b),x.c+(4503599627370494 - z.c),x.d+(4503599627370494 - z.d),x.e+(4503599627370494 - z.e)⟩
theorem rawSub_at (x y:E5) (k:Nat) (h:k<5):(limbs (rawSub x y)).getD k 0=(limbs x).getD k 0+((if k=0 then 4503599627370458 else 4503599627370494) - (limbs y).getD k 0):=by
 match k,h with
 | 0,_=>rfl
 | 1,_=>rfl
 | 2,_=>rfl
 | 3,_=>rfl
 | 4,_=>rfl
structure G3 (w0:World) (g h r:Nat) (x y z:Array Value) (u:World):Prop where
 bel:Below w0.heap.size w0 u
 x:Blk u g 79 x
 y:Blk u h 79 y
 z:Blk u r 79 z
 lg:w0.heap.size≤g
 lh:w0.heap.size≤h
 lr:w0.heap.size≤r
 gh:g≠h
 gr:g≠r
 hr:h≠r
theorem G3.putX {w0 u u':World} {g h r:Nat} {x y z x':Array Value} (k:G3 w0 g h r x y z u) (hw:Wrote g u u') (hb:Blk u' g 79 x'):G3 w0 g h r x' y z u' :=
 ⟨hw.below k.bel k.lg k.bel.size,hb,hw.blk k.y (Ne.symm k.gh),hw.blk k.z (Ne.symm k.gr),k.lg,k.lh,k.lr,k.gh,k.gr,k.hr⟩
theorem G3.putY {w0 u u':World} {g h r:Nat} {x y z y':Array Value} (k:G3 w0 g h r x y z u) (hw:Wrote h u u') (hb:Blk u' h 79 y'):G3 w0 g h r x y' z u' :=
 ⟨hw.below k.bel k.lh k.bel.size,hw.blk k.x k.gh,hb,hw.blk k.z (Ne.symm k.hr),k.lg,k.lh,k.lr,k.gh,k.gr,k.hr⟩
theorem G3.drew {w0 u:World} {g h r:Nat} {x y z:Array Value} (k:G3 w0 g h r x y z u):G3 w0 g h r x y z u.drew :=
 ⟨k.bel.drew,k.x,k.y,k.z,k.lg,k.lh,k.lr,k.gh,k.gr,k.hr⟩
theorem G3.next {w0 u u':World} {g h r:Nat} {x y z:Array Value} (k:G3 w0 g h r x y z u) (hb:Below u.heap.size u u'):G3 w0 g h r x y z u' :=
 ⟨k.bel.trans (hb.mono k.bel.size),k.x.below hb k.x.lt,k.y.below hb k.y.lt,k.z.below hb k.z.lt,k.lg,k.lh,k.lr,k.gh,k.gr,k.hr⟩
theorem g3_new (w:World) (x y z:Array Value):G3 w w.heap.size (w.heap.size+1) (w.heap.size+1+1) x y z (((w.alloc (.cells x 79)).alloc (.cells y 79)).alloc (.cells z 79)) :=
 ⟨((below_new _ _).alloc (by simp) _).alloc (by simp; try omega) _,((Blk.new _ _ _).alloc _).alloc _,(Blk.newAt (by simp)).alloc _,Blk.newAt (by simp),Nat.le_refl _,by omega,by omega,by omega,by omega,by omega⟩
theorem add_w64' (a b:Nat) (h:a+b<18446744073709551616):IntKind.u64.wrap ((a:Int)+(b:Int))=((a+b:Nat):Int):=by
 rw [IntKind.wrap_u64]; omega
theorem add_any (x y:E5) (w:World) (hx:x.Lt 9223372036854775808) (hy:y.Lt 9223372036854775808):Calls Tryz.prog 45 #[.agg (eV x),.agg (eV y)] w (ElemPost (addE x y) w):=by
 have hu:=Tryz.underlying79;have hst0:G3 w w.heap.size (w.heap.size+1) (w.heap.size+1+1) (mixV (rawAdd x y) x 0) (eV y) (eV zE) _:=g3_new w (eV x) (eV y) (eV zE);have HX:=zY hx;have HY:=zY hy;have HST0:=zY hst0;clear hx hy hst0;go_enter Tryz.func45,Tryz.ntmps45;go_wp2_with fail;generalize hr:w.heap.size+1+1=r at *;generalize hh:w.heap.size+1=h at *;generalize hg:w.heap.size=g at *;have HR:=zY hr;have HH:=zY hh;have HG:=zY hg;clear hr hh hg
 go_loopw [6] (fun i wr=>∃ k:Nat,k≤5∧i=.int .i64 k∧G3 w g h r (mixV (rawAdd x y) x k) (eV y) (eV zE) wr) (fun i _=>5 - (intOf i).toNat)
 case atStart=>exact ⟨0,by omega,rfl,HST0.out⟩
 case round =>
  clear HST0;obtain ⟨k,hk,rfl,hst⟩:=hrel
  by_cases hlt:k<5
  ·have hlt':(k:Int)<5:=by omega
   obtain ⟨l,hl⟩:=eX ((limbs x).getD k 0);obtain ⟨m,hm⟩:=eX ((limbs y).getD k 0);have hll:l<9223372036854775808:=by rw [hl]; exact qbg HX.out (by decide) k
   have hml:m<9223372036854775808:=by rw [hm]; exact qbg HY.out (by decide) k
   have hset:=qcL (rawAdd x y) x k hlt;rw [rawAdd_at _ _ _ hlt,← hl,← hm] at hset;have ex:(mixV (rawAdd x y) x k)[k]?=some (.int .u64 (l:Int)):=by rw [hl]; exact qcX _ _ _ hlt
   have ey:(eV y)[k]?=some (.int .u64 (m:Int)):=by rw [hm]; exact eV_at _ _ hlt
   have HSET:=zY hset;have EX:=zY ex;have EY:=zY ey;have HLL:=zY hll;have HML:=zY hml;have HC0:=hst.drew;clear hset ex ey hst hl hm hll hml;go_wp2_with fail;refine qal (fun u=>G3 w g h r (mixV (rawAdd x y) x k) (eV y) (eV zE) u) (fun u=>G3 w g h r (mixV (rawAdd x y) x (k+1)) (eV y) (eV zE) u) [(0,some 9),(1,some 10),(2,some 11),(3,some 12),(4,some 13),(5,some 14),(6,some 15),(7,some 16),(8,some 17),(9,some 18),(10,some 19),(11,none)] (by kernel_rfl) (by kernel_rfl) (by decide) (by kernel_rfl) (fun _=>rfl) HC0 ?_;apply yN_
   ·apply dP [];exact fun _=>rfl;rfl;rintro vals - w1 hC1 E hE;simp only [sP] at hE ⊢;go_wp2;exact .mk (hE _ hC1)
   apply yN_
   ·apply dP [];exact fun _=>rfl;rfl;rintro vals ⟨-,-⟩ w1 hC1 E hE;simp only [sP] at hE ⊢;go_wp2;exact .mk (hE _ hC1)
   apply yN_
   ·apply dP [(1,some 10),(0,some 9)];exact fun _=>rfl;rfl;intro vals vq w1 hC1 E hE;simp only [sP,vq] at hE ⊢;clear vq;go_wp2;exact .mk (hE _ hC1)
   apply yN_
   ·apply dP [(2,some 11)];exact fun _=>rfl;rfl;intro vals vq w1 hC1 E hE;have d0:=hC1.x.cell k;rw [EX.out] at d0;simp only [sP,vq] at hE ⊢;clear vq;go_wp2;exact .mk (hE _ hC1)
   apply yN_
   ·apply dP [];exact fun _=>rfl;rfl;intro vals vq w1 hC1 E hE;clear vq;simp only [sP] at hE ⊢;go_wp2;exact .mk (hE _ hC1)
   apply yN_
   ·apply dP [];exact fun _=>rfl;rfl;intro vals vq w1 hC1 E hE;clear vq;simp only [sP] at hE ⊢;go_wp2;exact .mk (hE _ hC1)
   apply yN_
   ·apply dP [(5,some 14),(4,some 13)];exact fun _=>rfl;rfl;intro vals vq w1 hC1 E hE;simp only [sP,vq] at hE ⊢;clear vq;go_wp2;exact .mk (hE _ hC1)
   apply yN_
   ·apply dP [(6,some 15)];exact fun _=>rfl;rfl;intro vals vq w1 hC1 E hE;have d0:=hC1.y.cell k;rw [EY.out] at d0;simp only [sP,vq] at hE ⊢;clear vq;go_wp2;exact .mk (hE _ hC1)
   apply yN_
   ·apply dP [(3,some 12),(7,some 16)];exact fun _=>rfl;rfl;intro vals vq w1 hC1 E hE;simp only [sP,vq] at hE ⊢;clear vq;go_wp2;rw [add_w64' l m (by have:=HLL.out; have:=HML.out; omega)];exact .mk (hE _ hC1)
   apply yN_
   ·apply dP [];exact fun _=>rfl;rfl;intro vals vq w1 hC1 E hE;clear vq;simp only [sP] at hE ⊢;go_wp2;exact .mk (hE _ hC1)
   apply yN_
   ·apply dP [(9,some 18),(0,some 9),(0,some 9),(1,some 10),(2,some 11),(3,some 12),(4,some 13),(5,some 14),(6,some 15),(7,some 16),(8,some 17)];exact fun _=>rfl;rfl;intro vals vq w1 hC1 E hE;simp only [sP,vq] at hE ⊢;clear vq;go_wp2;exact .mk (hE _ hC1)
   apply yL_ (v:=undef)
   ·apply dP [(10,some 19),(8,some 17),(0,some 9),(1,some 10),(2,some 11),(3,some 12),(4,some 13),(5,some 14),(6,some 15),(7,some 16),(8,some 17)];exact fun _=>rfl;rfl;intro vals vq w1 hC1 E hE;have d0:=hC1.x.cell k;rw [EX.out] at d0;have q0:=hC1.x.free k;simp only [sP,vq] at hE ⊢;clear vq;go_wp2;refine .mk (hE _ (hC1.putX (qai _ _ _ _) ?_));have h:=qak (i:=k) hC1.x (.int .u64 ((l+m:Nat):Int));rw [HSET.out] at h;exact h
   intro vals vq w1 hC1;simp only [sP,vq];clear vq;clear HC0;have HC1:=zY hC1;clear hC1;go_wp2_with fail;exact ⟨⟨k+1,by omega,by go_num,HC1.out⟩,by simp [intOf]; omega⟩
  ·obtain rfl:k=5:=by omega
   rw [qcM] at hst;have HST:=zY hst;clear hst;go_wp2_with (refine qac (x:=.tmp 2) HST.out.x rfl rfl rfl hu rfl qah ?_);refine qab (qbQ (rawAdd x y) _ ?_) ?_
   ·obtain ⟨a1,a2,a3,a4,a5⟩:=HX.out;obtain ⟨b1,b2,b3,b4,b5⟩:=HY.out
    constructor <;> simp only [rawAdd] <;> omega
   rintro e w2 ⟨rfl,hb2⟩;have hs2:=HST.out.next hb2;have HS2:=zY hs2;clear HST hs2 hb2;go_wp2_with (refine qad (x:=.tmp 4) (cells:=eV (addE x y)) HS2.out.z rfl rfl rfl rfl qah rfl (by simp [eV,wV,limbs,Value.oneCell']) ?_; intro w5 hb5 hw5);refine bodyPost_ret (qau (P:=Tryz.prog) rfl rfl hb5 hu rfl qah) rfl ⟨rfl,?_⟩;exact hw5.below HS2.out.bel HS2.out.lr HS2.out.bel.size
end Go.Proofs.YtcbkaaodmjphdaaGreatDoor
