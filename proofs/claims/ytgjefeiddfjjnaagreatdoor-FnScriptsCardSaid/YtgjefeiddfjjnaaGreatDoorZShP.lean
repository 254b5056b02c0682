/- Contracts of the library as they stand in this program: the numbers of its functions and types; written by the kit's tools lay-shelf and lay-plain. -/
import Derived.Shelf.Strings.Shaped
import Derived.Shelf.Strings.SplitShaped
import Derived.Shelf.Strings.Prefix
import Derived.Shelf.Strings.FieldsFuncAny
import Derived.Shelf.Strconv.AtoiAll
import Derived.Shelf.Strconv.ErrVarAll
import Derived.Lib.AtoiErrMem
import Derived.Test.YtgjefeiddfjjnaaGreatDoorZSetDefS
set_option maxHeartbeats 8000000
set_option maxRecDepth 100000
namespace Go.Proofs.YtgjefeiddfjjnaaGreatDoor
open Go.Shelf
open Lib renaming countB->Li,cut->JT,goFieldsP->K5
open Go.Proofs.Tryz renaming prog->JG
def ZlJ:Go.Shelf.Ren:=⟨fun |145=>52|220=>98|219=>153|217=>213|225=>214|224=>215|267=>216|266=>265|314=>266|n=>n,fun |9=>9|4=>4|59=>85|3=>3|5=>5|46=>147|146=>235|51=>234|n=>n,fun |1=>0|n=>n⟩
theorem Zqc:Go.Proofs.Lays.n145 JG ZlJ:=by repeat' first|kernel_rfl|exact nmE Ξ Ξ|intro _|constructor
open Go.RowKit Go.Lib in
theorem ZeY (s sep:ByteArray) (m:Int) (w:World) (hs:s.size<4294967281) (hm:w.cell? ⟨0,0,none⟩=some (.int .i64 m)):
  Calls JG 52 #[.string s, .string sep] w fun e w'=>e= .returned (.tuple #[.string ⟨(JT s.data.toList sep.data.toList).1.toArray⟩, .string ⟨(JT s.data.toList sep.data.toList).2.1.toArray⟩, .bool (JT s.data.toList sep.data.toList).2.2])/\ ∃ n,w'=w.drewN n:=Any.strings_Cut Zqc s sep m w hs hm
def ZlN:Go.Shelf.Ren:=⟨fun |100=>99|207=>154|n=>n,fun |9=>9|4=>4|3=>3|n=>n,fun |n=>n⟩
theorem ZqE:Go.Proofs.Lays.n100 JG ZlN:=by repeat' first|kernel_rfl|exact nmE Ξ Ξ|intro _|constructor
open Go.RowKit Go.Lib in
theorem ZhO (s p:ByteArray) (w:World) (hs:s.size<=9223372036854775807):
  Calls JG 99 #[.string s, .string p] w fun e w'=>e= .returned (.bool (Lib.hasSuffix s.data.toList p.data.toList))/\w'=w:=Any.strings_HasSuffix ZqE s p w hs
def ZlG:Go.Shelf.Ren:=⟨fun |146=>23|221=>51|268=>95|138=>96|143=>97|195=>150|197=>151|218=>152|219=>153|260=>212|217=>213|225=>214|224=>215|267=>216|266=>265|314=>266|n=>n,fun |9=>9|31=>49|3=>3|4=>4|0=>0|105=>156|21=>21|5=>5|46=>147|119=>230|139=>233|138=>232|146=>235|51=>234|n=>n,fun |1=>0|3=>1|4=>2|n=>n⟩
theorem Zqs:Go.Proofs.Lays.n146 JG ZlG:=by repeat' first|kernel_rfl|exact nmE Ξ Ξ|intro _|constructor
open Go.RowKit Go.Lib in
theorem Zeb (s sep:ByteArray) (m:Int) (w:World) (hs:s.size<4294967281) (hm:w.cell? ⟨0,0,none⟩=some (.int .i64 m)) (h1:1<=sep.size):
  Calls JG 23 #[.string s, .string sep] w fun e w'=>
   e= .returned (.slice (some ⟨w.heap.size,0,none⟩) (Li s sep+1) (Li s sep+1))/\w'=w.alloc (.cells ((Lib.splitB sep 0 (Li s sep) s).map Value.string).toArray 9):=Any.strings_Split Zqs Ξ s sep m w hs hm h1
def Zlu:Go.Shelf.Ren:=⟨fun |229=>100|n=>n,fun |9=>9|40=>124|31=>49|152=>159|3=>3|0=>0|4=>4|21=>21|154=>161|n=>n,fun |n=>n⟩
theorem Zqh:Go.Proofs.Lays.n229 JG Zlu:=by repeat' first|kernel_rfl|exact nmE Ξ Ξ|intro _|constructor
open Go.RowKit Go.Lib in
theorem Zhe (g:Nat) (lb:Array Value) (eg: ∀ args w,(callFunc g args).run JG w= .ok (.enter g args) w) (p:Nat->Bool) (s:ByteArray) (w:World) (hs:s.size<=4294967296) (hp:PredAt JG g lb encR p w):
  Calls JG 100 #[.string s, .func (.func g) #[] lb] w fun e w'=> ∃ A,e= .returned (.slice (some ⟨A,0,none⟩) (K5 p s).length (K5 p s).length)/\w.heap.size<=A/\
   w'.ownsRow w.heap.size 9 1 (.slice (some ⟨A,0,none⟩) (K5 p s).length (K5 p s).length) (K5 p s).length ((K5 p s).map Value.string)/\Below w.heap.size w w':=Any.strings_FieldsFunc Zqh g lb eg p s w hs hp Ξ Ξ
end Go.Proofs.YtgjefeiddfjjnaaGreatDoor

namespace Go.Proofs.YtgjefeiddfjjnaaGreatDoor
open Go.RowKit
def sg (s:ByteArray):Nat:=if Zwb s.data.toList then 1 else 0
structure PI (s:ByteArray) (i d u:Nat):Prop where
 read:Lib.decFrom 0 ((Zp9 s.data.toList).take d)=some u
 at_:i=d+sg s\/(i=0/\d=0)
 le:d<=12
theorem PI.lt {s:ByteArray} {i d u:Nat} (h:PI s i d u):u<1000000000000:=by
 have:=Lib.decFrom_lt _ _ _ h.read;have a:((Zp9 s.data.toList).take d).length<=12:=by simp;have:=h.le;omega
 have b:(10:Nat)^((Zp9 s.data.toList).take d).length<=10^12:=Nat.pow_le_pow_right Φ a;omega

end Go.Proofs.YtgjefeiddfjjnaaGreatDoor

namespace Go.Proofs.YtgjefeiddfjjnaaGreatDoor
open Go.Shelf
def ZkZ:Go.Shelf.Ren:=⟨fun |172=>110|244=>168|245=>169|247=>229|279=>230|280=>231|281=>232|282=>233|287=>273|316=>274|171=>67|205=>275|321=>299|322=>300|243=>122|246=>183|283=>244|284=>245|285=>246|286=>247|129=>286|317=>288|318=>289|319=>290|320=>291|337=>306|338=>307|n=>n,fun |9=>9|3=>3|75=>105|76=>106|4=>4|5=>5|167=>212|37=>22|0=>0|85=>213|2=>2|168=>215|53=>222|175=>240|46=>147|210=>243|127=>145|145=>269|143=>267|21=>21|171=>221|173=>225|212=>254|51=>234|20=>20|213=>255|232=>281|233=>282|80=>108|n=>n,fun |15=>3|16=>4|17=>5|18=>6|19=>7|n=>n⟩
theorem ZgO:Go.Proofs.LaysC.n172 Tryz.prog ZkZ:=by repeat' first|kernel_rfl|exact nmE Ξ Ξ|intro _|constructor
open Go.RowKit in
theorem ZiN (s:ByteArray) (hmax:s.size<=9223372036854775806) (v:Int) (h:Lib.atoiAll s.data.toList= .ok v) (w:World):
  Calls Tryz.prog 110 #[.string s] w fun e w'=>e= .returned (.tuple #[.int .i64 v, .nilIface])/\(w'=w\/ ∃ t,w'=Lib.bytesWorld w 5 t):=Any.strconv_Atoi_ok ZgO s hmax v h w
open Go.RowKit in
theorem ZfY (s:ByteArray) (hlim:s.size<=281474976710656) (h:Lib.atoiAll s.data.toList= .range) (tp:TypeId) (p:Value) (w:World) (hvar:w.var? Tryz.prog "strconv.ErrRange" =some #[.iface tp p]):
  Calls Tryz.prog 110 #[.string s] w fun e w'=> ∃ N,e= .returned (.tuple #[.int .i64 (Lib.atoiSat s.data.toList), .iface 215 (.pointer (some ⟨N,0,none⟩))])/\w.heap.size<=N/\w'.heap[N]? =some (.cells #[.string ⟨#[65,116,111,105]⟩, .string s, .iface tp p] 243 (0,0))/\Below w.heap.size w w':=Any.strconv_Atoi_range_var ZgO s hlim h tp p w hvar
end Go.Proofs.YtgjefeiddfjjnaaGreatDoor

namespace Go.Proofs.YtgjefeiddfjjnaaGreatDoor
open Go.RowKit
open Lib (hid)
open Bool renaming and_eq_true->JQ
open _root_.ByteArray renaming size_append->MP
open Grow renaming refl->JH
open Lib renaming cut->JT,goFieldsP->K5,hasSuffix->M0,itoa->JK
open List renaming count_append->Ms,length_append->JY,length_cons->Kw,map_map->Mc,mem_append->Kg,mem_map->Kc,mem_singleton->Kv
open Nat renaming zero_le->JI
open Go.Proofs.Tryz renaming func63->QC,func81->QE,ntmps63->QD,ntmps81->QF,prog->JG
open Go.Proofs.Tryz
variable {B i k n:Nat} {D l:List Dfn} {F S T:Nat->Prop} {L:List UInt8} {P:List (List Dfn)} {a:Option Addr} {d:Dfn} {ps:List (List UInt8)} {v:Value} {w w':World} {α:Type}
theorem ZnW {P:Program} {n:String} {v:Array Value} (h:w.var? P n=some v) (hg:Grow w w'):w'.var? P n=some v:=by
 unfold World.var? at *;cases a:P.globalNamed n with
 |none=>simp[a] at h
 |some g=>
  simp only[a,Option.bind_some] at h ⊢;have b:g<w.heap.size:=by
   rcases Nat.lt_or_ge g w.heap.size with c|c
   ·exact c
   ·rw[Array.getElem?_eq_none c] at h;simp at h
  rw[hg.below.block g b];exact h
structure Env (w:World):Prop where
 tab:Tab w
 syn: ∃ tp p,w.var? JG "strconv.ErrSyntax" =some #[.iface tp p]
 rng: ∃ tp p,w.var? JG "strconv.ErrRange" =some #[.iface tp p]
 len: ∃ m,w.cell? ⟨0,0,none⟩=some (.int .i64 m)
theorem Env.grow (h:Env w) (hg:Grow w w'):Env w':=by
 obtain ⟨e,⟨a,b,f⟩,⟨c,d,g⟩,⟨m,i⟩⟩:=h;exact ⟨e.grow hg,⟨a,b,ZnW f hg⟩,⟨c,d,ZnW g hg⟩,⟨m,hg.cell i⟩⟩
theorem ZdV (s:ByteArray) (w:World) (hs:s.size<=1048576) (he:Env w):Calls JG 63 #[.string s] w fun e w'=>e= .returned (.tuple #[.int .i64 (Za2 s.data.toList), .bool (ZcF s.data.toList)])/\Grow w w':=by
 have d:=hid he;clear he;cases hat:Lib.atoiAll s.data.toList with
 |range=>
  obtain ⟨f,p,hv⟩:=d.out.rng;have hA:=ZfY s I hat f p w hv;exact GR
 |ok v=>
  have g:=hid (ZtW hat);have hA:=ZiN s I v hat w;clear hat;cases a:Zi v with
  |false=>
   have Hno:=hid (ZkC (s:=s.data.toList) (by rw[g.out,a];simp));go_enter QC,QD;go_wp2_with fail;refine hA.mono ?_;rintro e h ⟨rfl,hw⟩;have hG:Grow w h:=by
    exact Jg
   clear hw;go_wp2_with fail;refine (Z0 v _).mono ?_;rw[a];rintro e _ ⟨rfl,rfl⟩;clear a;go_wp2
   go_ret2
   exact ⟨CW,hG⟩
  |true=>
   have k:=ZbI a;go_enter QC,QD;go_wp2_with fail;refine hA.mono ?_;rintro e h ⟨rfl,hw⟩;have hG:Grow w h:=by
    exact Jg
   clear hw;go_wp2_with fail;refine (Z0 v _).mono ?_;rw[a];rintro e _ ⟨rfl,rfl⟩;have b:=hid a;clear a;go_wp2_with fail;refine (Zbp v _ ι (d.out.tab.grow hG)).mono ?_;rintro e l ⟨rfl,c⟩;by_cases he:JK v=s.data.toList
   ·have i:=hid (ZeI (s:=s.data.toList) (by rw[g.out,if_pos ⟨b.out,he⟩]));have j:(JK v==s.toList)=true:=(by rw[toList_data,he];exact beq_self_eq_true _);clear he;go_wp2
    go_ret2
    exact ⟨by rw[i.out.1,i.out.2];rfl,hG.trans c⟩
   ·have Hno:=hid (ZkC (s:=s.data.toList) (by rw[g.out,if_neg (fun e=>he e.2)]));have j:(JK v==s.toList)=false:=(by rw[toList_data];exact beq_eq_false_iff_ne.2 he);clear he;go_wp2
    go_ret2
    exact ⟨CW,hG.trans c⟩
 |_=>
  obtain ⟨f,p,hv⟩:=d.out.syn;have hA:Calls JG 110 #[.string s] w _:=Any.strconv_Atoi_syntax_var ZgO s I hat f p w hv;exact GR
theorem ZoS {wa:Option Addr} {c wn wc:Nat} {m:Mat} {ws:List ByteArray} (h:RdI w S a n c m.cells) (hr:I64 m.rows) (hc:I64 m.cols) (hb:m.cells.length<=1048576) (hW:RdS w T wa wn wc ws) (hws: ∀ s∈ws,s.size<=1048576) (hwn:wn<=1048576) (he:Env w):
  Calls JG 30 #[.agg #[.int .i64 m.rows, .int .i64 m.cols, .slice a n c], .slice wa wn wc] w fun e w'=> ∃ s,e= .returned (.string s)/\Ans s/\Grow w w':=by
 obtain ⟨w1,l,J,bM, -, -⟩:=al2 w #[.int .i64 m.rows, .int .i64 m.cols, .slice a n c] 37 #[] 3;have oB:Own w1 3 1 (some ⟨w.heap.size+1,0,none⟩) 0 0 (ints []):=by rw[l];exact Own.freshAt Θ Γ rfl
 have L:=hid l;have He:=hid he;have M:=hid hws;clear l he hws;go_enter func30,ntmps30;go_wp2;rw[←L.out];go_loopw [5,15] (fun v i wr=>Grow w wr/\ ∃ (k N:Nat) (r:Option Addr) (t:List Int),k<=wn/\i= .int .i64 k/\v= .slice r k N/\NumL t/\Own wr 3 1 r k N (ints t)/\(∀ g,blk r=some g->w.heap.size<g)/\Blk wr w.heap.size #[.int .i64 m.rows, .int .i64 m.cols, .slice a n c] 37) (fun _ i _=>wn-(intOf i).toNat);case atStart=>exact ⟨J,0,0,_,[],JI _,rfl,rfl,(fun x hx=>AO),oB,(fun g hg=>κ),bM⟩
 case round=>
  obtain ⟨z,k,N,r,t,hk,rfl,rfl,nB,A,O,o⟩:=hrel;by_cases P:k<wn
  ·obtain ⟨b,ad,s,rfl,hs,_,R,V⟩:=(hW.grow z).at P;have W:=M.out s (List.mem_of_getElem? hs);have C:=ZB.1 (ZfC s.data.toList);clear hs;go_wp2_with fail;refine (ZdV s _ W (He.out.grow z)).mono ?_;rintro e G ⟨rfl,f⟩;have d:=z.trans f;have X:=A.grow f;have D:=o.grow f;clear V R;generalize Za2 s.data.toList=x at *;cases ZcF s.data.toList with
   |false=>go_wp2;go_ret;exact ⟨_,rfl,Zt3,d⟩
   |true=>
    go_wp2_with (at_builtin;refine ZD rfl (.tmp 26) (.tmp 28) _ rfl T_ints rfl (X.grow ((JH _).alloc _ _)) rfl (Row.builtAt (S:=fun _=>True) 1 rfl Γ rfl fun _=>trivial) γ I Γ ?_;intro a3 c3 H hA3);have E:Grow G (G.alloc (.cells #[.int .i64 x] 3)):=(JH _).alloc _ _;have ae:=d.size;have Y:Keep (fun q=>blk r≠some q) G H:=E.any.trans hA3.keep;have p:Grow w H:=hA3.grow (d.trans E) fun g hg=>(by have:=O g hg;omega);have Z:Own H 3 1 a3 (k+1) c3 (ints (t++[x])):=Dy;have aa:=hA3.lo (B:=w.heap.size+1) (by have:=D.lt;simp;omega) (fun g hg=>by have:=O g hg;omega);have ab:=D.keep Y fun e=>(by have:=O _ e;omega);clear hA3;go_wp2;go_roundw;case rel=>exact ⟨p,k+1,c3,a3,t++[x],I,Δ,rfl,(fun y hy=>(Kg.1 hy).elim (nB y) fun h=>by rw[Kv.1 h];exact C),Z,(fun g hg=>by have:=aa g hg;omega),ab⟩
    case measure=>exact FN
  ·obtain rfl:k=wn:=I;obtain ⟨⟨m0,m1,m2⟩, -⟩:=o.three;have F:=o.lt;go_wp2_with fail;refine (Zqr (h.grow z) hr hc hb (A.rdI (S:=fun _=>True) (fun _ _=>trivial) (Zp nB)) I).mono ?_;rintro e G ⟨ya,yn,yc,ys,j,rfl,rY,af,f⟩;have d:=z.trans f;have ag:=rY.len;by_cases h0:j=0
   ·have q1:(j !=0)=false:=Av;clear h0 m0 m1 m2 F;go_wp2_with fail;refine (Zgg ya yn yc ys _ rY I (He.out.tab.grow d)).mono ?_;rintro e H ⟨rfl,p⟩;go_wp2;go_ret;exact ⟨_,rfl,ZsN rY.rng I,d.trans p⟩
   ·have q1:(j !=0)=true:=Av;clear h0 m0 m1 m2 F;go_wp2;go_ret;exact ⟨_,rfl,Ze2,d⟩
theorem ZeT (s:ByteArray):s.data.toList.length=s.size:=CX
theorem getD_some {l:List α} {x d:α} (h:l[k]? =some x):l.getD k d=x:=by rw[List.getD,h];rfl
theorem Zbo:OM w F (.agg #[.int .i64 0, .int .i64 0, .slice none 0 0]) zeroP:=
 ⟨none,0,0,rfl,⟨by simp[zeroP],Nat.le_refl _,Γ,fun _=>rfl,fun p h=>Ω⟩,(fun x a=>by simp[zeroP] at a),(fun g h=>Ω),⟨Φ,Φ⟩,⟨Φ,Φ⟩⟩
theorem RdS.piece {cap:Nat} (h:RdS w S a n cap (ps.map Za)) (hk:k<n):
  ∃ b off y,a=some ⟨b,off,none⟩/\ps[k]? =some y/\b<w.heap.size/\w.cell? ⟨b,off+k,none⟩=some (.string (Za y)):=by
 obtain ⟨b,off,x,d,c, -,e,f⟩:=h.at hk;rw[List.getElem?_map] at c;obtain ⟨y,g,rfl⟩:=Option.map_eq_some_iff.1 c;exact ⟨b,off,y,d,g,e,f⟩
theorem ZcN {m0:Mat} (h:Za4 L=some m0): ∃ (R C:Nat) (cells:List Int),m0=⟨R,C,cells⟩/\Zd m0=true/\ZaG m0=L/\(∀ x∈cells,Zi x=true)/\L.length<=6400/\
  JT L [91]=(JK R++120::JK C,ZE C 0 cells++[93],true)/\JT (JK R++120::JK C) [120]=(JK R,JK C,true)/\ZcY (JK R)=some (R:Int)/\ZcY (JK C)=some (C:Int):=by
 obtain ⟨c,d⟩:=ZdC.1 h;obtain ⟨R,C,e,f,g,i,b,a⟩:=Zl c;obtain ⟨r,k,cells⟩:=m0;simp only at e f b a;subst e;subst f;obtain ⟨j,l⟩:=Zug c;rw[d] at j;exact ⟨R,C,cells,rfl,c,d,fun x m=>ZB.2 (a x m),by rw[←d];exact Zdy _,j,l,Zdo (ZB.2 I) rfl,Zdo (ZB.2 I) rfl⟩
theorem Zdw {o:Option α} (h: ∀ x,o=some x->False):o=none:=by
 cases o with
 |none=>rfl
 |some x=>exact (h x rfl).elim
section
variable {L:List UInt8}
theorem pn0 (h:8000<L.length):Za4 L=none:=Zdw fun b e=>by obtain ⟨R,C,a, -, -, -, -,c, -⟩:=ZcN e;omega
theorem pn1 (h:(JT L [91]).2.2=false):Za4 L=none:=Zdw fun c e=>by obtain ⟨R,C,a, -, -, -, -, -,b, -⟩:=ZcN e;rw[b] at h;cases h
theorem pn2 (h:(JT (JT L [91]).1 [120]).2.2=false):Za4 L=none:=Zdw fun d e=>by obtain ⟨R,C,a, -, -, -, -, -,b,c, -⟩:=ZcN e;rw[b] at h;simp only at h;rw[c] at h;cases h
theorem pn3 (h:ZcF (JT (JT L [91]).1 [120]).1=false):Za4 L=none:=Zdw fun f e=>by obtain ⟨R,C,a, -, -, -, -, -,b,c,d, -⟩:=ZcN e;rw[b] at h;simp only at h;rw[c] at h;simp only at h;rw[(ZeI d).2] at h;cases h
theorem pn4 (h:ZcF (JT (JT L [91]).1 [120]).2.1=false):Za4 L=none:=Zdw fun f e=>by obtain ⟨R,C,a, -, -, -, -, -,b,c, -,d⟩:=ZcN e;rw[b] at h;simp only at h;rw[c] at h;simp only at h;rw[(ZeI d).2] at h;cases h
theorem pn5 (h:M0 (JT L [91]).2.1 [93]=false):Za4 L=none:=Zdw fun c e=>by
 obtain ⟨R,C,a, -, -, -, -, -,b, -⟩:=ZcN e;rw[b] at h;unfold M0 at h;rw[Bool.eq_false_iff] at h;exact h (by rw[List.isSuffixOf_iff_suffix];exact List.suffix_append _ _)
theorem fields_of {Y:List UInt8} (hT:(JT L [91]).2.1=Y++[93]) {m0:Mat} (e:Za4 L=some m0):K5 rq (Za Y)=(m0.cells.map JK).map Za/\(∀ x∈m0.cells,Zi x=true)/\(Y=[]->m0.cells=[]):=by
 obtain ⟨R,C,cells,rfl, -, -,b, -,c, -⟩:=ZcN e;rw[c] at hT;simp only at hT;have a:ZE C 0 cells=Y:=(List.append_cancel_right hT);refine ⟨?_,b,fun d=> ?_⟩
 ·rw[←a,Zlr _ (fun x f=>(ZkI f).1)];show (fld fq [] (ZE C 0 cells)).map Za=_;rw[ZqW]
 ·rw[d] at a;cases cells with
  |nil=>rfl
  |cons x l=>exfalso;simp only[ZE] at a;rw[if_neg (fun e=>I),if_neg I] at a;simp only[List.nil_append,List.append_eq_nil_iff] at a;exact Zhl x a.1
theorem pn6 {Y:List UInt8} (hT:(JT L [91]).2.1=Y++[93]) {x:ByteArray} (hx:x∈K5 rq (Za Y)) (h:ZcF x.data.toList=false):Za4 L=none:=Zdw fun f e=>by
 obtain ⟨a,b, -⟩:=fields_of hT e;rw[a] at hx;obtain ⟨y,c,rfl⟩:=Kc.1 hx;obtain ⟨n,d,rfl⟩:=Kc.1 c;rw[show (Za (JK n)).data.toList=JK n from rfl,(ZeI (Zdo (b n d) rfl)).2] at h;cases h
def Zhw (Y:List UInt8):List Int:=if Y=[] then [] else (K5 rq (Za Y)).map fun x=>Za2 x.data.toList
def Zle (L Y:List UInt8):Mat:=⟨Za2 (JT (JT L [91]).1 [120]).1,Za2 (JT (JT L [91]).1 [120]).2.1,Zhw Y⟩
theorem pn7 {Y:List UInt8} (hT:(JT L [91]).2.1=Y++[93]) (h: ¬ (Zd (Zle L Y)=true/\ZaG (Zle L Y)=L)):Za4 L=none:=Zdw fun t e=>h (by
 obtain ⟨f,g,i⟩:=fields_of hT e;obtain ⟨R,C,b,rfl,j,k, -, -,m,n,o,p⟩:=ZcN e;have q:Zle L Y=⟨R,C,b⟩:=by
  unfold Zle;rw[m];simp only;rw[n];simp only;rw[(ZeI o).1,(ZeI p).1];congr 1;unfold Zhw;split
  ·rename_i r;exact (i r).symm
  ·rw[f,Mc,Mc];have: ∀ {l:List Int},(∀ x∈l,Zi x=true)->l.map (((fun x:ByteArray=>Za2 x.data.toList)∘Za)∘JK)=l:=by
    intro l;induction l with
    |nil=>intro _;rfl
    |cons a l s=>intro d;rw[List.map_cons,s fun y hy=>d y CJ];congr 1;exact (ZeI (Zdo (d a Θ) rfl)).1
   exact this g
 rw[q];exact ⟨j,k⟩)
end
theorem Zrq (w:World):PredAt JG 101 #[] encR rq w:=fun W x _=>by
 show Calls JG 101 #[.int .i32 (x:Int)] W _;by_cases h1:x=32
 ·subst h1;exact JA
 ·have c:((x:Int)==32)=false:=Ψ
  have a:(x==32)=false:=AU
  by_cases h2:x=59
  ·subst h2;exact JA
  ·have d:((x:Int)==59)=false:=Ψ;have b:(x==59)=false:=DP;have Hr:=hid (show rq x=false by unfold rq;rw[a,b];rfl);clear h1 h2 a b;go_enter func101,ntmps101;go_wp2;go_ret;exact ⟨A7,0,rfl⟩
theorem Zol (h:VD w S v d) (hb:d.value.cells.length<=2097152):
  Calls JG 81 #[v] w fun e w'=>e= .returned (.string (Za (ZbE d)))/\Grow w w':=by
 have i:=h;obtain ⟨a,n,c,rfl,h,B⟩:=h;obtain ⟨L,z,M,N,C,D⟩:=B;have hG1:=(JH w).alloc #[.string d.name, .int .i64 d.op, .string d.a, .string d.b, .int .i64 d.value.rows, .int .i64 d.value.cols, .slice a n c] 39;have A:=Blk.new w #[.string d.name, .int .i64 d.op, .string d.a, .string d.b, .int .i64 d.value.rows, .int .i64 d.value.cols, .slice a n c] 39;obtain ⟨⟨k,l,o,p,q,r,s⟩, -⟩:=A.seven;have t:=z;unfold I64 at z;cases hok:Z9 d with
 |false=>have Hz:=hid (Zhb hok);go_enter QE,QF;go_wp2_with fail;refine (ZdX (i.grow hG1) hb).mono ?_;exact GU
 |true=>
  obtain ⟨O,P,R,T,V⟩:=ZhQ hok;have g:=hid hok;go_enter QE,QF;go_wp2_with fail;refine (ZdX (i.grow hG1) hb).mono ?_;rw[hok];rintro e w2 ⟨rfl,hG2⟩;have j:=A.grow hG2;have hG12:=hG1.trans hG2;clear hok k l o p q r s;obtain ⟨⟨k,l,o,p,q,r,s⟩, -⟩:=j.seven;by_cases h0:d.op=0
  ·have E:(d.op==0)=true:=Av;have Hf:=hid (ZoO g.out h0);have F:=Zdy d.value;clear h0;go_wp2;refine ZaH [([0,1,2,3,4],some 5),([6,7],none)] ?_;refine ZR ?_;intro K hK;refine (Zlf (m:=d.value) (S:=S) ⟨a,n,c,rfl,(h.grow hG12).grow (JH w2).drew,C,D⟩ hb).mono ?_;exact Gl
  ·have E:(d.op==0)=false:=Av;have G:=Zlm d.op;have H:=hid (Zon (d:=d) g.out h0);have J:=hid (ZkF (d:=d) g.out h0);clear h0;go_wp2;refine ZaH [([0,1,2,3,4,8,9],some 5),([6,7,10,11],none)] ?_;refine ZR ?_;intro K hK;refine (ZvD d.op _ t).mono ?_;rintro e w3 ⟨rfl,hG3⟩;have hGa:=(JH w2).drew.trans hG3;go_wp2_with fail;refine hK _ _ (hGa) ?_;clear hK K;refine Zh ?_;refine Ze ?_;have x:=j.grow hGa;clear k l o p q r s;obtain ⟨⟨k,l,o,p,q,r,s⟩, -⟩:=x.seven;cases f:d.b.toList.isEmpty with
   |true=>have Hf:=hid (H.out f);have y:(!d.b.toList.isEmpty)=false:=(by rw[f];rfl);go_wp2;go_ret;exact ⟨CD,hG12.trans hGa⟩
   |false=>have Hf:=hid (J.out f);have y:(!d.b.toList.isEmpty)=true:=(by rw[f];rfl);go_wp2;go_ret;exact ⟨CD,hG12.trans hGa⟩
theorem ZrT {x:List UInt8} (h:1<=i):ZbF x i=if x=opw (i:Int) then (i:Int) else ZbF x (i-1):=by
 obtain ⟨n,rfl⟩: ∃ n,i=n+1:=⟨i-1,I⟩;simp only[ZbF,Nat.add_sub_cancel];rfl
abbrev Zib:Array Value:= #[.string ⟨#[]⟩, .int .i64 0, .string ⟨#[]⟩, .string ⟨#[]⟩, .int .i64 0, .int .i64 0, .slice none 0 0]
theorem ZcR:OD w F (.agg Zib) Zgj:=
 ⟨none,0,0,rfl,Own.nilw,(fun x a=>by simp[Zgj] at a),(fun g h=>Ω),⟨JI _,⟨Φ,Φ⟩,JI _,JI _,⟨Φ,Φ⟩,⟨Φ,Φ⟩⟩⟩
theorem Zsh (h:ps.length<=k):ps.getD k []=[]:=by rw[List.getD_eq_getElem?_getD,List.getElem?_eq_none h];rfl
theorem Zma {n:ByteArray} {op:Int} {A B:List UInt8} (hn:n.size<=maxLen) (ho:0<=op/\op<=9) (ha:A.length<=maxLen) (hb:B.length<=maxLen):DOk ⟨n,op,Za A,Za B,zeroP⟩:=
 ⟨hn,⟨by show _<=op;omega,by show op<=_;omega⟩,by show (Za A).size<=_;rw[Zy];exact ha,by show (Za B).size<=_;rw[Zy];exact hb,⟨F7,F8⟩,⟨F7,F8⟩⟩
theorem VSes.weak (h:VSes w S v D P) (hST: ∀ b,b<w.heap.size->S b->T b):VSes w T v D P:=by
 obtain ⟨a,c,d,f,g,i,e,j,k⟩:=h;exact ⟨a,c,d,f,g,i,e,j.weak hST,k.weak hST⟩
theorem ZuN {r:Rs} (hs:Zaa l=true) (hd:l[i]? =some d) (hr:(Zaq l)[i]? =some r):
  Zam d.name=true/\Zex l d.name=if r.isSome=true then Za (ZaG (rsM r)) else ⟨#[110,111,110,101]⟩:=by
 have b:=hs;unfold Zaa at b;rw[JQ,List.all_eq_true] at b;have a:=b.1 i (List.mem_range.2 (List.getElem?_eq_some_iff.1 hd).1);unfold ZaY at a;rw[hd] at a;simp only[JQ] at a;have e:=Zih hd;rw[a.2] at e;have f:Zn l d.name=(i:Int):=by simpa using e
 have c:=a.1;unfold Z9 at c;simp only[JQ] at c;refine ⟨c.1, ?_⟩;unfold Zex ZhC;rw[f,if_neg I,Int.toNat_natCast,hr,Option.bind_some];cases r.isSome<;>rfl
theorem ZsJ (hb:ZaE l<=B): ∀ d∈l,d.value.cells.length<=B:=fun d a=>by
 have b:=Zn4 a;unfold ZaE at hb;unfold bdD at b;omega
def SesB (B:Nat) (D:List Dfn) (P:List (List Dfn)):Prop:=ZaE D<=B/\ ∀ p∈P,ZaE p<=B
theorem SesB.run {b:Nat} {D':List Dfn} {P':List (List Dfn)} {s:ByteArray} (h:SesB B D P) (hr:ZvO L D P D' P' s) (hb:L.length+577<=b):SesB (B+b) D' P'/\P'.length<=P.length+1:=by
 rcases hr with ⟨-,rfl,rfl, -⟩|⟨-, -,rfl⟩|⟨-, -,rfl,c⟩
 ·exact ⟨⟨Fh,fun p a=>by have:=h.2 p a;omega⟩,I⟩
 ·exact ⟨⟨by have:=h.2 D' Θ;omega,fun p a=>by have:=h.2 p (by simp[a]);omega⟩,Ψ⟩
 ·refine ⟨⟨Fh,fun p a=> ?_⟩,Θ⟩;rcases Kg.1 a with a|a
  ·have:=h.2 p a;omega
  ·rw[Kv.1 a];have:=h.1;omega
theorem Zqm (hb:bdD d<=10):(ZbE d).length<=256:=by
 unfold bdD at hb;cases e:Z9 d with
 |false=>rw[Zhb e];simp
 |true=>
  have j:=ZhQ e;unfold ZbE;rw[if_pos e];have l:d.name.data.toList.length=d.name.size:=ZeT _;have m:d.a.data.toList.length=d.a.size:=ZeT _;have o:d.b.data.toList.length=d.b.size:=ZeT _;simp only[JY,Kw];split
  ·have:(ZaG d.value).length<=160:=by
    unfold ZaG;split
    ·rename_i h;obtain ⟨R,C,p,q,r,f,g,i⟩:=Zl h;have a:=ZaK (n:=d.value.rows) I I;have b:=ZaK (n:=d.value.cols) I I;have c:=ZeN (C:=d.value.cols.toNat) (k:=0) i;exact IA
    ·simp
   omega
  ·have f:=Zlm d.op;simp only[JY,Kw];have g:(if d.b.toList.isEmpty=true then ([]:List UInt8) else 32::d.b.data.toList).length<=d.b.size+1:=(by split<;>simp<;>omega);omega
theorem Zsm (g:Nat) (w:World) (h:Cur w g):
  Calls JG 43 #[.pointer (some ⟨g,0,none⟩)] w fun e w'=> ∃ s:ByteArray,(s.size<=400/\Nl s)/\e= .returned (.string s)/\Cur w' g/\Keep (fun q=>q≠g) w w':=by
 go_enter func43,ntmps43;go_wp2_with fail;refine (Zft g _ h).mono ?_;rintro e w1 ⟨nm,⟨af,D⟩,rfl,E,F⟩;have p:=hid D;clear D;go_wp2_with fail;refine (Za9 g 10 _ E I).mono ?_;rintro e t ⟨x, -,rfl,c,G⟩;have a:=F.trans G;have ae:=c.lt;clear E F G;have z: ∀ n:Nat,n<=9->(Za (JK n)).size<=21:=fun n hn=>by rw[Zy];exact Lib.itoa_length_le _ I I
 have f:=hid z;clear z;have A: ∀ n:Nat,Nl (Za (JK n)):=fun n=>Nl.b Zer;have i:=hid A;clear A;by_cases e0:x=0
 ·subst e0;go_wp2;go_ret;exact ⟨_,⟨CP,Nl.app Φ p.out⟩,rfl,c,a⟩
 by_cases e1:x=1
 ·subst e1;go_wp2_with fail;have O:RdS (t.alloc (.cells #[.string ⟨#[114,97,110,107,32]⟩, .string ⟨#[102,97,99,116,111,114,115,32]⟩] 9)) (fun q=>q=t.heap.size) (some ⟨t.heap.size,0,none⟩) 2 2 [⟨#[114,97,110,107,32]⟩,⟨#[102,97,99,116,111,114,115,32]⟩]:=RdS.lit (Blk.new _ _ _) rfl rfl Θ rfl;have j:=(JH t).alloc #[.string ⟨#[114,97,110,107,32]⟩, .string ⟨#[102,97,99,116,111,114,115,32]⟩] 9;refine (Zkj g _ _ _ _ _ (c.grow j) O (fun q hq=>I) I I).mono ?_;rintro e M ⟨y,k,rfl,P,hK⟩;have R:y.size<=8:=by simp at k;rcases k with rfl|rfl<;>decide
  have B:=hid (show Nl y by simp at k;rcases k with rfl|rfl<;>decide);clear k;go_wp2;go_ret;exact ⟨_,⟨by rw[MP];omega,Nl.app B.out p.out⟩,rfl,P,a.trans (j.any.trans hK)⟩
 by_cases e2:x=2
 ·subst e2;go_wp2_with fail;refine (Za9 g 9 _ c I).mono ?_;rintro e M ⟨r,T,rfl,l,m⟩;go_wp2_with fail;refine (Zbq (r:Int) _ ι).mono ?_;rintro e _ ⟨rfl,rfl⟩;have h5:=f.out r I;have C:=hid (i.out r);generalize Za (JK r)=t1 at *;go_wp2;go_ret;exact ⟨_,⟨by simp only[MP];have:(⟨#[115,104,111,114,116,32]⟩:ByteArray).size=6:=rfl;have:(⟨#[32]⟩:ByteArray).size=1:=rfl;omega,by repeat (first |exact p.out|exact C.out|(refine Nl.app ?_ ?_)|decide)⟩,rfl,l,a.trans m⟩
 by_cases e3:x=3
 ·subst e3;go_wp2_with fail;refine (Za9 g 9 _ c I).mono ?_;rintro e M ⟨r,T,rfl,l,m⟩;go_wp2_with fail;refine (Zbq (r:Int) _ ι).mono ?_;rintro e V ⟨rfl,o⟩;rw[←o];clear o V;have h5:=f.out r I;have C:=hid (i.out r);generalize Za (JK r)=t1 at *;go_wp2_with fail;refine (Za9 g 9 _ l I).mono ?_;rintro e w4 ⟨N,ag,rfl,W,X⟩;go_wp2_with fail;refine (Zbq (N:Int) _ ι).mono ?_;rintro e Y ⟨rfl,o⟩;rw[←o];clear o Y;have h6:=f.out N I;have Z:=hid (i.out N);generalize Za (JK N)=t2 at *;go_wp2;go_ret;exact ⟨_,⟨by simp only[MP];have:(⟨#[115,111,108,118,101,32]⟩:ByteArray).size=6:=rfl;have:(⟨#[32]⟩:ByteArray).size=1:=rfl;omega,by repeat (first |exact p.out|exact C.out|exact Z.out|(refine Nl.app ?_ ?_)|decide)⟩,rfl,W,(a.trans m).trans X⟩
 by_cases e4:x=4
 ·subst e4;go_wp2_with fail;have O:RdS (t.alloc (.cells #[.string ⟨#[117,110,100,111]⟩, .string ⟨#[]⟩, .string ⟨#[115,104,111,119]⟩, .string ⟨#[108,101,116]⟩, .string ⟨#[108,101,116,32,65]⟩, .string ⟨#[115,111,108,118,101,32,65]⟩, .string ⟨#[115,104,111,114,116,32,65,32,120]⟩] 9)) (fun q=>q=t.heap.size) (some ⟨t.heap.size,0,none⟩) 7 7 [⟨#[117,110,100,111]⟩,⟨#[]⟩,⟨#[115,104,111,119]⟩,⟨#[108,101,116]⟩,⟨#[108,101,116,32,65]⟩,⟨#[115,111,108,118,101,32,65]⟩,⟨#[115,104,111,114,116,32,65,32,120]⟩]:=RdS.lit (Blk.new _ _ _) rfl rfl Θ rfl;have j:=(JH t).alloc #[.string ⟨#[117,110,100,111]⟩, .string ⟨#[]⟩, .string ⟨#[115,104,111,119]⟩, .string ⟨#[108,101,116]⟩, .string ⟨#[108,101,116,32,65]⟩, .string ⟨#[115,111,108,118,101,32,65]⟩, .string ⟨#[115,104,111,114,116,32,65,32,120]⟩] 9;refine (Zkj g _ _ _ _ _ (c.grow j) O (fun q hq=>I) I I).mono ?_;rintro e M ⟨y,k,rfl,P,hK⟩;have R:y.size<=9:=by simp at k;rcases k with rfl|rfl|rfl|rfl|rfl|rfl|rfl<;>decide
  have B:=hid (show Nl y by simp at k;rcases k with rfl|rfl|rfl|rfl|rfl|rfl|rfl<;>decide);clear k;go_wp2;go_ret;exact ⟨_,⟨I,B.out⟩,rfl,P,a.trans (j.any.trans hK)⟩
 ·go_wp2_with fail;refine (ZtG g _ c).mono ?_;rintro e M ⟨v,d,rfl,aa,H,l,m⟩;have ab:=H;unfold bdD at ab;have ah:=Zqm H;go_wp2_with fail;refine (Zol (aa.rd (S:=fun _=>True) fun _ _=>trivial) I).mono ?_;rintro e w4 ⟨rfl,J⟩;have ai:=Zy (ZbE d);have ad:=hid (Zu2 (d:=d));generalize ZbE d=L at *;go_wp2;go_ret;exact ⟨_,⟨by rw[MP];have:(⟨#[108,101,116,32]⟩:ByteArray).size=4:=rfl;omega,Nl.app Φ (Nl.b ad.out)⟩,rfl,l.grow J,(a.trans m).trans J.any⟩
theorem Zo9 (g:Nat) (w:World) (h:Cur w g):
  Calls JG 16 #[.pointer (some ⟨g,0,none⟩)] w fun e w'=> ∃ L:List UInt8,e= .returned (.string (Za L))/\L.length<=4000/\L.count 10<=7/\Cur w' g/\Keep (fun q=>q≠g) w w':=by
 go_enter func16,ntmps16;go_wp2_with fail;refine (Za9 g 8 _ h I).mono ?_;rintro e F ⟨x,D,rfl,p,r⟩;have t:x<=7:=I
 clear D;go_wp2;go_loopw [3,4] (fun s i wr=> ∃ (k:Nat) (L:List UInt8),i= .int .i64 k/\s= .string (Za L)/\k<=7/\L.length+402*k<=3000/\L.count 10+k<=7/\Cur wr g/\Keep (fun q=>q≠g) w wr) (fun _ i _=>(intOf i).toNat);case atStart=>exact ⟨x,[],rfl,rfl,t,Ψ,Ψ,p,r⟩
 case round=>
  obtain ⟨k,L,rfl,rfl,E,G,H,v,hK⟩:=hrel;by_cases J:0<k
  ·go_wp2_with fail;refine (Zsm g _ v).mono ?_;rintro e N ⟨s,⟨A,o⟩,rfl,d,f⟩;obtain ⟨M,rfl⟩:=Zno s;rw[Zy] at A;replace o:(10:UInt8)∉M:=o;have a:=hK.trans f;have c:=List.count_eq_zero.2 o;have B:=hid (show Za L++Za M=Za (L++M) from Zo L M);have C:=hid (show Za L++Za M++(⟨#[10]⟩:ByteArray)=Za (L++M++[10]) by rw[B.out];exact Zo (L++M) [10]);have y:(L++M).length+402*(k-1)<=3000:=(by rw[JY];omega);have j:(L++M++[10]).length+402*(k-1)<=3000:=(by rw[JY,JY];simp;omega);have z:(L++M).count 10+(k-1)<=7:=(by rw[Ms,c];omega);have l:(L++M++[10]).count 10+(k-1)<=7:=(by rw[Ms,Ms,c];simp;omega);have O:L.length+M.length<=3400:=I;have P:(Za L).size<=3000:=AY;have R:(Za M).size<=400:=AY;have S:(Za L++Za M).size<=3400:=(by rw[MP];omega);clear o v hK f c A;by_cases T:1<k
   ·go_wp2;go_roundw;case rel=>exact ⟨k-1,L++M++[10],Δ,by rw[C.out],I,j,l,d,a⟩
    case measure=>exact FN
   ·go_wp2_with fail;refine (Ze0 g 2 _ d I).mono ?_;rintro e V ⟨b,rfl,m,n⟩;cases b with
    |true=>
     go_wp2;go_roundw;case rel=>exact ⟨k-1,L++M++[10],Δ,by rw[C.out],I,j,l,m,a.trans n⟩
     case measure=>exact FN
    |false=>
     go_wp2;go_roundw;case rel=>exact ⟨k-1,L++M,Δ,by rw[B.out],I,y,z,m,a.trans n⟩
     case measure=>exact FN
  ·go_wp2;go_ret;exact ⟨L,rfl,I,I,v,hK⟩
theorem ZkN (a:Option Addr) (n cap:Nat) (bs:List Int) (w:World) (h:RdB w S a n cap bs) (hn:n<=1048576):
  Calls JG 6 #[.slice a n cap] w fun e w'=> ∃ L:List UInt8,e= .returned (.string (Za L))/\L.length<=4000/\L.count 10<=7/\Grow w w':=by
 go_enter func6,ntmps6;go_wp2_with fail;refine (Zu8 _ _ _ bs _ h I).mono ?_;rintro e l ⟨g,m,rfl,b,c⟩;go_wp2_with fail;refine (Zo9 g _ b).mono ?_;rintro e o ⟨L,rfl,i,j,k,d⟩;have f:=c.keep d (fun q p e=>I);go_wp2;go_ret;exact ⟨L,rfl,i,j,f⟩

end Go.Proofs.YtgjefeiddfjjnaaGreatDoor
