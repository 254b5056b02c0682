/- UpdateSheet: what is found anew is what the whole sheet gives, and it is no more than depends on the name: plain. -/
import Derived.Test.YtgeoehnbpkediaaGreatZUpd
namespace Go.Proofs.YtgeoehnbpkediaaGreat
open Go.RowKit
variable {L:List Dfn} {d:Dfn} {i k:Nat} {s t:ByteArray}
theorem Zf4 (L:List Dfn) (s:ByteArray) (i:Nat): ∀ j, ∃ q,Z4 L s (i+j)=Z4 L s i++q
 |0=>⟨[],by simp⟩
 |j+1=>by
  obtain ⟨q,hq⟩:=Zf4 L s i j;show ∃ q,ZbR L (Z4 L s (i+j)) (i+j)=_;unfold ZbR;split
  ·rename_i x _;obtain ⟨r,hr⟩:=Zez (x:=x) L (Z4 L s (i+j));exact ⟨q++r,by rw[hr,hq,List.append_assoc]⟩
  ·exact ⟨q,hq⟩
theorem Zje {x:ByteArray}: ∀ {r:List Dfn} {out:List ByteArray} {e:Dfn},e∈r->Zap e x=true->e.name∈r.foldl (Za2 x) out
 |y::r,out,e,h,hn=>by
  rw[List.foldl_cons];rcases List.mem_cons.1 h with rfl|h
  ·obtain ⟨q,hq⟩:=Zez (x:=x) r (Za2 x out e);rw[hq];refine List.mem_append_left _ ?_;unfold Za2;cases hi:Za7 out e.name with
   |true=>rw[hn];simpa using Zdt.1 hi
   |false=>rw[hn];simp
  ·exact Zje h hn
theorem ZjA {e:Dfn} (ht:t∈ZW L s) (he:e∈L) (hn:Zap e t=true):e.name∈ZW L s:=by
 unfold ZW at ht ⊢;split at ht
 ·rename_i hc;rw[if_pos hc];simp only[Bool.and_eq_true,decide_eq_true_eq] at hc;obtain ⟨i,hi,hit⟩:=List.getElem_of_mem ht;have hlen:=(Zed hc.2 L.length).len;have hlt:i<(Z4 L s i).length:=by refine Nat.lt_of_not_le fun hle=> ?_;have:=ZgH hle (L.length-i);rw[show i+(L.length-i)=L.length by omega] at this;rw[this] at hi;omega
  obtain ⟨q,hq⟩:=Zf4 L s i (L.length-i);rw[show i+(L.length-i)=L.length by omega] at hq;have hx:(Z4 L s i)[i]? =some t:=by have h1:(Z4 L s L.length)[i]? =some t:=(by rw[List.getElem?_eq_getElem hi,hit]);rw[hq,List.getElem?_append_left hlt] at h1;exact h1
  obtain ⟨q',hq'⟩:=Zf4 L s (i+1) (L.length-(i+1));rw[show i+1+(L.length-(i+1))=L.length by omega] at hq';rw[hq'];refine List.mem_append_left _ ?_;show e.name∈ZbR L (Z4 L s i) i;unfold ZbR;rw[hx];exact Zje he hn
 ·cases ht
theorem Zk1 (h:t∈ZaF d):Zap d t=true:=by
 unfold ZaF at h;unfold Zap;split at h
 ·cases h
 ·split at h
  ·simp at h;rcases h with rfl|rfl<;>simp
  ·simp at h;subst h;simp
theorem Zqf (hs:Zp L=true) (hk:some k∈ndL L i): ∃ d e,L[i]? =some d/\L[k]? =some e/\e.name∈ZaF d:=by
 unfold ndL at hk;split at hk
 ·rename_i d hd;obtain ⟨t,ht,hf⟩:=List.mem_map.1 hk;obtain ⟨e,he,hn⟩:=(Ze6 (Zcx hs)).1 hf;obtain rfl:e.name=t:=of_decide_eq_true (by rw[←Zev,hn];simp);exact ⟨d,e,hd,he,ht⟩
 ·cases hk
theorem Zqh (hs:Zp L=true) (hk:some k∈ndL L i) (hd:ZaA L (ZW L s) k=true):ZaA L (ZW L s) i=true:=by
 obtain ⟨d,e,h1,h2,h3⟩:=Zqf hs hk;unfold ZaA at hd ⊢;rw[h2] at hd;rw[h1];exact Zdt.2 (ZjA (Zdt.1 hd) (List.mem_of_getElem? h1) (Zk1 h3))
section
variable {l:List Dfn} {d:Dfn}
theorem ZnH {j:Nat} {x:Dfn} (hj:(Zn l d)[j]? =some x) (hx:x.name≠d.name):l[j]? =some x:=by
 unfold Zn at hj;split at hj
 ·rw[List.getElem?_set] at hj;split at hj
  ·split at hj
   ·exact (hx (by rw[←Option.some.inj hj])).elim
   ·cases hj
  ·exact hj
 ·by_cases h:j<l.length
  ·rw[List.getElem?_append_left h] at hj;exact hj
  ·rw[List.getElem?_append_right (by omega)] at hj;have h1:=List.mem_of_getElem? hj;rw[List.mem_singleton] at h1;exact (hx (by rw[h1])).elim
theorem ZoN (hl:Zp l=true) (hL:Zp (Zn l d)=true) {t:ByteArray} (ht:t≠d.name):Zbq (Zn l d) t=Zbq l t:=by
 have nm: ∀ {e:Dfn} {u:ByteArray},e.name.toList=u.toList->e.name=u:=fun h=>of_decide_eq_true (by rw[←Zev,h];simp);refine Option.ext fun k=> ?_;rw[Ze6 (Zcx hL),Ze6 (Zcx hl)];constructor
 ·rintro ⟨e,h1,h2⟩;exact ⟨e,ZnH h1 (by rw[nm h2];exact ht),h2⟩
 ·rintro ⟨e,h1,h2⟩;refine ⟨e, ?_,h2⟩;have hk:=(List.getElem?_eq_some_iff.1 h1).1;unfold Zn;split
  ·rename_i h0;rw[List.getElem?_set];split
   ·rename_i hp;exfalso;have hf:Zbq l d.name=some k:=(by unfold Zbq;rw[if_pos h0,hp]);obtain ⟨e',h3,h4⟩:=(Ze6 (Zcx hl)).1 hf;rw[h1] at h3;obtain rfl:=Option.some.inj h3;exact ht (by rw[←nm h2,nm h4])
   ·exact h1
  ·rw[List.getElem?_append_left hk];exact h1
theorem Zkh (hL:Zp (Zn l d)=true):d.name∈ZW (Zn l d) d.name:=by
 have hm:d∈Zn l d:=by
  unfold Zn;split
  ·rename_i h0;have h1:Zj l d.name<l.length:=Zeu;exact List.mem_set (by omega) d
  ·simp
 have h0:0<=Zj (Zn l d) d.name:=by refine (ZaT (fun x:Dfn=>x.name.toList==d.name.toList) _).2 ?_;rw[List.any_eq_true];exact ⟨d,hm,by simp⟩
 unfold ZW;rw[hL,decide_eq_true h0];exact ZeM _ _ _
theorem Znt (hl:Zp l=true) (hL:Zp (Zn l d)=true) {j:Nat} (hj:j<(Zn l d).length) (hd:ZaA (Zn l d) (ZW (Zn l d) d.name) j=false): ∃ x,(Zn l d)[j]? =some x/\l[j]? =some x/\ndL (Zn l d) j=ndL l j:=by
 obtain ⟨x,hx⟩: ∃ x,(Zn l d)[j]? =some x:=⟨_,List.getElem?_eq_getElem hj⟩;unfold ZaA at hd;rw[hx] at hd;simp only at hd;have hno:x.name∉ZW (Zn l d) d.name:=fun h=>by rw[Zdt.2 h] at hd;cases hd
 have h1:=ZnH hx fun e=>hno (by rw[e];exact Zkh hL);refine ⟨x,hx,h1, ?_⟩;unfold ndL;rw[hx,h1];refine List.map_congr_left fun t ht=>ZoN hl hL fun e=>hno ?_;subst e;exact ZjA (Zkh hL) (List.mem_of_getElem? hx) (Zk1 ht)
theorem Znx {f:Int->Mat->Mat->Option Mat} (hl:Zp l=true) (hL:Zp (Zn l d)=true): ∀ (m:Nat) {j:Nat},j<(Zn l d).length->ZaA (Zn l d) (ZW (Zn l d) d.name) j=false->ev (ndL (Zn l d)) (opL f (Zn l d)) m j=ev (ndL l) (opL f l) m j
 |0,_,_,_=>rfl
 |m+1,j,hj,hd=>by
  obtain ⟨x,h1,h2,h3⟩:=Znt hl hL hj hd;have ho:opL f (Zn l d) j=opL f l j:=by funext xs;unfold opL;rw[h1,h2]
  simp only[ev];rw[ho];congr 2;rw[←h3];refine List.map_congr_left fun o hm=> ?_;cases o with
  |none=>rfl
  |some k=>
   refine Znx hl hL m (ZeN j hj k hm) ?_;cases hk:ZaA (Zn l d) (ZW (Zn l d) d.name) k with
   |false=>rfl
   |true=>rw[Zqh hL hm hk] at hd;cases hd
theorem ZpM {f:Int->Mat->Mat->Option Mat} (hl:Zp l=true) (hL:Zp (Zn l d)=true) (hle:l.length<=(Zn l d).length) {j:Nat} (hj:j<(Zn l d).length) (hd:ZaA (Zn l d) (ZW (Zn l d) d.name) j=false):j<l.length/\evL f (Zn l d) j=evL f l j:=by
 obtain ⟨x,h1,h2,h3⟩:=Znt hl hL hj hd;have hjl:=(List.getElem?_eq_some_iff.1 h2).1;refine ⟨hjl, ?_⟩;unfold evL;rw[Znx hl hL _ hj hd];cases h:ev (ndL l) (opL f l) l.length j with
 |some v=>exact Zhl h hle
 |none=>
  cases h':ev (ndL l) (opL f l) (Zn l d).length j with
  |none=>rfl
  |some v=>rw[ZhQ ZeN hjl h'] at h;cases h
end
section
variable {L:List Dfn} {N:List ByteArray} {rs:List Rs}
theorem ZjZ (hr: ∀ j,j<L.length->ZaA L N j=false->rs.getD j rs0=Zdu opF L j): ∀ (m:Nat) {j:Nat} {v:Rs},j<L.length->ev (ndL L) (opL opF L) m j=some v->ev (ndU L N) (opU L N rs) m j=some v
 |0,_,_,_,h=>by cases h
 |m+1,j,v,hj,h=>by
  cases hd:ZaA L N j with
  |false=>refine Zco.2 ⟨[],by unfold ndU;rw[if_neg (by rw[hd];simp)];rfl, ?_⟩;unfold opU;rw[if_neg (by rw[hd];simp),hr j hj hd];unfold Zdu evL;rw[ZhQ ZeN hj h];rfl
  |true=>obtain ⟨xs,h1,rfl⟩:=Zco.1 h;refine Zco.2 ⟨xs, ?_,((ZiH (rs:=rs) hd).2 xs).symm⟩;rw[(ZiH (rs:=rs) hd).1, ←h1];refine List.map_congr_left fun o ho=> ?_;obtain ⟨k,y,rfl,hy⟩:=ZdJ h ho;show ev (ndU L N) (opU L N rs) m k=ev (ndL L) (opL opF L) m k;rw[hy,ZjZ hr m (ZeN j hj k ho) hy]
theorem Zkf (hr: ∀ j,j<L.length->ZaA L N j=false->rs.getD j rs0=Zdu opF L j): ∀ (m:Nat) {j:Nat} {v:Rs},j<L.length->evL opF L j=none->ev (ndU L N) (opU L N rs) m j=some v->v=rs0
 |0,_,_,_,_,h=>by cases h
 |m+1,j,v,hj,he,h=>by
  cases hd:ZaA L N j with
  |false=>obtain ⟨xs, -,rfl⟩:=Zco.1 h;unfold opU;rw[if_neg (by rw[hd];simp),hr j hj hd];unfold Zdu;rw[he];rfl
  |true=>
   obtain ⟨xs,h1,rfl⟩:=Zco.1 h;rw[(ZiH hd).2];rw[(ZiH (rs:=rs) hd).1] at h1;have hex: ∃ k,some k∈ndL L j/\evL opF L k=none:=by
    refine Classical.byContradiction fun hn=> ?_;have hall: ∀ o∈ndL L j, ∃ y,o.bind (ev (ndL L) (opL opF L) L.length)=some y:=fun o ho=>by
     have h2:o.bind (ev (ndU L N) (opU L N rs) m)∈xs.map some:=(by rw[←h1];exact List.mem_map.2 ⟨o,ho,rfl⟩);cases o with
     |none=>simp at h2
     |some k=>
      cases hk:evL opF L k with
      |none=>exact (hn ⟨k,ho,hk⟩).elim
      |some y=>exact ⟨y,hk⟩
    have hys: ∀ (r:List (Option Nat)),(∀ o∈r, ∃ y,o.bind (ev (ndL L) (opL opF L) L.length)=some y)-> ∃ ys:List Rs,r.map (fun o=>o.bind (ev (ndL L) (opL opF L) L.length))=ys.map some:=by
     intro r;induction r with
     |nil=>intro _;exact ⟨[],rfl⟩
     |cons o r ih=>intro hr';obtain ⟨y,hy⟩:=hr' o (List.mem_cons_self ..);obtain ⟨ys,hys⟩:=ih fun o' ho'=>hr' o' (List.mem_cons_of_mem _ ho');exact ⟨y::ys,by rw[List.map_cons,hy,hys];rfl⟩
    obtain ⟨ys,hys⟩:=hys _ hall;have:=Zih (op:=opL opF L) ZeN hj hys;unfold evL at he;rw[this] at he;cases he
   obtain ⟨k,hk,hek⟩:=hex;have h2:(some k).bind (ev (ndU L N) (opU L N rs) m)∈xs.map some:=(by rw[←h1];exact List.mem_map.2 ⟨some k,hk,rfl⟩);obtain ⟨y,hy,hye⟩:=List.mem_map.1 h2;have hy0:=Zkf hr m (ZeN j hj k hk) hek hye.symm;subst hy0;unfold opL;split
   ·rename_i dj hdj;unfold opD;split
    ·rename_i h0;exfalso;unfold ndL at hk;rw[hdj] at hk;simp only at hk;unfold ZaF at hk;rw[if_pos h0] at hk;cases hk
    ·rw[if_neg];intro hall;have:=List.all_eq_true.1 hall _ hy;cases this
   ·rfl
theorem Zp6 (hr: ∀ j,j<L.length->ZaA L N j=false->rs.getD j rs0=Zdu opF L j) {j:Nat} (hj:j<L.length):Zf7 L N rs j=Zdu opF L j:=by
 unfold Zf7 evU Zdu;cases h:evL opF L j with
 |some v=>have h':ev (ndL L) (opL opF L) L.length j=some v:=h;rw[ZjZ hr _ hj h']
 |none=>
  cases h2:ev (ndU L N) (opU L N rs) L.length j with
  |none=>rfl
  |some v=>rw[Zkf hr _ hj h h2];rfl
def ZkL (L:List Dfn) (N:List ByteArray):Nat->Nat
 |0=>0
 |n+1=>ZkL L N n+if ZaA L N n=true then 1 else 0
theorem ZlF (rs:List Rs): ∀ n,n<=L.length->two (fdU L N rs) n<=two (stU L N) n+ZkL L N n
 |0,_=>Nat.le_refl _
 |n+1,hn=>by
  have ih:=ZlF rs n (by omega);simp only[two,ZkL];by_cases hd:ZaA L N n=true
  ·rw[if_pos hd];have:(if fdU L N rs n=2 then 1 else 0)<=1:=(by split<;>omega);omega
  ·have e:stU L N n=2:=(by unfold stU;rw[if_pos ⟨by omega,by simpa using hd⟩]);rw[if_neg hd,if_pos e];have:(if fdU L N rs n=2 then 1 else 0)<=1:=(by split<;>omega);omega
theorem ZlP (hs:Zp L=true): ∀ n,n<=L.length-> ∃ q:List ByteArray,q.length=ZkL L N n/\q.Nodup/\ ∀ s∈q,s∈N/\ ∃ (j:Nat) (x:Dfn),j<n/\L[j]? =some x/\x.name=s
 |0,_=>⟨[],rfl,List.nodup_nil,fun _ h=>by cases h⟩
 |n+1,hn=>by
  obtain ⟨q,h1,h2,h3⟩:=ZlP hs n (by omega);obtain ⟨x,hx⟩: ∃ x,L[n]? =some x:=⟨_,List.getElem?_eq_getElem (by omega)⟩;simp only[ZkL];by_cases hd:ZaA L N n=true
  ·rw[if_pos hd];unfold ZaA at hd;rw[hx] at hd;refine ⟨x.name::q,by simp[h1],List.nodup_cons.2 ⟨fun hm=> ?_,h2⟩,fun s hs'=> ?_⟩
   ·obtain ⟨-,j,y,hj,hy,hn'⟩:=h3 _ hm;have:=Zcx hs j n y x hy hx (by rw[hn']);omega
   ·rcases List.mem_cons.1 hs' with rfl|hs'
    ·exact ⟨Zdt.1 hd,n,x,by omega,hx,rfl⟩
    ·obtain ⟨a,j,y,hj,hy⟩:=h3 s hs';exact ⟨a,j,y,by omega,hy⟩
  ·rw[if_neg hd];refine ⟨q,h1,h2,fun s hs'=> ?_⟩;obtain ⟨a,j,y,hj,hy⟩:=h3 s hs';exact ⟨a,j,y,by omega,hy⟩
theorem Zqa (hs:Zp L=true) (rs:List Rs):Zgo L N rs<=N.length:=by
 obtain ⟨q,h1,h2,h3⟩:=ZlP (N:=N) hs L.length (Nat.le_refl _);have h4:=ZlF (L:=L) (N:=N) rs L.length (Nat.le_refl _);have h5:=ZhR h2 fun s hs'=>(h3 s hs').1;unfold Zgo;omega
end
theorem Zp2 {l:List Dfn} (h:(Zy l d).2=true):(Zcg l (ZX l) d).1=(Zy l d).1/\(Zcg l (ZX l) d).2.1=ZX (Zy l d).1/\(Zcg l (ZX l) d).2.2.1<=(ZW (Zy l d).1 d.name).length/\(Zcg l (ZX l) d).2.2.2=true:=by
 obtain ⟨h1,h2,h3⟩:=Zc2 h;have hs:Zp l=true/\Zp (Zn l d)=true/\(Zy l d).1=Zn l d:=by
  cases hc:Zp l&&Zp (Zn l d) with
  |false=>rw[Zba hc] at h;cases h
  |true=>rw[Bool.and_eq_true] at hc;exact ⟨hc.1,hc.2,by rw[ZbI hc.1 hc.2]⟩
 obtain ⟨hl,hL,he⟩:=hs;have e1:ZX l=rsL (Zdu opF l) l.length:=by unfold ZX;rw[if_pos hl]
 have hlen:(ZX l).length=l.length:=by rw[e1];simp[rsL]
 unfold Zcg;rw[if_pos ⟨h,hlen⟩];refine ⟨rfl, ?_,Zqa h1 _,rfl⟩;show rsL _ _=_;unfold ZX;rw[if_pos h1];refine List.map_congr_left fun j hj=> ?_;have hj':=List.mem_range.1 hj;refine Zp6 (fun k hk hd=> ?_) hj';rw[he] at hk hd h2 ⊢;obtain ⟨hkl,hev⟩:=ZpM (f:=opF) hl hL h2 hk hd;have:(if Zp l=true then rsL (Zdu opF l) l.length else [])[k]? =some (Zdu opF l k):=by rw[if_pos hl];exact Z9 _ hkl
 rw[List.getD_eq_getElem?_getD,this];show Zdu opF l k=_;unfold Zdu;rw[hev]

end Go.Proofs.YtgeoehnbpkediaaGreat
