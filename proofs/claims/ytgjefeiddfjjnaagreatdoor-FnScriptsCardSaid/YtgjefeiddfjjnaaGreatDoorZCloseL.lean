/- The closing of a law whose row lists package-level variables: from the walk to the contract. -/
import Derived.Test.YtgjefeiddfjjnaaGreatDoorZBase
import Derived.Deep.DeepHandedRow
import Derived.Deep.DeepWitnessRowRef
import Derived.Lib.LaidTab
import Derived.LaidMore
namespace Go.Proofs.YtgjefeiddfjjnaaGreatDoor
open Go.RowKit Go.ChangeShapes Go.WideShapes Go.ChangeAt
theorem Zr1 {P:Program} {f:FuncId} {fn:Func} {s:ChangeSpec} {H:Type} {enc:TypeId×Value->H} {tb:TypeId}
  (hl:laidOutB P=true) (hpar: ∀ t∈fn.params.toList,P.readableRec t=true/\t<P.types.size) (hres:fn.resultTypes= #[tb]) (hb:P.underlying tb=some .bool)
  (hvars:s.vars=[]) (hspec: ∀ ds:List (DataW H),ds.length=fn.params.toList.length->s.fn H ds={results:=[.lit (.bool true)],args:=ds})
  {W:World} {base:Nat} {args:Array Value} {ds gs:List (DataW H)} {before:List MemPlace}
  (hval: ∀ (j:Nat) t v,fn.params[j]? =some t->args[j]? =some v->Value.okWide P W .any base t v) (hW:DataW.Whole enc P fn.params.toList s.vars false W args.toList ds gs before)
  (walk : ∀ (ps : List MemPlace), (∀ (j : Nat) t v, fn.params[j]? = some t → args[j]? = some v → Value.okWide P W .any 0 t v) →
   DataW.TrodAll enc P W 0 (fun _=>true) true fn.params.toList args.toList ds ps->Calls P f args W fun e W'=>e= .returned (.bool true)/\Grow W W'):
  Calls P f args W fun e W'=> ∃ v,e= .returned v/\s.post enc P fn false true false false W args v W':=by
 have b:=hW;obtain ⟨p,q,k,r,rfl,w,y⟩:=hW;rw[hvars] at r;obtain ⟨rfl,rfl⟩:=trodVars_none r;have l: ∀ x∈p,x.block<W.heap.size:=fun x i=>b.lt x (by simpa using i);have c:ds.length=fn.params.toList.length:=by
  have: ∀ (g:List TypeId) (m:List Value) (ds:List (DataW H)) (ps:List MemPlace),DataW.TrodAll enc P W 0 (fun _=>true) true g m ds ps->ds.length=g.length:=by
   intro g;induction g with
   |nil=>intro m ds ps h;obtain ⟨_,rfl,_⟩:=trodAll_nil h;rfl
   |cons t g z=>intro m ds ps h;obtain ⟨v,A,d,B,p,q,_,rfl,_,_,C⟩:=trodAll_cons h;simp[z _ _ _ C]
  exact this _ _ _ _ k
 refine (walk p (fun j t v D E=>Value.okWide_any_base (hval j t v D E)) k).mono fun e W' ⟨F,n⟩=> ?_;subst F;have G:=hspec ds c;have a:s.fn H (ds++[])={results:=[.lit (.bool true)],args:=ds}:=by rw[List.append_nil];exact G
 refine ⟨_,rfl,ZqI (pa:=p) (pv:=[]) b (fun _ _ _=> ?_) (fun sp o=> ?_) (fun _ _=> ?_) rfl (n.below.frame _) n.frozen (ok_one hres rfl (okWide_bool_mk hb _))⟩
 ·rw[a,hres];exact trodAll_mk1 (shut_bool hb _)
 ·rw[a];exact Zi9 hl n sp _ _ _ _ hpar k fun x i=>⟨l x i,o x (by simpa using i)⟩
 ·rw[a,hvars];rfl
end Go.Proofs.YtgjefeiddfjjnaaGreatDoor
