/- The closing of a law whose row lists package-level variables: from the walk to the contract. -/
import Derived.Test.YtjpcgofidijigaaGreatDoorZBase
import Derived.Deep.DeepHandedRow
import Derived.Deep.DeepWitnessRowRef
import Derived.Lib.LaidTab
import Derived.LaidMore
namespace Go.Proofs.YtjpcgofidijigaaGreatDoor
open Go.RowKit Go.ChangeShapes Go.WideShapes Go.ChangeAt
theorem Zon {P:Program} {f:FuncId} {fn:Func} {s:ChangeSpec} {H:Type} {enc:TypeId×Value->H} {tb:TypeId}
  (hl:laidOutB P=true) (hpar: ∀ t∈fn.params.toList,P.readableRec t=true/\t<P.types.size) (hres:fn.resultTypes= #[tb]) (hb:P.underlying tb=some .bool)
  (hvars:s.vars=[]) (hspec: ∀ ds:List (DataW H),ds.length=fn.params.toList.length->s.fn H ds={results:=[.lit (.bool true)],args:=ds})
  {W:World} {base:Nat} {args:Array Value} {ds gs:List (DataW H)} {before:List MemPlace}
  (hval: ∀ (j:Nat) t v,fn.params[j]? =some t->args[j]? =some v->Value.okWide P W .any base t v) (hW:DataW.Whole enc P fn.params.toList s.vars false W args.toList ds gs before)
  (walk : ∀ (ps : List MemPlace), (∀ (j : Nat) t v, fn.params[j]? = some t → args[j]? = some v → Value.okWide P W .any 0 t v) →
   DataW.TrodAll enc P W 0 (fun _=>true) true fn.params.toList args.toList ds ps->Calls P f args W fun e W'=>e= .returned (.bool true)/\Grow W W'):
  Calls P f args W fun e W'=> ∃ v,e= .returned v/\s.post enc P fn false true false false W args v W':=by
 have hW':=hW;obtain ⟨p,q,hA,hV,rfl,hfz,hnd⟩:=hW;rw[hvars] at hV;obtain ⟨rfl,rfl⟩:=trodVars_none hV;have hlt: ∀ x∈p,x.block<W.heap.size:=fun x hx=>hW'.lt x (by simpa using hx);have hlen:ds.length=fn.params.toList.length:=by
  have: ∀ (ts:List TypeId) (vs:List Value) (ds:List (DataW H)) (ps:List MemPlace),DataW.TrodAll enc P W 0 (fun _=>true) true ts vs ds ps->ds.length=ts.length:=by
   intro ts;induction ts with
   |nil=>intro vs ds ps h;obtain ⟨_,rfl,_⟩:=trodAll_nil h;rfl
   |cons t ts ih=>intro vs ds ps h;obtain ⟨v,vs',d,ds',p,q,_,rfl,_,_,h2⟩:=trodAll_cons h;simp[ih _ _ _ h2]
  exact this _ _ _ _ hA
 refine (walk p (fun j t v hj hv=>Value.okWide_any_base (hval j t v hj hv)) hA).mono fun e W' ⟨he,hg⟩=> ?_;subst he;have hs:=hspec ds hlen;have hs':s.fn H (ds++[])={results:=[.lit (.bool true)],args:=ds}:=by rw[List.append_nil];exact hs
 refine ⟨_,rfl,Zoc (pa:=p) (pv:=[]) hW' (fun _ _ _=> ?_) (fun sp hsp=> ?_) (fun _ _=> ?_) rfl (hg.below.frame _) hg.frozen (ok_one hres rfl (okWide_bool_mk hb _))⟩
 ·rw[hs',hres];exact trodAll_mk1 (shut_bool hb _)
 ·rw[hs'];exact Zg3 hl hg sp _ _ _ _ hpar hA fun x hx=>⟨hlt x hx,hsp x (by simpa using hx)⟩
 ·rw[hs',hvars];rfl
end Go.Proofs.YtjpcgofidijigaaGreatDoor
