/-
  vary.Merge's law: contracts over data,with results that are a text and a number.
-/
import Derived.Test.YtfiggijjdmbafaaDoorVmD
namespace Go.Vm
/-- A function that is true of data and of a package's variables: what it returns,and all that was is kept. -/
theorem ACall.lawGsR {P:Program} {k:Nat} {gs:Glos} {args:List AV} {us:List Value} {W:World} {s:List UInt8} {n:Int} (h:ACall P k args (gvs gs) (.tup [.d (.str s),.d (.v (.int .i64 n))]) (gvs gs)) (hlen:us.length=args.length) (hn:args.length < resSlot) (hd:args.all AV.isData=true)
    (hr:All2 (fun _ a u=>RFlat (allS W) W (fun _=>.bool false) (0,0) a u) 0 args us) (hg:∀ g∈gs,GloAt (allS W) W g.1 g.2) :
    Calls P k us.toArray W fun e W'=>e=.returned (.tuple ⟨[strOf s,.int .i64 n]⟩)∧KeptAll W W':=by
  obtain ⟨hown,hm0⟩:=start_memGs hlen hn hd hr hg
  refine (h.2 W (allS W) (gbs gs) us hlen hm0).mono fun e W' ⟨u,S',β',he,hm⟩=>?_
  obtain ⟨v,hv1,hv2⟩:=hm.rel resSlot
  have hu:=hv2 u (by simp)
  subst hu
  rw [show fget ((resSlot,AV.tup [.d (.str s),.d (.v (.int .i64 n))]) :: boxFr virtBase (gvs gs)) resSlot=.tup [.d (.str s),.d (.v (.int .i64 n))] from fget_cons_self _ _ _] at hv1
  obtain ⟨l,rfl,_,hp⟩:=hv1
  have hl:l=[strOf s,.int .i64 n]:=by
    match l,hp with
    | [a,b],hp =>
      obtain ⟨h1,h2,_⟩:=hp
      have e1:a=strOf s:=by simpa only [RFlat,RD] using h1
      have e2:b=.int .i64 n:=by
        have:=h2
        simp only [RFlat,RD] at this
        exact this.1
      rw [e1,e2]
    | [],hp=>exact hp.elim
    | [_],hp=>exact hp.2.elim
    | _ :: _ :: _ :: _,hp=>exact hp.2.2.elim
  subst hl
  refine ⟨he,hm.os,hm.output,hm.size,fun i hi=>hm.old i hi ?_⟩
  rintro ⟨x,j,hx,_⟩
  rw [hown] at hx
  cases hx
end Go.Vm
