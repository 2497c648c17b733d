/- YardSays answers true, whatever the clusters, the places and the acts, and leaves what it was given as it was. No conditions. -/
import Derived.Test.YtbpblokfiajpjabGreatDoorPk50600fed5f
import Derived.Test.YtbpblokfiajpjabGreatDoorCards
import Derived.Test.YtbpblokfiajpjabGreatDoorTie
import Derived.ShutString
import Derived.ChangeOld
import Derived.Below
import Derived.LaidOnce
import Derived.SevenTiedAt
set_option linter.all false
set_option maxRecDepth 1000000
set_option maxHeartbeats 32000000
namespace Go.Proofs.YtbpblokfiajpjabGreatDoor.yardSaysDone
open Go.ChangeShapes Go.WideShapes Go.ChangeAt Go.RowKit
open Go.ChangeMaps (open_string shut_string)
set_option linter.unusedVariables false
theorem own : ownKnob Tryz.prog.godebug = none:=by kernel_rfl
theorem VE : laidOutB Tryz.prog = true:=by kernel_rfl
theorem Wp (os : Os) (started : os.Started) (H : Type) (enc : TypeId×Value -> H) :
  ReturnsInHanded {} Tryz.checked os 5 .any (fun w args=>(Rows.yardSaysSpec.pre enc Tryz.prog Tryz.f5 Rows.yardSaysRow.domain false w args /\ laidMetH Tryz.prog Rows.yardSaysRow.laid w) /\ sizedMet enc Tryz.prog Tryz.f5 (OpenSpec.ofChange Rows.yardSaysSpec) false w args)
   (Rows.yardSaysSpec.post enc Tryz.prog Tryz.f5 false true false false):=by
 refine returnsInHanded_of_change_and (C:=Tryz.checked) (X:=fun w _=>laidMetH Tryz.prog Rows.yardSaysRow.laid w) (fun _ _ _ hh h=>h.of_heap hh) own started (by kernel_rfl) Tryz.func5
  (ChangeSpec.witness_shaped (enc:=enc) (C:=Tryz.checked) (os:=os) (X:=fun w _=>laidMetH Tryz.prog Rows.yardSaysRow.laid w) false (World.laidAll Tryz.prog os Rows.yardSaysRow.laid) #[.int .i64 0,.int .i64 0,.slice none 0 0] 8 (World.laidAll_os _ _ _)
   (World.shaped_of_ZipB (by kernel_rfl) (by kernel_rfl)) (by kernel_rfl) (by kernel_rfl) (by kernel_rfl)
   (by rw [MakeChecks.laidMetH_plain _ _ _ (by kernel_rfl)]; exact laidMet_laidAll _ (by kernel_rfl) (by kernel_rfl))) ?_
 intro W base args ds gs before hval0 hW hcnd _ hL _
 have hval : ∀(j : Nat) t v,Tryz.f5.params[j]? = some t -> args[j]? = some v -> Value.okWide Tryz.prog W .any base t v:=hval0
 have hW':=hW
 obtain ⟨p,q,hA0,hV,rfl,hfz,hnd⟩:=hW
 have hA : DataW.TrodAll enc Tryz.prog W 0 (fun _=>true) true Tryz.f5.params.toList args.toList ds p:=hA0
 rw [Tryz.params5] at hA hval
 obtain ⟨v0,vs0,d0,ds0,p0,q0,hargs,rfl,rfl,h0,r0⟩:=trodAll_cons hA
 obtain ⟨v1,vs1,d1,ds1,p1,q1,rfl,rfl,rfl,h1,r1⟩:=trodAll_cons r0
 obtain ⟨v2,vs2,d2,ds2,p2,q2,rfl,rfl,rfl,h2,r2⟩:=trodAll_cons r1
 obtain ⟨rfl,rfl,rfl⟩:=trodAll_nil r2
 obtain rfl : args = #[v0,v1,v2]:=by cases args; simp_all
 obtain ⟨rfl,rfl⟩:=trodVars_none hV
 obtain ⟨a0,rfl,rfl,rfl,k0⟩:=open_int Tryz.underlying3 (hval 0 3 v0 rfl rfl) h0
 obtain ⟨a1,rfl,rfl,rfl,k1⟩:=open_int Tryz.underlying3 (hval 1 3 v1 rfl rfl) h1
 obtain ⟨ao2,len2,cap2,rfl⟩:=okWide_slice Tryz.underlying25 (hval 2 25 v2 rfl rfl)
 have t2:=h2
 have lt2 : ∀x∈p2,x.block < W.heap.size:=by obtain ⟨m,hm⟩:=t2; exact DataW.trod_lt m _ _ _ hm
 obtain ⟨a2,k2⟩ : ∃l,De W (.slice ao2 len2 cap2) l:=by
  obtain ⟨fuel,hf⟩:=h2
  exact Tg hf
 clear hA0 hval0
 refine (Mw a0 a1 _ a2 W k2 (Uw hL)).mono fun e W' ⟨he,bel⟩=>?_
 subst he
 exact ⟨_,rfl,_,_,_,[],_,[],hW',trodAll_mk1 (shut_bool Tryz.underlying4 _),(trodAll_cons_mk (shut_int Tryz.underlying3 k0) (trodAll_cons_mk (shut_int Tryz.underlying3 k1) (trodAll_cons_mk (Below.trod VE (by kernel_rfl) (of_decide_eq_true (by kernel_rfl)) t2 bel lt2) trodAll_mk0))),rfl,bel.frame _,fun h=>by cases h⟩
theorem andB {a b : Bool} (ha : a = true) (hb : b = true) : (a && b) = true:=by rw [ha,hb]; rfl
theorem W1 : Rows.yardSaysRow.wf (OpenSpec.ofChange Rows.yardSaysSpec) = true:=by kernel_rfl
theorem W0 : laidOutB Tryz.prog = true:=by kernel_rfl
theorem Xq : mapsRowed Tryz.prog = true:=by kernel_rfl
theorem Xf : Tryz.f5.params.all (Tryz.prog.readableRec ·) = true:=by kernel_rfl
theorem Xr : namedTie Tryz.prog Rows.yardSaysRow.named Rows.yardSaysSpec.vars = true:=by kernel_rfl
theorem Xe : (Rows.yardSaysRow.stops == []) = true:=by kernel_rfl
theorem W9 : (Tryz.prog.stops == []) = true:=by kernel_rfl
theorem W2 : (Rows.yardSaysRow.knobs == []) = true:=by kernel_rfl
theorem Xg : (Tryz.prog.stopKnobs == []) = true:=by kernel_rfl
theorem Xl : (Rows.yardSaysRow.inPlace == Tryz.prog.inPlace 5) = true:=by kernel_rfl
theorem WJ : (Rows.yardSaysRow.unfollowed == Tryz.prog.unfollowed 5) = true:=by kernel_rfl
theorem Wt : (Rows.yardSaysRow.recurses == Tryz.prog.recurses 5) = true:=by kernel_rfl
theorem Wo : (Rows.yardSaysRow.named == Tryz.prog.varsNamed 5) = true:=by kernel_rfl
theorem Wd : (Rows.yardSaysRow.maps == (Tryz.f5.params.toList++Rows.yardSaysSpec.plain.varTypes Tryz.prog).any (Tryz.prog.mapsRec ·)) = true:=by kernel_rfl
theorem WX : (Rows.yardSaysRow.ifaces == (Tryz.f5.params.toList++Rows.yardSaysSpec.plain.varTypes Tryz.prog).any (Tryz.prog.ifacesRec ·)) = true:=by kernel_rfl
theorem Wl : (Rows.yardSaysRow.mapsOut == Tryz.prog.mapsAmong Tryz.f5.resultTypes.toList) = true:=by kernel_rfl
theorem Wb : (Rows.yardSaysRow.loops == (Tryz.f5.params.toList++Rows.yardSaysSpec.plain.varTypes Tryz.prog).any (Tryz.prog.loopsFrom ·)) = true:=by kernel_rfl
theorem WQ : (Rows.yardSaysRow.wideKeys == (Tryz.f5.params.toList++Rows.yardSaysSpec.plain.varTypes Tryz.prog++Tryz.f5.resultTypes.toList).any (Tryz.prog.wideKeysFrom ·)) = true:=by kernel_rfl
theorem WN : Rows.yardSaysSpec.vars.all (Tryz.prog.varReadable ·) = true:=by kernel_rfl
theorem Wx : Tryz.f5.resultTypes.all (fun t=>Tryz.prog.readableRec t && decide (t < Tryz.prog.types.size)) = true:=by kernel_rfl
theorem WZ : (Rows.yardSaysRow.ifacesOut == Tryz.f5.resultTypes.toList.any (Tryz.prog.ifacesRec ·)) = true:=by kernel_rfl
theorem WP : (Rows.yardSaysRow.loopsOut == Tryz.f5.resultTypes.toList.any (Tryz.prog.loopsFrom ·)) = true:=by kernel_rfl
theorem Wn : (Rows.yardSaysRow.plainKeys == Tryz.prog.plainKeys) = true:=by kernel_rfl
theorem Wm : Rows.yardSaysRow.shortTexts.isNone = true:=by kernel_rfl
theorem WB : Tryz.prog.stopsHeard = true:=by kernel_rfl
theorem Wq : Tryz.prog.mayEnter = true:=by kernel_rfl
theorem WL : (Rows.yardSaysRow.lifted == Tryz.prog.liftsFinal) = true:=by kernel_rfl
theorem WD : (Tryz.prog.make == some Rows.yardSaysRow.make) = true:=by kernel_rfl
theorem Wj : (Rows.yardSaysRow.kinds == (if Rows.yardSaysRow.domain.isEmpty then [] else Tryz.f5.params.toList.map fun t=>match Tryz.prog.underlying t with | some (.int k)=>some k | _=>none)) = true:=by kernel_rfl
theorem Wr : (Rows.yardSaysRow.pinned == Rows.yardSaysRow.pinnedBy) = true:=by kernel_rfl
theorem WO : (Rows.yardSaysRow.veiled == (Tryz.f5.params.toList++Rows.yardSaysSpec.plain.varTypes Tryz.prog++Tryz.f5.resultTypes.toList).any (Tryz.prog.veiledRec ·)) = true:=by kernel_rfl
theorem WG : Rows.yardSaysRow.veiledFits Tryz.prog Tryz.f5.params.toList (Tryz.f5.params.toList++Rows.yardSaysSpec.plain.varTypes Tryz.prog++Tryz.f5.resultTypes.toList) = true:=by kernel_rfl
theorem WE : joinedFacts Tryz.prog 5 Tryz.f5 Rows.yardSaysSpec Rows.yardSaysRow = true:=by
 unfold joinedFacts
 exact (andB (andB (andB (andB (andB (andB (andB (andB (andB (andB (andB (andB (andB (andB (andB (andB (andB (andB (andB (andB (andB (andB (andB (andB (andB (andB (andB (andB (andB (andB (andB W1 W0) Xq) Xf) Xr) Xe) W9) W2) Xg) Xl) WJ) Wt) Wo) Wd) WX) Wl) Wb) WQ) WN) Wx) WZ) WP) Wn) Wm) WB) Wq) WL) WD) Wj) Wr) WO) WG)
theorem VL : Tryz.prog.funcNamed Rows.yardSaysRow.func = some 5:=by kernel_rfl
theorem over : Rows.yardSaysRow.holds Tryz.pinned (OpenSpec.ofChange Rows.yardSaysSpec):=
 OpenClaim.holds_of_wide 5 Tryz.f5 rfl rfl rfl rfl rfl rfl rfl ⟨rfl,rfl,rfl,rfl,rfl⟩ rfl rfl rfl rfl rfl VL Tryz.func5 WE
  (of_decide_eq_true (by kernel_rfl)) (by unfold Func.isWrapper; first | (rw [zt (by decide +kernel)]; kernel_rfl) | (rw [zq (by decide +kernel)]; exact ⟨rfl,rfl⟩))
  (fun os started H enc _=>Wp os started H enc)
theorem proved : Rows.YardSaysCardSaid:=
 Claim7.holds_tied_plain_at .later [] _ _ _ _ over (fun _ h=>by cases h) (by kernel_rfl) (fun _ h=>by cases h) yardSays_row_tie rfl ⟨rfl,rfl⟩ (by kernel_rfl) rfl
  (fun f fn hf hfn=>by
   obtain rfl : f = 5 := Option.some.inj ((show Tryz.prog.funcNamed "stackyard/stackyardlaw.YardSays" = some 5 by kernel_rfl).symm.trans hf) |>.symm
   obtain rfl : fn = Tryz.f5:=(Option.some.inj (Tryz.func5.symm.trans hfn)).symm
   exact ⟨by kernel_rfl,fun j t ht=>by
    rw [Tryz.params5] at ht
    have hm : t∈[3,25]:=by
     have:=Array.mem_of_getElem? ht
     simp only [List.mem_toArray,List.mem_cons,List.mem_nil_iff,or_false] at this ⊢
     rcases this with h|h|h <;> simp [h]
    have hall : ([3,25].all fun u=>!Tryz.prog.wantsStandIn u) = true:=by kernel_rfl
    exact (show Tryz.prog.wantsStandIn t = false by simpa using List.all_eq_true.1 hall t hm)⟩)
  (by kernel_rfl)
#print axioms proved
end Go.Proofs.YtbpblokfiajpjabGreatDoor.yardSaysDone
