/- Facts of the whole program that every row asks. -/
import Derived.Test.YtaadhehcoegmhaaGreatDoorO10
namespace Go.Proofs.YtaadhehcoegmhaaGreatDoor
open Go
theorem p_laidOut : laidOutB Tryz.prog = true := by kernel_rfl
theorem p_mapsRowed : mapsRowed Tryz.prog = true := by kernel_rfl
theorem p_plainKeys : Tryz.prog.plainKeys = Rows.xvaluePartsRow.plainKeys := by kernel_rfl
theorem p_lifts : Tryz.prog.liftsFinal = Rows.xvaluePartsRow.lifted := by kernel_rfl
theorem p_make : Tryz.prog.make = some Rows.xvaluePartsRow.make := by kernel_rfl
theorem p_heard : Tryz.prog.stopsHeard = true := by kernel_rfl
theorem p_mayEnter : Tryz.prog.mayEnter = true := by kernel_rfl

theorem bools (wf lo mr pr nt st ps kn sk ip un re na ma fa mo lp wk sv rt io ll pk sh he me li mk ki pi ve vf : Bool) (h_lo : lo = true) (h_mr : mr = true) (h_ip : ip = true) (h_un : un = true) (h_re : re = true) (h_na : na = true) (h_pk : pk = true) (h_he : he = true) (h_me : me = true) (h_li : li = true) (h_mk : mk = true) (h : (wf && pr && nt && st && ps && kn && sk && ma && fa && mo && lp && wk && sv && rt && io && ll && sh && ki && pi && ve && vf) = true) : (wf && lo && mr && pr && nt && st && ps && kn && sk && ip && un && re && na && ma && fa && mo && lp && wk && sv && rt && io && ll && pk && sh && he && me && li && mk && ki && pi && ve && vf) = true := by
  subst h_lo h_mr h_ip h_un h_re h_na h_pk h_he h_me h_li h_mk
  simpa only [Bool.and_true] using h

set_option maxRecDepth 100000 in
theorem closed_of {f : FuncId} {fn : Func} {s : ChangeSpec} {c : OpenClaim}
    (h1 : c.inPlace = Tryz.prog.inPlace f) (h2 : c.unfollowed = Tryz.prog.unfollowed f) (h3 : c.recurses = Tryz.prog.recurses f) (h4 : c.named = Tryz.prog.varsNamed f)
    (h5 : c.plainKeys = Rows.xvaluePartsRow.plainKeys) (h6 : c.lifted = Rows.xvaluePartsRow.lifted) (h7 : c.make = Rows.xvaluePartsRow.make)
    (h : (c.wf (OpenSpec.ofChange s) &&
      fn.params.all (Tryz.prog.readableRec ·) && namedTie Tryz.prog c.named s.vars &&
      (c.stops == []) && (Tryz.prog.stops == []) && (c.knobs == []) && (Tryz.prog.stopKnobs == []) &&
      (c.maps == (fn.params.toList ++ s.plain.varTypes Tryz.prog).any (Tryz.prog.mapsRec ·)) && (c.ifaces == (fn.params.toList ++ s.plain.varTypes Tryz.prog).any (Tryz.prog.ifacesRec ·)) && (c.mapsOut == Tryz.prog.mapsAmong fn.resultTypes.toList) &&
      (c.loops == (fn.params.toList ++ s.plain.varTypes Tryz.prog).any (Tryz.prog.loopsFrom ·)) && (c.wideKeys == (fn.params.toList ++ s.plain.varTypes Tryz.prog ++ fn.resultTypes.toList).any (Tryz.prog.wideKeysFrom ·)) &&
      s.vars.all (Tryz.prog.varReadable ·) && fn.resultTypes.all (fun t => Tryz.prog.readableRec t && decide (t < Tryz.prog.types.size)) && (c.ifacesOut == fn.resultTypes.toList.any (Tryz.prog.ifacesRec ·)) && (c.loopsOut == fn.resultTypes.toList.any (Tryz.prog.loopsFrom ·)) && c.shortTexts.isNone && (c.kinds == (if c.domain.isEmpty then [] else fn.params.toList.map fun t => match Tryz.prog.underlying t with | some (.int k) => some k | _ => none)) && (c.pinned == c.pinnedBy) &&
      (c.veiled == (fn.params.toList ++ s.plain.varTypes Tryz.prog ++ fn.resultTypes.toList).any (Tryz.prog.veiledRec ·)) && c.veiledFits Tryz.prog fn.params.toList (fn.params.toList ++ s.plain.varTypes Tryz.prog ++ fn.resultTypes.toList)) = true) :
    joinedFacts Tryz.prog f fn s c = true := by
  have b1 : (c.inPlace == Tryz.prog.inPlace f) = true := beq_iff_eq.2 h1
  have b2 : (c.unfollowed == Tryz.prog.unfollowed f) = true := beq_iff_eq.2 h2
  have b3 : (c.recurses == Tryz.prog.recurses f) = true := beq_iff_eq.2 h3
  have b4 : (c.named == Tryz.prog.varsNamed f) = true := beq_iff_eq.2 h4
  have b5 : (c.plainKeys == Tryz.prog.plainKeys) = true := beq_iff_eq.2 (h5.trans p_plainKeys.symm)
  have b6 : (c.lifted == Tryz.prog.liftsFinal) = true := beq_iff_eq.2 (h6.trans p_lifts.symm)
  have b7 : (Tryz.prog.make == some c.make) = true := beq_iff_eq.2 (p_make.trans (congrArg some h7.symm))
  unfold joinedFacts
  exact bools _ _ _ _ _ _ _ _ _ _ _ _ _ _ _ _ _ _ _ _ _ _ _ _ _ _ _ _ _ _ _ _ p_laidOut p_mapsRowed b1 b2 b3 b4 b5 p_heard p_mayEnter b6 b7 h
end Go.Proofs.YtaadhehcoegmhaaGreatDoor
