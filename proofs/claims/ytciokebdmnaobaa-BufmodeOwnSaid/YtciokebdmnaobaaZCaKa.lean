/- Texts joined, in order: Ca, Ra, Rb, Rc, Rd, Re, Rf, Rg, Sb, Sc, Sd, Se, Rh, Ri, Rj, Rk, Rl, La, Ka. -/
import Derived.Test.YtciokebdmnaobaaZEmGb
import Derived.Test.YtciokebdmnaobaaZGeTab
/- Contracts of the small functions of the buffer's mode. -/
namespace Go.Proofs.Ytciokebdmnaobaa
open Go Go.Eng
set_option maxHeartbeats 4000000
set_option linter.unusedSimpArgs false
set_option linter.unusedVariables false
set_option maxRecDepth 100000

def mayV (m s : Int) : Int := if m < 1 ∨ 3 < m then 1 else if s < 1 ∨ 65536 < s then 4 else 0

theorem may_c (m s : Int) : Contract Try.prog 32 nilSS [.i .i64 m, .i .i64 s] (fun sv post => sv = .i .i64 (mayV m s) ∧ post = nilSS) := by
  refine contract_ev Γok Try.func32 rfl rfl [] ?_
  simp (maxSteps := 4000000) only [slAppend, evAppendX, evCopy, rowApp, appRow, rowCopy, evAlts_cons, mixN_eq, evC_skip, evC_label, evC_ret, evC_exit, evC_goto, evC_region, evC_seq, evC_cond, evC_block, evC_loop, evC_scope, evC_rangeFunc, seqK.eq_1, seqK.eq_2, seqK.eq_3, seqK.eq_4, callK_eq, nilK_eq, skipV, evOps.eq_1, evOps.eq_2, evStill.eq_1, evStill.eq_2, evGuard, evalP, evEff, evCall, evAppend, evPick, evNil, evField, evIndexAddr, evLoad, evUn, evConv, evFieldV, evIndex, evSlice, cut, cutTag, slTag, cutL, evBuiltin, evBuild, evParts, placeOf, fieldOf, nth, leaves, spl, opd, ovc, ovcL, core, vcg, SS.eval, SS.put, SS.enter, SS.addBlk, SS.addTok, SS.setBlk, SS.back, lentOf, lentHp, lentTk, lentRs, lget, lset, hfind, hset, hpRen, hpDel, tkRen, tkDelL, rsRen, rsDel, memB, fmap, ren, renL, renT, tkMem, tkDel, bin, binI, binS, binE, isC, isT, isF, isNilS, evSliceNil, appd, intsOf, slTag, ofV, ofLeaf, one, allOne, thenK.eq_1, thenK.eq_2, thenK.eq_3, thenK.eq_4, blockK.eq_1, blockK.eq_2, blockK.eq_3, blockK.eq_4, retK.eq_1, retK.eq_2, retK.eq_3, retK.eq_4, evRes, single, TD.agg, allT, tdT, nilSS, noTI, rowsOf, elOf, pickL, eqB, leafEq, loopN.eq_1, loopN.eq_2, scopeK.eq_1, scopeK.eq_2, scopeK.eq_3, scopeK.eq_4, SubW, CallW, FinW, retS, retF, markK, rsCut, rsSet, rsFind, iterK.eq_1, iterK.eq_2, iterK.eq_3, iterEnd, pendK.eq_1, pendK.eq_2, pendK.eq_3, pendK.eq_4, roundK.eq_1, roundK.eq_2, roundK.eq_3, roundK.eq_4, roundEnd, assignK.eq_1, assignK.eq_2, YOK_eq, setPs, SS.iter, memId, hpSub, tkSub, rsSub, W, WL, TW, distincts, allLt, idTo, SS.lt, hpLt, rsLt, Nat.le_refl, List.toList_toArray, List.size_toArray, List.map, List.cons_append, List.nil_append, List.append_nil, List.length_cons, List.length_nil, List.replicate, List.take_succ_cons, List.take_zero, List.drop_succ_cons, List.drop_zero, Option.map_some, Option.map_none, Option.toList, Option.isSome, Option.isNone_none, Option.isNone_some, Int.reduceBNe, Int.reduceBEq, Int.reduceAdd, Int.reduceSub, Int.reduceMul, Int.reduceNeg, Int.reduceLT, Int.reduceLE, Bool.not_true, Bool.not_false, Nat.reduceLT, decide_true, decide_false, bne_self_eq_false, Nat.reduceAdd, Nat.reduceSub, Nat.reduceMul, Nat.reduceEqDiff, Nat.reduceLeDiff, Nat.reduceBEq, reduceIte, reduceCtorEq, Nat.add_zero, Nat.zero_add, Bool.or_false, Bool.false_or, Bool.or_true, Bool.true_or, Bool.and_true, Bool.true_and, List.mem_cons, forall_eq_or_imp, forall_eq, List.not_mem_nil, ne_eq, not_false_eq_true, not_true_eq_false, true_and, and_true, and_self, true_or, or_true, forall_const, Bool.false_eq_true, beq_self_eq_true, Bool.not_eq_true, Bool.not_eq_false, imp_self, implies_true, false_imp_iff, g1, g2, g3, g4, g5, g6, g7, g8, g9, g10, g11, g12, g13, g14, g15, g16, g17, g18, g19, g20, g21, g22, g23, g24, g25, g26, g27, g28, g30, g31, g32, g33, g34, g35, g37, g38, g39, g40, g41, g42, g44, g45, g46, g47, g48, g49, g51, g53, g55, g56, g57, g58, g59, g60, g62, g63, g64, g65, g67, g69, g70, g72, g73, g74, g75, g76, g77, g78, g79, g80, g81, g82, g84, g85, g86, g87, g89, g90, g91, g92, g93, g94, g95, g96, g97, g98, g100, g101, g102, g103, g104, g106, g107, g108, g109, g110, g111, g112, g113, g114, g115, g116, g117, g118, g119, g120, g122, g123, g124, g125, g126, g128, g130, g132, g133, g135, g137, g138, g139, g140, g142, g143, g144, g145, g147, g148, g149, g150, g151, g152, g153, g154, g155, g156, g158, g160, g161, g162, g163, g165, g167, g169, g170, g172, g173, g175, g176, g177, g179, g180, g181, g183, g184, g185, g187, g188, g189, g190, g191, g192, g193, g194, g195, g196, g197, g198, g199, g200, g201, g202, g203, g204, g205, g206, g207, g208, g209, g210, g211, g212, g213, g214, g215, g216, g217, g218, g219, g220, g221, g222, g223, g224, g225, g226, g227, g228, g229, g230, g231, g232, g233, g234, g235, g236, g237, g238, g239, g240, g241, g242, g243, g244, g245, g246, g247, g248, g249, g250, g251, g252, g253, g254, g255, g256, g257, g258, g259, g260, Try.f32]
  refine ⟨by simp, fun h1 => ?_, fun h1 => ⟨by simp, fun h2 => ?_, fun h2 => ?_⟩⟩ <;> refine Fin.nil rfl (psv := .i .i64 _) ⟨rfl, rfl⟩ ⟨?_, rfl⟩ <;> simp at h1 <;> simp [mayV, h1]
  · simp at h2; simp [h2]; omega
  · simp at h2; omega


theorem num_c (m : Int) : Contract Try.prog 28 nilSS [.i .i64 m] (fun sv post => sv = .i .i64 m ∧ post = nilSS) := by
  refine contract_ev Γok Try.func28 rfl rfl [] ?_
  simp (maxSteps := 4000000) only [slAppend, evAppendX, evCopy, rowApp, appRow, rowCopy, evAlts_cons, mixN_eq, evC_skip, evC_label, evC_ret, evC_exit, evC_goto, evC_region, evC_seq, evC_cond, evC_block, evC_loop, evC_scope, evC_rangeFunc, seqK.eq_1, seqK.eq_2, seqK.eq_3, seqK.eq_4, callK_eq, nilK_eq, skipV, evOps.eq_1, evOps.eq_2, evStill.eq_1, evStill.eq_2, evGuard, evalP, evEff, evCall, evAppend, evPick, evNil, evField, evIndexAddr, evLoad, evUn, evConv, evFieldV, evIndex, evSlice, cut, cutTag, slTag, cutL, evBuiltin, evBuild, evParts, placeOf, fieldOf, nth, leaves, spl, opd, ovc, ovcL, core, vcg, SS.eval, SS.put, SS.enter, SS.addBlk, SS.addTok, SS.setBlk, SS.back, lentOf, lentHp, lentTk, lentRs, lget, lset, hfind, hset, hpRen, hpDel, tkRen, tkDelL, rsRen, rsDel, memB, fmap, ren, renL, renT, tkMem, tkDel, bin, binI, binS, binE, isC, isT, isF, isNilS, evSliceNil, appd, intsOf, slTag, ofV, ofLeaf, one, allOne, thenK.eq_1, thenK.eq_2, thenK.eq_3, thenK.eq_4, blockK.eq_1, blockK.eq_2, blockK.eq_3, blockK.eq_4, retK.eq_1, retK.eq_2, retK.eq_3, retK.eq_4, evRes, single, TD.agg, allT, tdT, nilSS, noTI, rowsOf, elOf, pickL, eqB, leafEq, loopN.eq_1, loopN.eq_2, scopeK.eq_1, scopeK.eq_2, scopeK.eq_3, scopeK.eq_4, SubW, CallW, FinW, retS, retF, markK, rsCut, rsSet, rsFind, iterK.eq_1, iterK.eq_2, iterK.eq_3, iterEnd, pendK.eq_1, pendK.eq_2, pendK.eq_3, pendK.eq_4, roundK.eq_1, roundK.eq_2, roundK.eq_3, roundK.eq_4, roundEnd, assignK.eq_1, assignK.eq_2, YOK_eq, setPs, SS.iter, memId, hpSub, tkSub, rsSub, W, WL, TW, distincts, allLt, idTo, SS.lt, hpLt, rsLt, Nat.le_refl, List.toList_toArray, List.size_toArray, List.map, List.cons_append, List.nil_append, List.append_nil, List.length_cons, List.length_nil, List.replicate, List.take_succ_cons, List.take_zero, List.drop_succ_cons, List.drop_zero, Option.map_some, Option.map_none, Option.toList, Option.isSome, Option.isNone_none, Option.isNone_some, Int.reduceBNe, Int.reduceBEq, Int.reduceAdd, Int.reduceSub, Int.reduceMul, Int.reduceNeg, Int.reduceLT, Int.reduceLE, Bool.not_true, Bool.not_false, Nat.reduceLT, decide_true, decide_false, bne_self_eq_false, Nat.reduceAdd, Nat.reduceSub, Nat.reduceMul, Nat.reduceEqDiff, Nat.reduceLeDiff, Nat.reduceBEq, reduceIte, reduceCtorEq, Nat.add_zero, Nat.zero_add, Bool.or_false, Bool.false_or, Bool.or_true, Bool.true_or, Bool.and_true, Bool.true_and, List.mem_cons, forall_eq_or_imp, forall_eq, List.not_mem_nil, ne_eq, not_false_eq_true, not_true_eq_false, true_and, and_true, and_self, true_or, or_true, forall_const, Bool.false_eq_true, beq_self_eq_true, Bool.not_eq_true, Bool.not_eq_false, imp_self, implies_true, false_imp_iff, g1, g2, g3, g4, g5, g6, g7, g8, g9, g10, g11, g12, g13, g14, g15, g16, g17, g18, g19, g20, g21, g22, g23, g24, g25, g26, g27, g28, g30, g31, g32, g33, g34, g35, g37, g38, g39, g40, g41, g42, g44, g45, g46, g47, g48, g49, g51, g53, g55, g56, g57, g58, g59, g60, g62, g63, g64, g65, g67, g69, g70, g72, g73, g74, g75, g76, g77, g78, g79, g80, g81, g82, g84, g85, g86, g87, g89, g90, g91, g92, g93, g94, g95, g96, g97, g98, g100, g101, g102, g103, g104, g106, g107, g108, g109, g110, g111, g112, g113, g114, g115, g116, g117, g118, g119, g120, g122, g123, g124, g125, g126, g128, g130, g132, g133, g135, g137, g138, g139, g140, g142, g143, g144, g145, g147, g148, g149, g150, g151, g152, g153, g154, g155, g156, g158, g160, g161, g162, g163, g165, g167, g169, g170, g172, g173, g175, g176, g177, g179, g180, g181, g183, g184, g185, g187, g188, g189, g190, g191, g192, g193, g194, g195, g196, g197, g198, g199, g200, g201, g202, g203, g204, g205, g206, g207, g208, g209, g210, g211, g212, g213, g214, g215, g216, g217, g218, g219, g220, g221, g222, g223, g224, g225, g226, g227, g228, g229, g230, g231, g232, g233, g234, g235, g236, g237, g238, g239, g240, g241, g242, g243, g244, g245, g246, g247, g248, g249, g250, g251, g252, g253, g254, g255, g256, g257, g258, g259, g260, Try.f28]
  exact Fin.nil rfl (psv := .i .i64 _) ⟨rfl, rfl⟩ ⟨rfl, rfl⟩

theorem mixed : Try.prog.follows .mixedOrders = true := by kernel_rfl

theorem sameInts_c (l m : List Int) : Contract Try.prog 13 nilSS [.ints .i64 .old l, .ints .i64 .old m] (fun sv post => sv = .b (l == m) ∧ post = nilSS) := by
  refine contract_len 0 rfl fun hlen => ?_
  refine contract_ev Γok Try.func13 rfl rfl [] ?_
  simp (maxSteps := 4000000) only [slAppend, evAppendX, evCopy, rowApp, appRow, rowCopy, evAlts_cons, mixN_eq, evC_skip, evC_label, evC_ret, evC_exit, evC_goto, evC_region, evC_seq, evC_cond, evC_block, evC_loop, evC_scope, evC_rangeFunc, seqK.eq_1, seqK.eq_2, seqK.eq_3, seqK.eq_4, callK_eq, nilK_eq, skipV, evOps.eq_1, evOps.eq_2, evStill.eq_1, evStill.eq_2, evGuard, evalP, evEff, evCall, evAppend, evPick, evNil, evField, evIndexAddr, evLoad, evUn, evConv, evFieldV, evIndex, evSlice, cut, cutTag, slTag, cutL, evBuiltin, evBuild, evParts, placeOf, fieldOf, nth, leaves, spl, opd, ovc, ovcL, core, vcg, SS.eval, SS.put, SS.enter, SS.addBlk, SS.addTok, SS.setBlk, SS.back, lentOf, lentHp, lentTk, lentRs, lget, lset, hfind, hset, hpRen, hpDel, tkRen, tkDelL, rsRen, rsDel, memB, fmap, ren, renL, renT, tkMem, tkDel, bin, binI, binS, binE, isC, isT, isF, isNilS, evSliceNil, appd, intsOf, slTag, ofV, ofLeaf, one, allOne, thenK.eq_1, thenK.eq_2, thenK.eq_3, thenK.eq_4, blockK.eq_1, blockK.eq_2, blockK.eq_3, blockK.eq_4, retK.eq_1, retK.eq_2, retK.eq_3, retK.eq_4, evRes, single, TD.agg, allT, tdT, nilSS, noTI, rowsOf, elOf, pickL, eqB, leafEq, loopN.eq_1, loopN.eq_2, scopeK.eq_1, scopeK.eq_2, scopeK.eq_3, scopeK.eq_4, SubW, CallW, FinW, retS, retF, markK, rsCut, rsSet, rsFind, iterK.eq_1, iterK.eq_2, iterK.eq_3, iterEnd, pendK.eq_1, pendK.eq_2, pendK.eq_3, pendK.eq_4, roundK.eq_1, roundK.eq_2, roundK.eq_3, roundK.eq_4, roundEnd, assignK.eq_1, assignK.eq_2, YOK_eq, setPs, SS.iter, memId, hpSub, tkSub, rsSub, W, WL, TW, distincts, allLt, idTo, SS.lt, hpLt, rsLt, Nat.le_refl, List.toList_toArray, List.size_toArray, List.map, List.cons_append, List.nil_append, List.append_nil, List.length_cons, List.length_nil, List.replicate, List.take_succ_cons, List.take_zero, List.drop_succ_cons, List.drop_zero, Option.map_some, Option.map_none, Option.toList, Option.isSome, Option.isNone_none, Option.isNone_some, Int.reduceBNe, Int.reduceBEq, Int.reduceAdd, Int.reduceSub, Int.reduceMul, Int.reduceNeg, Int.reduceLT, Int.reduceLE, Bool.not_true, Bool.not_false, Nat.reduceLT, decide_true, decide_false, bne_self_eq_false, Nat.reduceAdd, Nat.reduceSub, Nat.reduceMul, Nat.reduceEqDiff, Nat.reduceLeDiff, Nat.reduceBEq, reduceIte, reduceCtorEq, Nat.add_zero, Nat.zero_add, Bool.or_false, Bool.false_or, Bool.or_true, Bool.true_or, Bool.and_true, Bool.true_and, List.mem_cons, forall_eq_or_imp, forall_eq, List.not_mem_nil, ne_eq, not_false_eq_true, not_true_eq_false, true_and, and_true, and_self, true_or, or_true, forall_const, Bool.false_eq_true, beq_self_eq_true, Bool.not_eq_true, Bool.not_eq_false, imp_self, implies_true, false_imp_iff, g1, g2, g3, g4, g5, g6, g7, g8, g9, g10, g11, g12, g13, g14, g15, g16, g17, g18, g19, g20, g21, g22, g23, g24, g25, g26, g27, g28, g30, g31, g32, g33, g34, g35, g37, g38, g39, g40, g41, g42, g44, g45, g46, g47, g48, g49, g51, g53, g55, g56, g57, g58, g59, g60, g62, g63, g64, g65, g67, g69, g70, g72, g73, g74, g75, g76, g77, g78, g79, g80, g81, g82, g84, g85, g86, g87, g89, g90, g91, g92, g93, g94, g95, g96, g97, g98, g100, g101, g102, g103, g104, g106, g107, g108, g109, g110, g111, g112, g113, g114, g115, g116, g117, g118, g119, g120, g122, g123, g124, g125, g126, g128, g130, g132, g133, g135, g137, g138, g139, g140, g142, g143, g144, g145, g147, g148, g149, g150, g151, g152, g153, g154, g155, g156, g158, g160, g161, g162, g163, g165, g167, g169, g170, g172, g173, g175, g176, g177, g179, g180, g181, g183, g184, g185, g187, g188, g189, g190, g191, g192, g193, g194, g195, g196, g197, g198, g199, g200, g201, g202, g203, g204, g205, g206, g207, g208, g209, g210, g211, g212, g213, g214, g215, g216, g217, g218, g219, g220, g221, g222, g223, g224, g225, g226, g227, g228, g229, g230, g231, g232, g233, g234, g235, g236, g237, g238, g239, g240, g241, g242, g243, g244, g245, g246, g247, g248, g249, g250, g251, g252, g253, g254, g255, g256, g257, g258, g259, g260, Try.f13]
  refine ⟨fun h1 => Fin.nil rfl (psv := .b _) rfl ⟨?_, rfl⟩, fun h1 => ?_⟩
  · simp at h1
    congr 1
    symm
    rw [beq_eq_false_iff_ne]
    rintro rfl
    exact h1 rfl
  have hl : l.length = m.length := by simp at h1; omega
  refine loop_ok (ι := {i : Nat // i ≤ l.length ∧ l.take i = m.take i}) (fun i => ⟨[.ints .i64 .old l, .ints .i64 .old m, .any, .any, .any, .i .i64 i.1] ++ List.replicate 20 .any, [], [], [], 0, 0, []⟩) (fun i => l.length - i.1) ⟨0, by simp, by simp⟩ ?_ ?_
  · refine Sub.w [] ?_
    simp (maxSteps := 4000000) only [slAppend, evAppendX, evCopy, rowApp, appRow, rowCopy, evAlts_cons, mixN_eq, evC_skip, evC_label, evC_ret, evC_exit, evC_goto, evC_region, evC_seq, evC_cond, evC_block, evC_loop, evC_scope, evC_rangeFunc, seqK.eq_1, seqK.eq_2, seqK.eq_3, seqK.eq_4, callK_eq, nilK_eq, skipV, evOps.eq_1, evOps.eq_2, evStill.eq_1, evStill.eq_2, evGuard, evalP, evEff, evCall, evAppend, evPick, evNil, evField, evIndexAddr, evLoad, evUn, evConv, evFieldV, evIndex, evSlice, cut, cutTag, slTag, cutL, evBuiltin, evBuild, evParts, placeOf, fieldOf, nth, leaves, spl, opd, ovc, ovcL, core, vcg, SS.eval, SS.put, SS.enter, SS.addBlk, SS.addTok, SS.setBlk, SS.back, lentOf, lentHp, lentTk, lentRs, lget, lset, hfind, hset, hpRen, hpDel, tkRen, tkDelL, rsRen, rsDel, memB, fmap, ren, renL, renT, tkMem, tkDel, bin, binI, binS, binE, isC, isT, isF, isNilS, evSliceNil, appd, intsOf, slTag, ofV, ofLeaf, one, allOne, thenK.eq_1, thenK.eq_2, thenK.eq_3, thenK.eq_4, blockK.eq_1, blockK.eq_2, blockK.eq_3, blockK.eq_4, retK.eq_1, retK.eq_2, retK.eq_3, retK.eq_4, evRes, single, TD.agg, allT, tdT, nilSS, noTI, rowsOf, elOf, pickL, eqB, leafEq, loopN.eq_1, loopN.eq_2, scopeK.eq_1, scopeK.eq_2, scopeK.eq_3, scopeK.eq_4, SubW, CallW, FinW, retS, retF, markK, rsCut, rsSet, rsFind, iterK.eq_1, iterK.eq_2, iterK.eq_3, iterEnd, pendK.eq_1, pendK.eq_2, pendK.eq_3, pendK.eq_4, roundK.eq_1, roundK.eq_2, roundK.eq_3, roundK.eq_4, roundEnd, assignK.eq_1, assignK.eq_2, YOK_eq, setPs, SS.iter, memId, hpSub, tkSub, rsSub, W, WL, TW, distincts, allLt, idTo, SS.lt, hpLt, rsLt, Nat.le_refl, List.toList_toArray, List.size_toArray, List.map, List.cons_append, List.nil_append, List.append_nil, List.length_cons, List.length_nil, List.replicate, List.take_succ_cons, List.take_zero, List.drop_succ_cons, List.drop_zero, Option.map_some, Option.map_none, Option.toList, Option.isSome, Option.isNone_none, Option.isNone_some, Int.reduceBNe, Int.reduceBEq, Int.reduceAdd, Int.reduceSub, Int.reduceMul, Int.reduceNeg, Int.reduceLT, Int.reduceLE, Bool.not_true, Bool.not_false, Nat.reduceLT, decide_true, decide_false, bne_self_eq_false, Nat.reduceAdd, Nat.reduceSub, Nat.reduceMul, Nat.reduceEqDiff, Nat.reduceLeDiff, Nat.reduceBEq, reduceIte, reduceCtorEq, Nat.add_zero, Nat.zero_add, Bool.or_false, Bool.false_or, Bool.or_true, Bool.true_or, Bool.and_true, Bool.true_and, List.mem_cons, forall_eq_or_imp, forall_eq, List.not_mem_nil, ne_eq, not_false_eq_true, not_true_eq_false, true_and, and_true, and_self, true_or, or_true, forall_const, Bool.false_eq_true, beq_self_eq_true, Bool.not_eq_true, Bool.not_eq_false, imp_self, implies_true, false_imp_iff, g1, g2, g3, g4, g5, g6, g7, g8, g9, g10, g11, g12, g13, g14, g15, g16, g17, g18, g19, g20, g21, g22, g23, g24, g25, g26, g27, g28, g30, g31, g32, g33, g34, g35, g37, g38, g39, g40, g41, g42, g44, g45, g46, g47, g48, g49, g51, g53, g55, g56, g57, g58, g59, g60, g62, g63, g64, g65, g67, g69, g70, g72, g73, g74, g75, g76, g77, g78, g79, g80, g81, g82, g84, g85, g86, g87, g89, g90, g91, g92, g93, g94, g95, g96, g97, g98, g100, g101, g102, g103, g104, g106, g107, g108, g109, g110, g111, g112, g113, g114, g115, g116, g117, g118, g119, g120, g122, g123, g124, g125, g126, g128, g130, g132, g133, g135, g137, g138, g139, g140, g142, g143, g144, g145, g147, g148, g149, g150, g151, g152, g153, g154, g155, g156, g158, g160, g161, g162, g163, g165, g167, g169, g170, g172, g173, g175, g176, g177, g179, g180, g181, g183, g184, g185, g187, g188, g189, g190, g191, g192, g193, g194, g195, g196, g197, g198, g199, g200, g201, g202, g203, g204, g205, g206, g207, g208, g209, g210, g211, g212, g213, g214, g215, g216, g217, g218, g219, g220, g221, g222, g223, g224, g225, g226, g227, g228, g229, g230, g231, g232, g233, g234, g235, g236, g237, g238, g239, g240, g241, g242, g243, g244, g245, g246, g247, g248, g249, g250, g251, g252, g253, g254, g255, g256, g257, g258, g259, g260]
    rfl
  · rintro ⟨i, hi, hp⟩
    refine evCode_sound Γok _ _ _ ?_
    simp (maxSteps := 4000000) only [slAppend, evAppendX, evCopy, rowApp, appRow, rowCopy, evAlts_cons, mixN_eq, evC_skip, evC_label, evC_ret, evC_exit, evC_goto, evC_region, evC_seq, evC_cond, evC_block, evC_loop, evC_scope, evC_rangeFunc, seqK.eq_1, seqK.eq_2, seqK.eq_3, seqK.eq_4, callK_eq, nilK_eq, skipV, evOps.eq_1, evOps.eq_2, evStill.eq_1, evStill.eq_2, evGuard, evalP, evEff, evCall, evAppend, evPick, evNil, evField, evIndexAddr, evLoad, evUn, evConv, evFieldV, evIndex, evSlice, cut, cutTag, slTag, cutL, evBuiltin, evBuild, evParts, placeOf, fieldOf, nth, leaves, spl, opd, ovc, ovcL, core, vcg, SS.eval, SS.put, SS.enter, SS.addBlk, SS.addTok, SS.setBlk, SS.back, lentOf, lentHp, lentTk, lentRs, lget, lset, hfind, hset, hpRen, hpDel, tkRen, tkDelL, rsRen, rsDel, memB, fmap, ren, renL, renT, tkMem, tkDel, bin, binI, binS, binE, isC, isT, isF, isNilS, evSliceNil, appd, intsOf, slTag, ofV, ofLeaf, one, allOne, thenK.eq_1, thenK.eq_2, thenK.eq_3, thenK.eq_4, blockK.eq_1, blockK.eq_2, blockK.eq_3, blockK.eq_4, retK.eq_1, retK.eq_2, retK.eq_3, retK.eq_4, evRes, single, TD.agg, allT, tdT, nilSS, noTI, rowsOf, elOf, pickL, eqB, leafEq, loopN.eq_1, loopN.eq_2, scopeK.eq_1, scopeK.eq_2, scopeK.eq_3, scopeK.eq_4, SubW, CallW, FinW, retS, retF, markK, rsCut, rsSet, rsFind, iterK.eq_1, iterK.eq_2, iterK.eq_3, iterEnd, pendK.eq_1, pendK.eq_2, pendK.eq_3, pendK.eq_4, roundK.eq_1, roundK.eq_2, roundK.eq_3, roundK.eq_4, roundEnd, assignK.eq_1, assignK.eq_2, YOK_eq, setPs, SS.iter, memId, hpSub, tkSub, rsSub, W, WL, TW, distincts, allLt, idTo, SS.lt, hpLt, rsLt, Nat.le_refl, List.toList_toArray, List.size_toArray, List.map, List.cons_append, List.nil_append, List.append_nil, List.length_cons, List.length_nil, List.replicate, List.take_succ_cons, List.take_zero, List.drop_succ_cons, List.drop_zero, Option.map_some, Option.map_none, Option.toList, Option.isSome, Option.isNone_none, Option.isNone_some, Int.reduceBNe, Int.reduceBEq, Int.reduceAdd, Int.reduceSub, Int.reduceMul, Int.reduceNeg, Int.reduceLT, Int.reduceLE, Bool.not_true, Bool.not_false, Nat.reduceLT, decide_true, decide_false, bne_self_eq_false, Nat.reduceAdd, Nat.reduceSub, Nat.reduceMul, Nat.reduceEqDiff, Nat.reduceLeDiff, Nat.reduceBEq, reduceIte, reduceCtorEq, Nat.add_zero, Nat.zero_add, Bool.or_false, Bool.false_or, Bool.or_true, Bool.true_or, Bool.and_true, Bool.true_and, List.mem_cons, forall_eq_or_imp, forall_eq, List.not_mem_nil, ne_eq, not_false_eq_true, not_true_eq_false, true_and, and_true, and_self, true_or, or_true, forall_const, Bool.false_eq_true, beq_self_eq_true, Bool.not_eq_true, Bool.not_eq_false, imp_self, implies_true, false_imp_iff, g1, g2, g3, g4, g5, g6, g7, g8, g9, g10, g11, g12, g13, g14, g15, g16, g17, g18, g19, g20, g21, g22, g23, g24, g25, g26, g27, g28, g30, g31, g32, g33, g34, g35, g37, g38, g39, g40, g41, g42, g44, g45, g46, g47, g48, g49, g51, g53, g55, g56, g57, g58, g59, g60, g62, g63, g64, g65, g67, g69, g70, g72, g73, g74, g75, g76, g77, g78, g79, g80, g81, g82, g84, g85, g86, g87, g89, g90, g91, g92, g93, g94, g95, g96, g97, g98, g100, g101, g102, g103, g104, g106, g107, g108, g109, g110, g111, g112, g113, g114, g115, g116, g117, g118, g119, g120, g122, g123, g124, g125, g126, g128, g130, g132, g133, g135, g137, g138, g139, g140, g142, g143, g144, g145, g147, g148, g149, g150, g151, g152, g153, g154, g155, g156, g158, g160, g161, g162, g163, g165, g167, g169, g170, g172, g173, g175, g176, g177, g179, g180, g181, g183, g184, g185, g187, g188, g189, g190, g191, g192, g193, g194, g195, g196, g197, g198, g199, g200, g201, g202, g203, g204, g205, g206, g207, g208, g209, g210, g211, g212, g213, g214, g215, g216, g217, g218, g219, g220, g221, g222, g223, g224, g225, g226, g227, g228, g229, g230, g231, g232, g233, g234, g235, g236, g237, g238, g239, g240, g241, g242, g243, g244, g245, g246, g247, g248, g249, g250, g251, g252, g253, g254, g255, g256, g257, g258, g259, g260]
    refine ⟨fun h2 => ?_, fun h2 => ?_⟩
    · have hi2 : i < l.length := by simpa using h2
      refine region_still rfl Γok mixed (by kernel_rfl) ?_
      simp (maxSteps := 4000000) only [slAppend, evAppendX, evCopy, rowApp, appRow, rowCopy, evAlts_cons, mixN_eq, evC_skip, evC_label, evC_ret, evC_exit, evC_goto, evC_region, evC_seq, evC_cond, evC_block, evC_loop, evC_scope, evC_rangeFunc, seqK.eq_1, seqK.eq_2, seqK.eq_3, seqK.eq_4, callK_eq, nilK_eq, skipV, evOps.eq_1, evOps.eq_2, evStill.eq_1, evStill.eq_2, evGuard, evalP, evEff, evCall, evAppend, evPick, evNil, evField, evIndexAddr, evLoad, evUn, evConv, evFieldV, evIndex, evSlice, cut, cutTag, slTag, cutL, evBuiltin, evBuild, evParts, placeOf, fieldOf, nth, leaves, spl, opd, ovc, ovcL, core, vcg, SS.eval, SS.put, SS.enter, SS.addBlk, SS.addTok, SS.setBlk, SS.back, lentOf, lentHp, lentTk, lentRs, lget, lset, hfind, hset, hpRen, hpDel, tkRen, tkDelL, rsRen, rsDel, memB, fmap, ren, renL, renT, tkMem, tkDel, bin, binI, binS, binE, isC, isT, isF, isNilS, evSliceNil, appd, intsOf, slTag, ofV, ofLeaf, one, allOne, thenK.eq_1, thenK.eq_2, thenK.eq_3, thenK.eq_4, blockK.eq_1, blockK.eq_2, blockK.eq_3, blockK.eq_4, retK.eq_1, retK.eq_2, retK.eq_3, retK.eq_4, evRes, single, TD.agg, allT, tdT, nilSS, noTI, rowsOf, elOf, pickL, eqB, leafEq, loopN.eq_1, loopN.eq_2, scopeK.eq_1, scopeK.eq_2, scopeK.eq_3, scopeK.eq_4, SubW, CallW, FinW, retS, retF, markK, rsCut, rsSet, rsFind, iterK.eq_1, iterK.eq_2, iterK.eq_3, iterEnd, pendK.eq_1, pendK.eq_2, pendK.eq_3, pendK.eq_4, roundK.eq_1, roundK.eq_2, roundK.eq_3, roundK.eq_4, roundEnd, assignK.eq_1, assignK.eq_2, YOK_eq, setPs, SS.iter, memId, hpSub, tkSub, rsSub, W, WL, TW, distincts, allLt, idTo, SS.lt, hpLt, rsLt, Nat.le_refl, List.toList_toArray, List.size_toArray, List.map, List.cons_append, List.nil_append, List.append_nil, List.length_cons, List.length_nil, List.replicate, List.take_succ_cons, List.take_zero, List.drop_succ_cons, List.drop_zero, Option.map_some, Option.map_none, Option.toList, Option.isSome, Option.isNone_none, Option.isNone_some, Int.reduceBNe, Int.reduceBEq, Int.reduceAdd, Int.reduceSub, Int.reduceMul, Int.reduceNeg, Int.reduceLT, Int.reduceLE, Bool.not_true, Bool.not_false, Nat.reduceLT, decide_true, decide_false, bne_self_eq_false, Nat.reduceAdd, Nat.reduceSub, Nat.reduceMul, Nat.reduceEqDiff, Nat.reduceLeDiff, Nat.reduceBEq, reduceIte, reduceCtorEq, Nat.add_zero, Nat.zero_add, Bool.or_false, Bool.false_or, Bool.or_true, Bool.true_or, Bool.and_true, Bool.true_and, List.mem_cons, forall_eq_or_imp, forall_eq, List.not_mem_nil, ne_eq, not_false_eq_true, not_true_eq_false, true_and, and_true, and_self, true_or, or_true, forall_const, Bool.false_eq_true, beq_self_eq_true, Bool.not_eq_true, Bool.not_eq_false, imp_self, implies_true, false_imp_iff, g1, g2, g3, g4, g5, g6, g7, g8, g9, g10, g11, g12, g13, g14, g15, g16, g17, g18, g19, g20, g21, g22, g23, g24, g25, g26, g27, g28, g30, g31, g32, g33, g34, g35, g37, g38, g39, g40, g41, g42, g44, g45, g46, g47, g48, g49, g51, g53, g55, g56, g57, g58, g59, g60, g62, g63, g64, g65, g67, g69, g70, g72, g73, g74, g75, g76, g77, g78, g79, g80, g81, g82, g84, g85, g86, g87, g89, g90, g91, g92, g93, g94, g95, g96, g97, g98, g100, g101, g102, g103, g104, g106, g107, g108, g109, g110, g111, g112, g113, g114, g115, g116, g117, g118, g119, g120, g122, g123, g124, g125, g126, g128, g130, g132, g133, g135, g137, g138, g139, g140, g142, g143, g144, g145, g147, g148, g149, g150, g151, g152, g153, g154, g155, g156, g158, g160, g161, g162, g163, g165, g167, g169, g170, g172, g173, g175, g176, g177, g179, g180, g181, g183, g184, g185, g187, g188, g189, g190, g191, g192, g193, g194, g195, g196, g197, g198, g199, g200, g201, g202, g203, g204, g205, g206, g207, g208, g209, g210, g211, g212, g213, g214, g215, g216, g217, g218, g219, g220, g221, g222, g223, g224, g225, g226, g227, g228, g229, g230, g231, g232, g233, g234, g235, g236, g237, g238, g239, g240, g241, g242, g243, g244, g245, g246, g247, g248, g249, g250, g251, g252, g253, g254, g255, g256, g257, g258, g259, g260]
      have e1 : l.getD (i : Int).toNat 0 = l[i] := by simp [List.getD, hi2]
      have e2 : m.getD (i : Int).toNat 0 = m[i] := by simp [List.getD, hl ▸ hi2]
      rw [e1, e2]
      refine ⟨by omega, by omega, fun h3 => Fin.nil rfl (psv := .b _) rfl ⟨?_, rfl⟩, fun h3 => ⟨⟨i + 1, hi2, ?_⟩, ?_, Sub.w [] ?_⟩⟩
      · simp at h3
        congr 1
        symm
        rw [beq_eq_false_iff_ne]
        rintro rfl
        exact h3 rfl
      · simp at h3
        rw [List.take_succ_eq_append_getElem hi2, List.take_succ_eq_append_getElem (hl ▸ hi2), hp, h3]
      · simp only; omega
      · simp (maxSteps := 4000000) only [slAppend, evAppendX, evCopy, rowApp, appRow, rowCopy, evAlts_cons, mixN_eq, evC_skip, evC_label, evC_ret, evC_exit, evC_goto, evC_region, evC_seq, evC_cond, evC_block, evC_loop, evC_scope, evC_rangeFunc, seqK.eq_1, seqK.eq_2, seqK.eq_3, seqK.eq_4, callK_eq, nilK_eq, skipV, evOps.eq_1, evOps.eq_2, evStill.eq_1, evStill.eq_2, evGuard, evalP, evEff, evCall, evAppend, evPick, evNil, evField, evIndexAddr, evLoad, evUn, evConv, evFieldV, evIndex, evSlice, cut, cutTag, slTag, cutL, evBuiltin, evBuild, evParts, placeOf, fieldOf, nth, leaves, spl, opd, ovc, ovcL, core, vcg, SS.eval, SS.put, SS.enter, SS.addBlk, SS.addTok, SS.setBlk, SS.back, lentOf, lentHp, lentTk, lentRs, lget, lset, hfind, hset, hpRen, hpDel, tkRen, tkDelL, rsRen, rsDel, memB, fmap, ren, renL, renT, tkMem, tkDel, bin, binI, binS, binE, isC, isT, isF, isNilS, evSliceNil, appd, intsOf, slTag, ofV, ofLeaf, one, allOne, thenK.eq_1, thenK.eq_2, thenK.eq_3, thenK.eq_4, blockK.eq_1, blockK.eq_2, blockK.eq_3, blockK.eq_4, retK.eq_1, retK.eq_2, retK.eq_3, retK.eq_4, evRes, single, TD.agg, allT, tdT, nilSS, noTI, rowsOf, elOf, pickL, eqB, leafEq, loopN.eq_1, loopN.eq_2, scopeK.eq_1, scopeK.eq_2, scopeK.eq_3, scopeK.eq_4, SubW, CallW, FinW, retS, retF, markK, rsCut, rsSet, rsFind, iterK.eq_1, iterK.eq_2, iterK.eq_3, iterEnd, pendK.eq_1, pendK.eq_2, pendK.eq_3, pendK.eq_4, roundK.eq_1, roundK.eq_2, roundK.eq_3, roundK.eq_4, roundEnd, assignK.eq_1, assignK.eq_2, YOK_eq, setPs, SS.iter, memId, hpSub, tkSub, rsSub, W, WL, TW, distincts, allLt, idTo, SS.lt, hpLt, rsLt, Nat.le_refl, List.toList_toArray, List.size_toArray, List.map, List.cons_append, List.nil_append, List.append_nil, List.length_cons, List.length_nil, List.replicate, List.take_succ_cons, List.take_zero, List.drop_succ_cons, List.drop_zero, Option.map_some, Option.map_none, Option.toList, Option.isSome, Option.isNone_none, Option.isNone_some, Int.reduceBNe, Int.reduceBEq, Int.reduceAdd, Int.reduceSub, Int.reduceMul, Int.reduceNeg, Int.reduceLT, Int.reduceLE, Bool.not_true, Bool.not_false, Nat.reduceLT, decide_true, decide_false, bne_self_eq_false, Nat.reduceAdd, Nat.reduceSub, Nat.reduceMul, Nat.reduceEqDiff, Nat.reduceLeDiff, Nat.reduceBEq, reduceIte, reduceCtorEq, Nat.add_zero, Nat.zero_add, Bool.or_false, Bool.false_or, Bool.or_true, Bool.true_or, Bool.and_true, Bool.true_and, List.mem_cons, forall_eq_or_imp, forall_eq, List.not_mem_nil, ne_eq, not_false_eq_true, not_true_eq_false, true_and, and_true, and_self, true_or, or_true, forall_const, Bool.false_eq_true, beq_self_eq_true, Bool.not_eq_true, Bool.not_eq_false, imp_self, implies_true, false_imp_iff, g1, g2, g3, g4, g5, g6, g7, g8, g9, g10, g11, g12, g13, g14, g15, g16, g17, g18, g19, g20, g21, g22, g23, g24, g25, g26, g27, g28, g30, g31, g32, g33, g34, g35, g37, g38, g39, g40, g41, g42, g44, g45, g46, g47, g48, g49, g51, g53, g55, g56, g57, g58, g59, g60, g62, g63, g64, g65, g67, g69, g70, g72, g73, g74, g75, g76, g77, g78, g79, g80, g81, g82, g84, g85, g86, g87, g89, g90, g91, g92, g93, g94, g95, g96, g97, g98, g100, g101, g102, g103, g104, g106, g107, g108, g109, g110, g111, g112, g113, g114, g115, g116, g117, g118, g119, g120, g122, g123, g124, g125, g126, g128, g130, g132, g133, g135, g137, g138, g139, g140, g142, g143, g144, g145, g147, g148, g149, g150, g151, g152, g153, g154, g155, g156, g158, g160, g161, g162, g163, g165, g167, g169, g170, g172, g173, g175, g176, g177, g179, g180, g181, g183, g184, g185, g187, g188, g189, g190, g191, g192, g193, g194, g195, g196, g197, g198, g199, g200, g201, g202, g203, g204, g205, g206, g207, g208, g209, g210, g211, g212, g213, g214, g215, g216, g217, g218, g219, g220, g221, g222, g223, g224, g225, g226, g227, g228, g229, g230, g231, g232, g233, g234, g235, g236, g237, g238, g239, g240, g241, g242, g243, g244, g245, g246, g247, g248, g249, g250, g251, g252, g253, g254, g255, g256, g257, g258, g259, g260]
        rw [wrap64 (by omega) (by omega)]
        rfl
    · have hi2 : i = l.length := by simp at h2; omega
      refine Fin.nil rfl (psv := .b _) rfl ⟨?_, rfl⟩
      subst hi2
      rw [List.take_length, hl, List.take_length] at hp
      simp [hp]
end Go.Proofs.Ytciokebdmnaobaa
/- Raws by what they answer; the tries over one. -/
namespace Go.Proofs.Ytciokebdmnaobaa
open Go Go.Eng
set_option maxHeartbeats 4000000
set_option linter.unusedSimpArgs false
set_option linter.unusedVariables false
set_option maxRecDepth 100000

theorem bclone_c (l : List Int) (hl : l.length ≤ 140737488355328) : Contract Try.prog 57 nilSS [.ints .u8 .old l] (fun sv post => sv = .ints .u8 (.tok 0 true) l ∧ post = ⟨[], [], [0], [], 1, 0, []⟩) := by
  refine contract_ev Γok Try.func57 rfl rfl [] ?_
  simp (maxSteps := 4000000) only [push_cast, Int.reduceEq, Int.reduceBNe, Int.reduceBEq, Int.reduceAdd, Int.reduceSub, Int.reduceMul, Int.reduceNeg, Int.reduceLT, Int.reduceLE, Int.reduceToNat, Nat.reduceLT, Nat.reduceAdd, Nat.reduceSub, Nat.reduceMul, Nat.reduceEqDiff, Nat.reduceLeDiff, Nat.reduceBEq, reduceIte, reduceCtorEq, Try.f57]
  rintro c hc
  refine ⟨fun h => ?_, fun h => ⟨by omega, Fin.w [1] _ _ (by simp (maxSteps := 4000000) only [push_cast, Int.reduceEq, Int.reduceBNe, Int.reduceBEq, Int.reduceAdd, Int.reduceSub, Int.reduceMul, Int.reduceNeg, Int.reduceLT, Int.reduceLE, Int.reduceToNat, Nat.reduceLT, Nat.reduceAdd, Nat.reduceSub, Nat.reduceMul, Nat.reduceEqDiff, Nat.reduceLeDiff, Nat.reduceBEq, reduceIte, reduceCtorEq]) ⟨rfl, rfl⟩⟩⟩
  have hn := hc h
  subst hn
  exact Fin.wt [0] (.ints .u8 (.tok 0 true) []) ⟨[], [], [0], [], 1, 0, []⟩ (by simp (maxSteps := 4000000) only [push_cast, Int.reduceEq, Int.reduceBNe, Int.reduceBEq, Int.reduceAdd, Int.reduceSub, Int.reduceMul, Int.reduceNeg, Int.reduceLT, Int.reduceLE, Int.reduceToNat, Nat.reduceLT, Nat.reduceAdd, Nat.reduceSub, Nat.reduceMul, Nat.reduceEqDiff, Nat.reduceLeDiff, Nat.reduceBEq, reduceIte, reduceCtorEq]) ⟨rfl, rfl⟩

theorem passing_c (e : Int) : Contract Try.prog 86 nilSS [.i .i64 e] (fun sv post => sv = .b (e == 22 || e == 23) ∧ post = nilSS) := by
  refine contract_ev Γok Try.func86 rfl rfl [] ?_
  simp (maxSteps := 4000000) only [push_cast, Int.reduceEq, Int.reduceBNe, Int.reduceBEq, Int.reduceAdd, Int.reduceSub, Int.reduceMul, Int.reduceNeg, Int.reduceLT, Int.reduceLE, Int.reduceToNat, Nat.reduceLT, Nat.reduceAdd, Nat.reduceSub, Nat.reduceMul, Nat.reduceEqDiff, Nat.reduceLeDiff, Nat.reduceBEq, reduceIte, reduceCtorEq, Try.f86]
  exact Fin.nil rfl (psv := .b _) rfl ⟨rfl, rfl⟩

theorem out_c (T : TypeId) (p : Int) (h1 : 0 ≤ p) (h2 : p ≤ 100000) : Contract Try.prog 87 ⟨[], [(0, T, [.i .i64 p])], [], [], 1, 1, []⟩ [.ptr 0 0] (fun sv post => sv = .b (decide (8192 ≤ p + 1)) ∧ post = ⟨[], [(0, T, [.i .i64 (p + 1)])], [], [], 1, 1, []⟩) := by
  refine contract_ev Γok Try.func87 rfl rfl [] ?_
  simp (maxSteps := 4000000) only [push_cast, Int.reduceEq, Int.reduceBNe, Int.reduceBEq, Int.reduceAdd, Int.reduceSub, Int.reduceMul, Int.reduceNeg, Int.reduceLT, Int.reduceLE, Int.reduceToNat, Nat.reduceLT, Nat.reduceAdd, Nat.reduceSub, Nat.reduceMul, Nat.reduceEqDiff, Nat.reduceLeDiff, Nat.reduceBEq, reduceIte, reduceCtorEq, Try.f87]
  rw [wrap64 (n := p + 1) (by omega) (by omega)]
  exact Fin.w [0] _ _ (by simp (maxSteps := 4000000) only [push_cast, Int.reduceEq, Int.reduceBNe, Int.reduceBEq, Int.reduceAdd, Int.reduceSub, Int.reduceMul, Int.reduceNeg, Int.reduceLT, Int.reduceLE, Int.reduceToNat, Nat.reduceLT, Nat.reduceAdd, Nat.reduceSub, Nat.reduceMul, Nat.reduceEqDiff, Nat.reduceLeDiff, Nat.reduceBEq, reduceIte, reduceCtorEq]) ⟨rfl, rfl⟩

/-- A Raw: what it holds, by states; what it answers. -/
structure RawM where
  σ : Type
  t : TypeId
  y : Value
  res : σ → Res
  ok : σ → Prop
  rd : σ → Int → σ × List Int × Int
  wr : σ → List Int → σ × Int × Int
  sk : σ → Int → Int → σ × Int × Int
  rm : σ → Nat := fun _ => 1125899906842624
/-- As an interface value. -/
def RawM.v (M : RawM) : SV := .ifc M.t (.raw M.y)
structure RawM.Rd (M : RawM) : Prop where
  keep : ∀ s n, M.ok s → 1 ≤ n → n ≤ 1048576 → M.ok (M.rd s n).1
  run : ∀ s n, M.ok s → 1 ≤ n → n ≤ 1048576 → InvC Try.prog M.t M.y "Read" (preR (M.res s)) [.i .i64 n] (fun sv post => sv = .tup [.ints .u8 .old (M.rd s n).2.1, .i .i64 (M.rd s n).2.2] ∧ post = preR (M.res (M.rd s n).1))
structure RawM.Wr (M : RawM) : Prop where
  nil : NilOK Try.prog "Write" M.v
  keep : ∀ s l, M.ok s → l ≠ [] → l.length ≤ 1048576 → l.length ≤ M.rm s → M.ok (M.wr s l).1 ∧ M.rm s ≤ M.rm (M.wr s l).1 + (if (M.wr s l).2.2 = 0 ∧ (M.wr s l).2.1 ≤ l.length then (M.wr s l).2.1.toNat else 0)
  run : ∀ s l, M.ok s → l ≠ [] → l.length ≤ 1048576 → l.length ≤ M.rm s → InvC Try.prog M.t M.y "Write" (preR (M.res s)) [.ints .u8 .old l] (fun sv post => sv = .tup [.i .i64 (M.wr s l).2.1, .i .i64 (M.wr s l).2.2] ∧ post = preR (M.res (M.wr s l).1))
structure RawM.Sk (M : RawM) : Prop where
  keep : ∀ s o w, M.ok s → M.ok (M.sk s o w).1
  run : ∀ s o w, M.ok s → InvC Try.prog M.t M.y "Seek" (preR (M.res s)) [.i .i64 o, .i .i64 w] (fun sv post => sv = .tup [.i .i64 (M.sk s o w).2.1, .i .i64 (M.sk s o w).2.2] ∧ post = preR (M.res (M.sk s o w).1))

/-- A read that is tried. -/
def RawM.some (M : RawM) (n : Int) : Nat → M.σ → M.σ × List Int × Int
  | 0, g => (g, [], 81)
  | k + 1, g =>
    if (M.rd g n).2.2 = 22 ∨ (M.rd g n).2.2 = 23 then (if k = 0 then ((M.rd g n).1, [], 81) else M.some n k (M.rd g n).1)
    else if (M.rd g n).2.2 ≠ 0 then ((M.rd g n).1, [], (M.rd g n).2.2)
    else if n < (M.rd g n).2.1.length then ((M.rd g n).1, [], 82)
    else ((M.rd g n).1, (M.rd g n).2.1, 0)
def someV (M : RawM) (g : M.σ) (n : Int) : M.σ × List Int × Int := M.some n 8192 g

theorem RawM.some_ok (M : RawM) (hR : M.Rd) (n : Int) (h1 : 1 ≤ n) (h2 : n ≤ 1048576) : ∀ (k : Nat) (g : M.σ), M.ok g → M.ok (M.some n k g).1
  | 0, g, h => h
  | k + 1, g, h => by
    have hk := hR.keep g n h h1 h2
    simp only [RawM.some]
    split
    · split
      · exact hk
      · exact M.some_ok hR n h1 h2 k _ hk
    · split
      · exact hk
      · split <;> exact hk
theorem someV_len (M : RawM) (n : Int) (h1 : 1 ≤ n) : ∀ (k : Nat) (g : M.σ), (M.some n k g).2.1.length ≤ n
  | 0, g => by simp [RawM.some]; omega
  | k + 1, g => by
    simp only [RawM.some]
    split
    · split
      · simp; omega
      · exact someV_len M n h1 k _
    · split
      · simp; omega
      · split
        · simp; omega
        · simp; omega
theorem someV_err (M : RawM) (n : Int) : ∀ (k : Nat) (g : M.σ), (M.some n k g).2.2 ≠ 0 → (M.some n k g).2.1 = []
  | 0, g, _ => rfl
  | k + 1, g, h => by
    simp only [RawM.some] at h ⊢
    split
    · split
      · rfl
      · rename_i h1 h2
        rw [if_pos h1, if_neg h2] at h
        exact someV_err M n k _ h
    · rename_i h1
      rw [if_neg h1] at h
      split
      · rfl
      · rename_i h2
        rw [if_neg h2] at h
        split
        · rfl
        · rename_i h3
          rw [if_neg h3] at h
          exact absurd rfl h

theorem someR_c (M : RawM) (hR : M.Rd) (g : M.σ) (hg : M.ok g) (n : Int) (h1 : 1 ≤ n) (h2 : n ≤ 1048576) :
    Contract Try.prog 118 (preR (M.res g)) [M.v, .i .i64 n]
      (fun sv post => sv = .tup [.ints .u8 .old (someV M g n).2.1, .i .i64 (someV M g n).2.2] ∧ post = preR (M.res (someV M g n).1)) := by
  refine contract_ev Γok Try.func118 rfl rfl [] ?_
  simp (maxSteps := 4000000) only [push_cast, Int.reduceEq, Int.reduceBNe, Int.reduceBEq, Int.reduceAdd, Int.reduceSub, Int.reduceMul, Int.reduceNeg, Int.reduceLT, Int.reduceLE, Int.reduceToNat, Nat.reduceLT, Nat.reduceAdd, Nat.reduceSub, Nat.reduceMul, Nat.reduceEqDiff, Nat.reduceLeDiff, Nat.reduceBEq, reduceIte, reduceCtorEq, Try.f118, RawM.v]
  refine ⟨fun h => by omega, fun h => ?_⟩
  refine loop_ok (ι := {x : Nat × M.σ // x.1 < 8192 ∧ M.ok x.2 ∧ M.some n (x.1 + 1) x.2 = someV M g n}) (fun x => ⟨[M.v, .i .i64 n, .any, .any, .ints .u8 .old [], .i .i64 0, .ptr 1 0] ++ List.replicate 30 .any, [(1, 161, [.i .i64 (8191 - x.1.1)])], [], [(0, M.res x.1.2)], 2, 1, []⟩) (fun x => x.1.1) ⟨(8191, g), by omega, hg, rfl⟩ ?_ ?_
  · refine Sub.w [0, 1] ?_
    simp (maxSteps := 4000000) only [push_cast, Int.reduceEq, Int.reduceBNe, Int.reduceBEq, Int.reduceAdd, Int.reduceSub, Int.reduceMul, Int.reduceNeg, Int.reduceLT, Int.reduceLE, Int.reduceToNat, Nat.reduceLT, Nat.reduceAdd, Nat.reduceSub, Nat.reduceMul, Nat.reduceEqDiff, Nat.reduceLeDiff, Nat.reduceBEq, reduceIte, reduceCtorEq, RawM.v]
  · rintro ⟨⟨k, g'⟩, hk, hok, he⟩
    simp only at hk hok he
    refine evCode_sound Γok _ _ _ ?_
    simp (maxSteps := 4000000) only [push_cast, Int.reduceEq, Int.reduceBNe, Int.reduceBEq, Int.reduceAdd, Int.reduceSub, Int.reduceMul, Int.reduceNeg, Int.reduceLT, Int.reduceLE, Int.reduceToNat, Nat.reduceLT, Nat.reduceAdd, Nat.reduceSub, Nat.reduceMul, Nat.reduceEqDiff, Nat.reduceLeDiff, Nat.reduceBEq, reduceIte, reduceCtorEq, RawM.v]
    refine inv_w (hR.run g' n hok h1 h2) [0] (by simp (maxSteps := 4000000) only [push_cast, Int.reduceEq, Int.reduceBNe, Int.reduceBEq, Int.reduceAdd, Int.reduceSub, Int.reduceMul, Int.reduceNeg, Int.reduceLT, Int.reduceLE, Int.reduceToNat, Nat.reduceLT, Nat.reduceAdd, Nat.reduceSub, Nat.reduceMul, Nat.reduceEqDiff, Nat.reduceLeDiff, Nat.reduceBEq, reduceIte, reduceCtorEq]) ?_
    rintro sv post ⟨rfl, rfl⟩
    simp (maxSteps := 4000000) only [push_cast, Int.reduceEq, Int.reduceBNe, Int.reduceBEq, Int.reduceAdd, Int.reduceSub, Int.reduceMul, Int.reduceNeg, Int.reduceLT, Int.reduceLE, Int.reduceToNat, Nat.reduceLT, Nat.reduceAdd, Nat.reduceSub, Nat.reduceMul, Nat.reduceEqDiff, Nat.reduceLeDiff, Nat.reduceBEq, reduceIte, reduceCtorEq]
    refine call_w (passing_c (M.rd g' n).2.2) [] (by simp (maxSteps := 4000000) only [push_cast, Int.reduceEq, Int.reduceBNe, Int.reduceBEq, Int.reduceAdd, Int.reduceSub, Int.reduceMul, Int.reduceNeg, Int.reduceLT, Int.reduceLE, Int.reduceToNat, Nat.reduceLT, Nat.reduceAdd, Nat.reduceSub, Nat.reduceMul, Nat.reduceEqDiff, Nat.reduceLeDiff, Nat.reduceBEq, reduceIte, reduceCtorEq]) ?_
    rintro sv post ⟨rfl, rfl⟩
    simp (maxSteps := 4000000) only [push_cast, Int.reduceEq, Int.reduceBNe, Int.reduceBEq, Int.reduceAdd, Int.reduceSub, Int.reduceMul, Int.reduceNeg, Int.reduceLT, Int.reduceLE, Int.reduceToNat, Nat.reduceLT, Nat.reduceAdd, Nat.reduceSub, Nat.reduceMul, Nat.reduceEqDiff, Nat.reduceLeDiff, Nat.reduceBEq, reduceIte, reduceCtorEq]
    have hkeep := hR.keep g' n hok h1 h2
    simp only [RawM.some] at he
    refine ⟨fun hp => ?_, fun hp => ?_⟩
    · rw [if_pos hp] at he
      refine call_w (out_c 161 (8191 - k) (by omega) (by omega)) [1] (by simp (maxSteps := 4000000) only [push_cast, Int.reduceEq, Int.reduceBNe, Int.reduceBEq, Int.reduceAdd, Int.reduceSub, Int.reduceMul, Int.reduceNeg, Int.reduceLT, Int.reduceLE, Int.reduceToNat, Nat.reduceLT, Nat.reduceAdd, Nat.reduceSub, Nat.reduceMul, Nat.reduceEqDiff, Nat.reduceLeDiff, Nat.reduceBEq, reduceIte, reduceCtorEq]) ?_
      rintro sv post ⟨rfl, rfl⟩
      simp (maxSteps := 4000000) only [push_cast, Int.reduceEq, Int.reduceBNe, Int.reduceBEq, Int.reduceAdd, Int.reduceSub, Int.reduceMul, Int.reduceNeg, Int.reduceLT, Int.reduceLE, Int.reduceToNat, Nat.reduceLT, Nat.reduceAdd, Nat.reduceSub, Nat.reduceMul, Nat.reduceEqDiff, Nat.reduceLeDiff, Nat.reduceBEq, reduceIte, reduceCtorEq]
      refine ⟨fun hq => ?_, fun hq => ?_⟩
      · rw [if_pos (by omega)] at he
        rw [← he]
        exact Fin.w [0] (.tup [.ints .u8 .old [], .i .i64 81]) _ (by simp (maxSteps := 4000000) only [push_cast, Int.reduceEq, Int.reduceBNe, Int.reduceBEq, Int.reduceAdd, Int.reduceSub, Int.reduceMul, Int.reduceNeg, Int.reduceLT, Int.reduceLE, Int.reduceToNat, Nat.reduceLT, Nat.reduceAdd, Nat.reduceSub, Nat.reduceMul, Nat.reduceEqDiff, Nat.reduceLeDiff, Nat.reduceBEq, reduceIte, reduceCtorEq]) ⟨rfl, rfl⟩
      · rw [if_neg (by omega)] at he
        obtain ⟨k', rfl⟩ : ∃ k', k = k' + 1 := ⟨k - 1, by omega⟩
        refine ⟨⟨(k', (M.rd g' n).1), by omega, hkeep, he⟩, by simp only; omega, Sub.w [0, 1] ?_⟩
        simp (maxSteps := 4000000) only [push_cast, Int.reduceEq, Int.reduceBNe, Int.reduceBEq, Int.reduceAdd, Int.reduceSub, Int.reduceMul, Int.reduceNeg, Int.reduceLT, Int.reduceLE, Int.reduceToNat, Nat.reduceLT, Nat.reduceAdd, Nat.reduceSub, Nat.reduceMul, Nat.reduceEqDiff, Nat.reduceLeDiff, Nat.reduceBEq, reduceIte, reduceCtorEq, RawM.v]
        omega
    · rw [if_neg (by omega)] at he
      refine ⟨fun hq => ?_, fun hq => ⟨fun hr => ?_, fun hr => ?_⟩⟩
      · rw [if_pos hq] at he
        rw [← he]
        exact Fin.w [0] (.tup [.ints .u8 .old [], .i .i64 _]) _ (by simp (maxSteps := 4000000) only [push_cast, Int.reduceEq, Int.reduceBNe, Int.reduceBEq, Int.reduceAdd, Int.reduceSub, Int.reduceMul, Int.reduceNeg, Int.reduceLT, Int.reduceLE, Int.reduceToNat, Nat.reduceLT, Nat.reduceAdd, Nat.reduceSub, Nat.reduceMul, Nat.reduceEqDiff, Nat.reduceLeDiff, Nat.reduceBEq, reduceIte, reduceCtorEq]) ⟨rfl, rfl⟩
      · rw [if_neg (by omega), if_pos hr] at he
        rw [← he]
        exact Fin.w [0] (.tup [.ints .u8 .old [], .i .i64 82]) _ (by simp (maxSteps := 4000000) only [push_cast, Int.reduceEq, Int.reduceBNe, Int.reduceBEq, Int.reduceAdd, Int.reduceSub, Int.reduceMul, Int.reduceNeg, Int.reduceLT, Int.reduceLE, Int.reduceToNat, Nat.reduceLT, Nat.reduceAdd, Nat.reduceSub, Nat.reduceMul, Nat.reduceEqDiff, Nat.reduceLeDiff, Nat.reduceBEq, reduceIte, reduceCtorEq]) ⟨rfl, rfl⟩
      · rw [if_neg (by omega), if_neg (by omega)] at he
        rw [← he]
        exact Fin.w [0] (.tup [.ints .u8 .old _, .i .i64 0]) _ (by simp (maxSteps := 4000000) only [push_cast, Int.reduceEq, Int.reduceBNe, Int.reduceBEq, Int.reduceAdd, Int.reduceSub, Int.reduceMul, Int.reduceNeg, Int.reduceLT, Int.reduceLE, Int.reduceToNat, Nat.reduceLT, Nat.reduceAdd, Nat.reduceSub, Nat.reduceMul, Nat.reduceEqDiff, Nat.reduceLeDiff, Nat.reduceBEq, reduceIte, reduceCtorEq]) ⟨rfl, rfl⟩
end Go.Proofs.Ytciokebdmnaobaa
/- All bytes onto a Raw. -/
namespace Go.Proofs.Ytciokebdmnaobaa
open Go Go.Eng
set_option maxHeartbeats 4000000
set_option linter.unusedSimpArgs false
set_option linter.unusedVariables false
set_option maxRecDepth 100000

/-- What is left to write, the tries in a row, how it ends. -/
def RawM.putGo (M : RawM) : Nat → M.σ → List Int → Nat → M.σ × List Int × Int
  | 0, g, rest, _ => (g, rest, 81)
  | f + 1, g, rest, p =>
    if rest = [] then (g, [], 0)
    else if (M.wr g rest).2.2 = 22 ∨ (M.wr g rest).2.2 = 23 ∨ ((M.wr g rest).2.2 = 0 ∧ (M.wr g rest).2.1 = 0) then
      (if 8192 ≤ p + 1 then ((M.wr g rest).1, rest, 81) else M.putGo f (M.wr g rest).1 rest (p + 1))
    else if (M.wr g rest).2.2 ≠ 0 then ((M.wr g rest).1, rest, (M.wr g rest).2.2)
    else if (M.wr g rest).2.1 < 0 ∨ rest.length < (M.wr g rest).2.1 then ((M.wr g rest).1, rest, 82)
    else M.putGo f (M.wr g rest).1 (rest.drop (M.wr g rest).2.1.toNat) 0
def putV (M : RawM) (g : M.σ) (b : List Int) : M.σ × List Int × Int := M.putGo (8193 * (b.length + 1)) g b 0

theorem RawM.putGo_ok (M : RawM) (hW : M.Wr) : ∀ (f : Nat) (g : M.σ) (rest : List Int) (p : Nat), M.ok g → rest.length ≤ 1048576 → rest.length ≤ M.rm g → M.ok (M.putGo f g rest p).1 ∧ M.rm g ≤ M.rm (M.putGo f g rest p).1 + rest.length
  | 0, g, rest, p, h, _, _ => ⟨h, by simp only [RawM.putGo]; omega⟩
  | f + 1, g, rest, p, h, hl, hr => by
    simp only [RawM.putGo]
    split
    · exact ⟨h, by dsimp only; omega⟩
    · rename_i hne
      obtain ⟨hk, hk2⟩ := hW.keep g rest h hne hl hr
      split
      · rename_i hq
        have hk3 : M.rm g ≤ M.rm (M.wr g rest).1 := by
          split at hk2
          · rename_i hz; omega
          · omega
        split
        · exact ⟨hk, by dsimp only; omega⟩
        · obtain ⟨e1, e2⟩ := M.putGo_ok hW f (M.wr g rest).1 rest (p + 1) hk hl (by omega)
          exact ⟨e1, by omega⟩
      · split
        · rename_i hq
          rw [if_neg (by omega)] at hk2
          exact ⟨hk, by dsimp only; omega⟩
        · split
          · rename_i hq
            refine ⟨hk, ?_⟩
            split at hk2 <;> dsimp only <;> omega
          · rw [if_pos (by omega)] at hk2
            obtain ⟨e1, e2⟩ := M.putGo_ok hW f (M.wr g rest).1 (rest.drop (M.wr g rest).2.1.toNat) 0 hk (by simp; omega) (by simp; omega)
            refine ⟨e1, ?_⟩
            simp only [List.length_drop] at e2
            omega
theorem putGo_len (M : RawM) : ∀ (f : Nat) (g : M.σ) (rest : List Int) (p : Nat), (M.putGo f g rest p).2.1.length ≤ rest.length
  | 0, g, rest, p => Nat.le_refl _
  | f + 1, g, rest, p => by
    simp only [RawM.putGo]
    split
    · simp
    · split
      · split
        · exact Nat.le_refl _
        · exact putGo_len M f _ _ _
      · split
        · exact Nat.le_refl _
        · split
          · exact Nat.le_refl _
          · exact Nat.le_trans (putGo_len M f _ _ _) (by simp)
/-- What is left is the end of what was given. -/
theorem putGo_drop (M : RawM) : ∀ (f : Nat) (g : M.σ) (rest : List Int) (p : Nat), (M.putGo f g rest p).2.1 = rest.drop (rest.length - (M.putGo f g rest p).2.1.length)
  | 0, g, rest, p => by simp [RawM.putGo]
  | f + 1, g, rest, p => by
    simp only [RawM.putGo]
    split
    · rename_i h; simp [h]
    · split
      · split
        · simp
        · exact putGo_drop M f _ _ _
      · split
        · simp
        · split
          · simp
          · rename_i h
            have h1 := putGo_drop M f (M.wr g rest).1 (rest.drop (M.wr g rest).2.1.toNat) 0
            have h2 := putGo_len M f (M.wr g rest).1 (rest.drop (M.wr g rest).2.1.toNat) 0
            generalize (M.putGo f (M.wr g rest).1 (rest.drop (M.wr g rest).2.1.toNat) 0).2.1 = q at h1 h2 ⊢
            have h3 : (rest.drop (M.wr g rest).2.1.toNat).length = rest.length - (M.wr g rest).2.1.toNat := by simp
            have h4 : q = rest.drop ((M.wr g rest).2.1.toNat + ((rest.drop (M.wr g rest).2.1.toNat).length - q.length)) := by
              rw [← List.drop_drop]; exact h1
            rw [show rest.length - q.length = (M.wr g rest).2.1.toNat + ((rest.drop (M.wr g rest).2.1.toNat).length - q.length) by
              rw [h3]; omega]
            exact h4
theorem putGo_ok0 (M : RawM) : ∀ (f : Nat) (g : M.σ) (rest : List Int) (p : Nat), (M.putGo f g rest p).2.2 = 0 → (M.putGo f g rest p).2.1 = []
  | 0, g, rest, p => by simp [RawM.putGo]
  | f + 1, g, rest, p => by
    simp only [RawM.putGo]
    split
    · intro _; rfl
    · split
      · split
        · simp
        · exact putGo_ok0 M f _ _ _
      · split
        · rename_i h; intro h2; exact absurd h2 h
        · split
          · simp
          · exact putGo_ok0 M f _ _ _

theorem putR_c (M : RawM) (hW : M.Wr) (g : M.σ) (hg : M.ok g) (b : List Int) (hb : b.length ≤ 1048576) (hr : b.length ≤ M.rm g) :
    Contract Try.prog 60 (preR (M.res g)) [M.v, .ints .u8 .old b]
      (fun sv post => sv = .tup [.i .i64 (b.length - (putV M g b).2.1.length), .i .i64 (putV M g b).2.2] ∧ post = preR (M.res (putV M g b).1)) := by
  have hnil := hW.nil
  refine contract_ev Γok Try.func60 rfl rfl [] ?_
  unfold RawM.v at hnil ⊢
  simp (maxSteps := 4000000) only [push_cast, Int.reduceEq, Int.reduceBNe, Int.reduceBEq, Int.reduceAdd, Int.reduceSub, Int.reduceMul, Int.reduceNeg, Int.reduceLT, Int.reduceLE, Int.reduceToNat, Nat.reduceLT, Nat.reduceAdd, Nat.reduceSub, Nat.reduceMul, Nat.reduceEqDiff, Nat.reduceLeDiff, Nat.reduceBEq, reduceIte, reduceCtorEq, Try.f60]
  refine ⟨fun h => by omega, fun h => ?_⟩
  refine loop_ok (ι := {x : M.σ × List Int × Nat × Nat // (M.ok x.1 ∧ x.2.1.length ≤ M.rm x.1) ∧ x.2.1.length ≤ b.length ∧ x.2.2.1 < 8192 ∧ 8193 * x.2.1.length + (8192 - x.2.2.1) ≤ x.2.2.2 ∧ M.putGo x.2.2.2 x.1 x.2.1 x.2.2.1 = putV M g b})
    (fun x => ⟨[.ifc M.t (.raw M.y), .ints .u8 .old b, .any, .any, .i .i64 0, .i .i64 0, .ptr 1 0, .ints .u8 .old x.1.2.1] ++ List.replicate 59 .any, [(1, 161, [.i .i64 x.1.2.2.1])], [], [(0, M.res x.1.1)], 2, 1, []⟩) (fun x => x.1.2.2.2) ⟨(g, b, 0, 8193 * (b.length + 1)), ⟨hg, hr⟩, Nat.le_refl _, by simp only; omega, by simp only; omega, rfl⟩ ?_ ?_
  · refine Sub.w [0, 1] ?_
    simp (maxSteps := 4000000) only [push_cast, Int.reduceEq, Int.reduceBNe, Int.reduceBEq, Int.reduceAdd, Int.reduceSub, Int.reduceMul, Int.reduceNeg, Int.reduceLT, Int.reduceLE, Int.reduceToNat, Nat.reduceLT, Nat.reduceAdd, Nat.reduceSub, Nat.reduceMul, Nat.reduceEqDiff, Nat.reduceLeDiff, Nat.reduceBEq, reduceIte, reduceCtorEq]
  · rintro ⟨⟨g', rest, p, f⟩, hok, hl, hp, hf, he⟩
    simp only at hok hl hp hf he
    obtain ⟨hok, hrm⟩ := hok
    obtain ⟨f', rfl⟩ : ∃ f', f = f' + 1 := ⟨f - 1, by omega⟩
    simp only [RawM.putGo] at he
    refine evCode_sound Γok _ _ _ ?_
    simp (maxSteps := 4000000) only [push_cast, Int.reduceEq, Int.reduceBNe, Int.reduceBEq, Int.reduceAdd, Int.reduceSub, Int.reduceMul, Int.reduceNeg, Int.reduceLT, Int.reduceLE, Int.reduceToNat, Nat.reduceLT, Nat.reduceAdd, Nat.reduceSub, Nat.reduceMul, Nat.reduceEqDiff, Nat.reduceLeDiff, Nat.reduceBEq, reduceIte, reduceCtorEq]
    refine ⟨fun h1 => ?_, fun h1 => ?_⟩
    · have hne : rest ≠ [] := by rintro rfl; simp at h1
      rw [if_neg hne] at he
      obtain ⟨hkeep, hkr⟩ := hW.keep g' rest hok hne (by omega) hrm
      refine (region_plan rfl Γok mixed (.pure 0 (.pure 2 (.pure 4 (.pure 5 (.pure 6 (.eff (.cons 1 [] (.eff (.cons 3 [] (.eff (.cons 7 [] (.pure 8 (.pure 9 (.pure 10 (.pure 11 (.pure 12 .done))))) .nil)) .nil)) .nil))))))) 67 rfl (by kernel_rfl) ?_)
      simp (maxSteps := 4000000) only [push_cast, Int.reduceEq, Int.reduceBNe, Int.reduceBEq, Int.reduceAdd, Int.reduceSub, Int.reduceMul, Int.reduceNeg, Int.reduceLT, Int.reduceLE, Int.reduceToNat, Nat.reduceLT, Nat.reduceAdd, Nat.reduceSub, Nat.reduceMul, Nat.reduceEqDiff, Nat.reduceLeDiff, Nat.reduceBEq, reduceIte, reduceCtorEq]
      refine ⟨hnil, by omega, inv_w (hW.run g' rest hok hne (by omega) hrm) [0] (by simp (maxSteps := 4000000) only [push_cast, Int.reduceEq, Int.reduceBNe, Int.reduceBEq, Int.reduceAdd, Int.reduceSub, Int.reduceMul, Int.reduceNeg, Int.reduceLT, Int.reduceLE, Int.reduceToNat, Nat.reduceLT, Nat.reduceAdd, Nat.reduceSub, Nat.reduceMul, Nat.reduceEqDiff, Nat.reduceLeDiff, Nat.reduceBEq, reduceIte, reduceCtorEq]) ?_⟩
      rintro sv post ⟨rfl, rfl⟩
      simp (maxSteps := 4000000) only [push_cast, Int.reduceEq, Int.reduceBNe, Int.reduceBEq, Int.reduceAdd, Int.reduceSub, Int.reduceMul, Int.reduceNeg, Int.reduceLT, Int.reduceLE, Int.reduceToNat, Nat.reduceLT, Nat.reduceAdd, Nat.reduceSub, Nat.reduceMul, Nat.reduceEqDiff, Nat.reduceLeDiff, Nat.reduceBEq, reduceIte, reduceCtorEq]
      rw [wrap64 (n := (b.length : Int) - rest.length) (by omega) (by omega)]
      refine call_w (passing_c (M.wr g' rest).2.2) [] (by simp (maxSteps := 4000000) only [push_cast, Int.reduceEq, Int.reduceBNe, Int.reduceBEq, Int.reduceAdd, Int.reduceSub, Int.reduceMul, Int.reduceNeg, Int.reduceLT, Int.reduceLE, Int.reduceToNat, Nat.reduceLT, Nat.reduceAdd, Nat.reduceSub, Nat.reduceMul, Nat.reduceEqDiff, Nat.reduceLeDiff, Nat.reduceBEq, reduceIte, reduceCtorEq]) ?_
      rintro sv post ⟨rfl, rfl⟩
      simp (maxSteps := 4000000) only [push_cast, Int.reduceEq, Int.reduceBNe, Int.reduceBEq, Int.reduceAdd, Int.reduceSub, Int.reduceMul, Int.reduceNeg, Int.reduceLT, Int.reduceLE, Int.reduceToNat, Nat.reduceLT, Nat.reduceAdd, Nat.reduceSub, Nat.reduceMul, Nat.reduceEqDiff, Nat.reduceLeDiff, Nat.reduceBEq, reduceIte, reduceCtorEq]
      refine ⟨fun hp1 => ⟨fun _ => ?_, fun hp2 => by omega⟩, fun hp1 => ⟨fun hp2 => ?_, fun hp2 => ?_⟩⟩
      · rw [if_pos (by omega)] at he
        refine call_w (out_c 161 p (by omega) (by omega)) [1] (by simp (maxSteps := 4000000) only [push_cast, Int.reduceEq, Int.reduceBNe, Int.reduceBEq, Int.reduceAdd, Int.reduceSub, Int.reduceMul, Int.reduceNeg, Int.reduceLT, Int.reduceLE, Int.reduceToNat, Nat.reduceLT, Nat.reduceAdd, Nat.reduceSub, Nat.reduceMul, Nat.reduceEqDiff, Nat.reduceLeDiff, Nat.reduceBEq, reduceIte, reduceCtorEq]) ?_
        rintro sv post ⟨rfl, rfl⟩
        simp (maxSteps := 4000000) only [push_cast, Int.reduceEq, Int.reduceBNe, Int.reduceBEq, Int.reduceAdd, Int.reduceSub, Int.reduceMul, Int.reduceNeg, Int.reduceLT, Int.reduceLE, Int.reduceToNat, Nat.reduceLT, Nat.reduceAdd, Nat.reduceSub, Nat.reduceMul, Nat.reduceEqDiff, Nat.reduceLeDiff, Nat.reduceBEq, reduceIte, reduceCtorEq]
        refine ⟨fun hq => ?_, fun hq => ?_⟩
        · rw [if_pos (by omega)] at he
          rw [← he]
          exact Fin.w [0] (.tup [.i .i64 (b.length - rest.length), .i .i64 81]) _ (by simp (maxSteps := 4000000) only [push_cast, Int.reduceEq, Int.reduceBNe, Int.reduceBEq, Int.reduceAdd, Int.reduceSub, Int.reduceMul, Int.reduceNeg, Int.reduceLT, Int.reduceLE, Int.reduceToNat, Nat.reduceLT, Nat.reduceAdd, Nat.reduceSub, Nat.reduceMul, Nat.reduceEqDiff, Nat.reduceLeDiff, Nat.reduceBEq, reduceIte, reduceCtorEq]) ⟨rfl, rfl⟩
        · rw [if_neg (by omega)] at he
          refine ⟨⟨((M.wr g' rest).1, rest, p + 1, f'), ⟨hkeep, by simp only; split at hkr <;> omega⟩, hl, by simp only; omega, by simp only; omega, he⟩, by simp only; omega, Sub.w [0, 1] ?_⟩
          simp (maxSteps := 4000000) only [push_cast, Int.reduceEq, Int.reduceBNe, Int.reduceBEq, Int.reduceAdd, Int.reduceSub, Int.reduceMul, Int.reduceNeg, Int.reduceLT, Int.reduceLE, Int.reduceToNat, Nat.reduceLT, Nat.reduceAdd, Nat.reduceSub, Nat.reduceMul, Nat.reduceEqDiff, Nat.reduceLeDiff, Nat.reduceBEq, reduceIte, reduceCtorEq]
      · rw [if_pos (by omega)] at he
        refine call_w (out_c 161 p (by omega) (by omega)) [1] (by simp (maxSteps := 4000000) only [push_cast, Int.reduceEq, Int.reduceBNe, Int.reduceBEq, Int.reduceAdd, Int.reduceSub, Int.reduceMul, Int.reduceNeg, Int.reduceLT, Int.reduceLE, Int.reduceToNat, Nat.reduceLT, Nat.reduceAdd, Nat.reduceSub, Nat.reduceMul, Nat.reduceEqDiff, Nat.reduceLeDiff, Nat.reduceBEq, reduceIte, reduceCtorEq]) ?_
        rintro sv post ⟨rfl, rfl⟩
        simp (maxSteps := 4000000) only [push_cast, Int.reduceEq, Int.reduceBNe, Int.reduceBEq, Int.reduceAdd, Int.reduceSub, Int.reduceMul, Int.reduceNeg, Int.reduceLT, Int.reduceLE, Int.reduceToNat, Nat.reduceLT, Nat.reduceAdd, Nat.reduceSub, Nat.reduceMul, Nat.reduceEqDiff, Nat.reduceLeDiff, Nat.reduceBEq, reduceIte, reduceCtorEq]
        refine ⟨fun hq => ?_, fun hq => ?_⟩
        · rw [if_pos (by omega)] at he
          rw [← he]
          exact Fin.w [0] (.tup [.i .i64 (b.length - rest.length), .i .i64 81]) _ (by simp (maxSteps := 4000000) only [push_cast, Int.reduceEq, Int.reduceBNe, Int.reduceBEq, Int.reduceAdd, Int.reduceSub, Int.reduceMul, Int.reduceNeg, Int.reduceLT, Int.reduceLE, Int.reduceToNat, Nat.reduceLT, Nat.reduceAdd, Nat.reduceSub, Nat.reduceMul, Nat.reduceEqDiff, Nat.reduceLeDiff, Nat.reduceBEq, reduceIte, reduceCtorEq]) ⟨rfl, rfl⟩
        · rw [if_neg (by omega)] at he
          refine ⟨⟨((M.wr g' rest).1, rest, p + 1, f'), ⟨hkeep, by simp only; split at hkr <;> omega⟩, hl, by simp only; omega, by simp only; omega, he⟩, by simp only; omega, Sub.w [0, 1] ?_⟩
          simp (maxSteps := 4000000) only [push_cast, Int.reduceEq, Int.reduceBNe, Int.reduceBEq, Int.reduceAdd, Int.reduceSub, Int.reduceMul, Int.reduceNeg, Int.reduceLT, Int.reduceLE, Int.reduceToNat, Nat.reduceLT, Nat.reduceAdd, Nat.reduceSub, Nat.reduceMul, Nat.reduceEqDiff, Nat.reduceLeDiff, Nat.reduceBEq, reduceIte, reduceCtorEq]
      · rw [if_neg (by omega)] at he
        refine ⟨fun h2 => ?_, fun h2 => ?_⟩
        · rw [if_pos h2] at he
          rw [← he]
          exact Fin.w [0] (.tup [.i .i64 (b.length - rest.length), .i .i64 (M.wr g' rest).2.2]) _ (by simp (maxSteps := 4000000) only [push_cast, Int.reduceEq, Int.reduceBNe, Int.reduceBEq, Int.reduceAdd, Int.reduceSub, Int.reduceMul, Int.reduceNeg, Int.reduceLT, Int.reduceLE, Int.reduceToNat, Nat.reduceLT, Nat.reduceAdd, Nat.reduceSub, Nat.reduceMul, Nat.reduceEqDiff, Nat.reduceLeDiff, Nat.reduceBEq, reduceIte, reduceCtorEq]) ⟨rfl, rfl⟩
        · rw [if_neg (by omega)] at he
          refine ⟨fun h3 => ?_, fun h3 => ⟨h3, ?_⟩⟩
          · rw [if_pos h3] at he
            rw [← he]
            exact Fin.w [0] (.tup [.i .i64 (b.length - rest.length), .i .i64 82]) _ (by simp (maxSteps := 4000000) only [push_cast, Int.reduceEq, Int.reduceBNe, Int.reduceBEq, Int.reduceAdd, Int.reduceSub, Int.reduceMul, Int.reduceNeg, Int.reduceLT, Int.reduceLE, Int.reduceToNat, Nat.reduceLT, Nat.reduceAdd, Nat.reduceSub, Nat.reduceMul, Nat.reduceEqDiff, Nat.reduceLeDiff, Nat.reduceBEq, reduceIte, reduceCtorEq]) ⟨rfl, rfl⟩
          · have hn : ¬ (M.wr g' rest).2.1 = 0 := by omega
            rw [if_neg (by omega)] at he
            refine ⟨⟨((M.wr g' rest).1, rest.drop (M.wr g' rest).2.1.toNat, 0, f'), ⟨hkeep, by rw [if_pos (by omega)] at hkr; simp only [List.length_drop]; omega⟩, by simp only [List.length_drop]; omega, by simp only; omega, by simp only [List.length_drop]; omega, he⟩, by simp only; omega, Sub.w [0, 1] ?_⟩
            simp (maxSteps := 4000000) only [push_cast, Int.reduceEq, Int.reduceBNe, Int.reduceBEq, Int.reduceAdd, Int.reduceSub, Int.reduceMul, Int.reduceNeg, Int.reduceLT, Int.reduceLE, Int.reduceToNat, Nat.reduceLT, Nat.reduceAdd, Nat.reduceSub, Nat.reduceMul, Nat.reduceEqDiff, Nat.reduceLeDiff, Nat.reduceBEq, reduceIte, reduceCtorEq]
    · have hne : rest = [] := by
        have : rest.length = 0 := by omega
        simpa using this
      subst hne
      rw [if_pos rfl] at he
      rw [← he]
      refine Fin.w [0] (.tup [.i .i64 b.length, .i .i64 0]) _ (by simp (maxSteps := 4000000) only [push_cast, Int.reduceEq, Int.reduceBNe, Int.reduceBEq, Int.reduceAdd, Int.reduceSub, Int.reduceMul, Int.reduceNeg, Int.reduceLT, Int.reduceLE, Int.reduceToNat, Nat.reduceLT, Nat.reduceAdd, Nat.reduceSub, Nat.reduceMul, Nat.reduceEqDiff, Nat.reduceLeDiff, Nat.reduceBEq, reduceIte, reduceCtorEq]) ⟨by simp, rfl⟩
end Go.Proofs.Ytciokebdmnaobaa
/- A stream's state; a stream at work: what its parts come to. -/
namespace Go.Proofs.Ytciokebdmnaobaa
open Go Go.Eng
set_option maxHeartbeats 4000000
set_option linter.unusedSimpArgs false
set_option linter.unusedVariables false
set_option maxRecDepth 100000

structure St where
  r : Bool
  w : Bool
  m : Int
  s : Int
  o : List Int
  i : List Int
  k : List Int
  d : Int
  en : Bool
  bad : Bool
  cl : Bool
def St.cells (x : St) (a b c : Tag) : List SV := [.b x.r, .b x.w, .i .i64 x.m, .i .i64 x.s, .ints .u8 a x.o, .ints .u8 b x.i, .ints .u8 c x.k, .i .i64 x.d, .b x.en, .b x.bad, .b x.cl]
def St.sv (x : St) (t : Tag) : SV := .agg (x.cells t t t)
/-- A stream at work: names 2, 3: what it holds to be written, and to be got. -/
def St.work (x : St) (v : SV) : List SV := [.b x.r, .b x.w, .i .i64 x.m, .i .i64 x.s, .ints .u8 (.tok 2 true) x.o, .ints .u8 (.tok 3 true) x.i, .ints .u8 .new x.k, .i .i64 x.d, .b x.en, .b x.bad, .b x.cl, v]
/-- What a part of it is handed; the tokens stay with its caller. -/
def preD (M : RawM) (x : St) (g : M.σ) : SS := ⟨[], [(0, 124, x.work M.v)], [], [(1, M.res g)], 4, 4, []⟩
/-- The same, the tokens too. -/
def preW (M : RawM) (x : St) (g : M.σ) : SS := ⟨[], [(0, 124, x.work M.v)], [2, 3], [(1, M.res g)], 4, 2, []⟩

def St.noted (x : St) (e : Int) : St := { x with bad := x.bad || (e != 0 && e != 52) }
/-- How a part ends: the tokens stay with its caller. -/
def isD (M : RawM) (r : St × M.σ × Int) (sv : SV) (post : SS) : Prop := sv = .i .i64 r.2.2 ∧ post = preD M r.1 r.2.1
/-- How a part ends: new tokens. -/
def isW (M : RawM) (r : St × M.σ × Int) (sv : SV) (post : SS) : Prop := sv = .i .i64 r.2.2 ∧ post = preW M r.1 r.2.1
def isN (x : St) (t : TypeId) (y : Value) (e : Int) (sv : SV) (post : SS) : Prop := sv = .i .i64 e ∧ post = ⟨[], [(0, 124, (x.noted e).work (.ifc t (.raw y)))], [], [], 4, 4, []⟩

theorem notedR_c (x : St) (t : TypeId) (y : Value) (e : Int) : Contract Try.prog 61 ⟨[], [(0, 124, x.work (.ifc t (.raw y)))], [], [], 4, 4, []⟩ [.ptr 0 0, .i .i64 e] (isN x t y e) := by
  refine contract_ev Γok Try.func61 rfl rfl [] ?_
  simp (maxSteps := 4000000) only [push_cast, Int.reduceEq, Int.reduceBNe, Int.reduceBEq, Int.reduceAdd, Int.reduceSub, Int.reduceMul, Int.reduceNeg, Int.reduceLT, Int.reduceLE, Int.reduceToNat, Nat.reduceLT, Nat.reduceAdd, Nat.reduceSub, Nat.reduceMul, Nat.reduceEqDiff, Nat.reduceLeDiff, Nat.reduceBEq, reduceIte, reduceCtorEq, Try.f61, St.work]
  exact Fin.w [0, 1, 2, 3] (.i .i64 e) _ (by simp (maxSteps := 4000000) only [push_cast, Int.reduceEq, Int.reduceBNe, Int.reduceBEq, Int.reduceAdd, Int.reduceSub, Int.reduceMul, Int.reduceNeg, Int.reduceLT, Int.reduceLE, Int.reduceToNat, Nat.reduceLT, Nat.reduceAdd, Nat.reduceSub, Nat.reduceMul, Nat.reduceEqDiff, Nat.reduceLeDiff, Nat.reduceBEq, reduceIte, reduceCtorEq, St.work, St.noted]) ⟨rfl, rfl⟩

/-- Delivered: what was held. -/
def St.deliver (M : RawM) (x : St) (g : M.σ) : St × M.σ × Int :=
  (({ x with o := (putV M g x.o).2.1 } : St).noted (putV M g x.o).2.2, (putV M g x.o).1, (putV M g x.o).2.2)

theorem deliverR_c (M : RawM) (hW : M.Wr) (x : St) (g : M.σ) (hg : M.ok g) (hx : x.o.length ≤ 1048576) (hr : x.o.length ≤ M.rm g) : Contract Try.prog 51 (preD M x g) [.ptr 0 0] (isD M (x.deliver M g)) := by
  refine contract_ev Γok Try.func51 rfl rfl [] ?_
  simp (maxSteps := 4000000) only [push_cast, Int.reduceEq, Int.reduceBNe, Int.reduceBEq, Int.reduceAdd, Int.reduceSub, Int.reduceMul, Int.reduceNeg, Int.reduceLT, Int.reduceLE, Int.reduceToNat, Nat.reduceLT, Nat.reduceAdd, Nat.reduceSub, Nat.reduceMul, Nat.reduceEqDiff, Nat.reduceLeDiff, Nat.reduceBEq, reduceIte, reduceCtorEq, Try.f51, preD, St.work, RawM.v]
  refine (region_plan rfl Γok mixed (.pure 0 (.pure 1 (.pure 2 (.pure 3 (.pure 4 (.pure 5 (.pure 6 (.pure 7 (.pure 8 (.eff (.cons 9 [] (.pure 10 (.pure 11 (.pure 12 (.pure 13 (.pure 14 .done))))) .nil))))))))))) 32 rfl (by kernel_rfl) ?_)
  simp (maxSteps := 4000000) only [push_cast, Int.reduceEq, Int.reduceBNe, Int.reduceBEq, Int.reduceAdd, Int.reduceSub, Int.reduceMul, Int.reduceNeg, Int.reduceLT, Int.reduceLE, Int.reduceToNat, Nat.reduceLT, Nat.reduceAdd, Nat.reduceSub, Nat.reduceMul, Nat.reduceEqDiff, Nat.reduceLeDiff, Nat.reduceBEq, reduceIte, reduceCtorEq]
  refine call_w (putR_c M hW g hg x.o hx hr) [1] (by simp (maxSteps := 4000000) only [push_cast, Int.reduceEq, Int.reduceBNe, Int.reduceBEq, Int.reduceAdd, Int.reduceSub, Int.reduceMul, Int.reduceNeg, Int.reduceLT, Int.reduceLE, Int.reduceToNat, Nat.reduceLT, Nat.reduceAdd, Nat.reduceSub, Nat.reduceMul, Nat.reduceEqDiff, Nat.reduceLeDiff, Nat.reduceBEq, reduceIte, reduceCtorEq, RawM.v]) ?_
  rintro sv post ⟨rfl, rfl⟩
  simp (maxSteps := 4000000) only [push_cast, Int.reduceEq, Int.reduceBNe, Int.reduceBEq, Int.reduceAdd, Int.reduceSub, Int.reduceMul, Int.reduceNeg, Int.reduceLT, Int.reduceLE, Int.reduceToNat, Nat.reduceLT, Nat.reduceAdd, Nat.reduceSub, Nat.reduceMul, Nat.reduceEqDiff, Nat.reduceLeDiff, Nat.reduceBEq, reduceIte, reduceCtorEq]
  have hl := putGo_len M (8193 * (x.o.length + 1)) g x.o 0
  have hd := putGo_drop M (8193 * (x.o.length + 1)) g x.o 0
  have e1 : x.o.drop ((x.o.length : Int) - ((putV M g x.o).2.1.length : Int)).toNat = (putV M g x.o).2.1 := by
    rw [show ((x.o.length : Int) - ((putV M g x.o).2.1.length : Int)).toNat = x.o.length - (putV M g x.o).2.1.length by omega]
    exact hd.symm
  have hl' : (putV M g x.o).2.1.length ≤ x.o.length := hl
  refine ⟨by omega, ?_⟩
  rw [e1]
  refine call_w (notedR_c { x with o := (putV M g x.o).2.1 } M.t M.y (putV M g x.o).2.2) [0, 1, 2, 3] (by simp (maxSteps := 4000000) only [push_cast, Int.reduceEq, Int.reduceBNe, Int.reduceBEq, Int.reduceAdd, Int.reduceSub, Int.reduceMul, Int.reduceNeg, Int.reduceLT, Int.reduceLE, Int.reduceToNat, Nat.reduceLT, Nat.reduceAdd, Nat.reduceSub, Nat.reduceMul, Nat.reduceEqDiff, Nat.reduceLeDiff, Nat.reduceBEq, reduceIte, reduceCtorEq, St.work]) ?_
  rintro sv post ⟨rfl, rfl⟩
  simp (maxSteps := 4000000) only [push_cast, Int.reduceEq, Int.reduceBNe, Int.reduceBEq, Int.reduceAdd, Int.reduceSub, Int.reduceMul, Int.reduceNeg, Int.reduceLT, Int.reduceLE, Int.reduceToNat, Nat.reduceLT, Nat.reduceAdd, Nat.reduceSub, Nat.reduceMul, Nat.reduceEqDiff, Nat.reduceLeDiff, Nat.reduceBEq, reduceIte, reduceCtorEq, St.work]
  exact Fin.w [0, 1, 2, 3] (.i .i64 _) _ (by simp (maxSteps := 4000000) only [push_cast, Int.reduceEq, Int.reduceBNe, Int.reduceBEq, Int.reduceAdd, Int.reduceSub, Int.reduceMul, Int.reduceNeg, Int.reduceLT, Int.reduceLE, Int.reduceToNat, Nat.reduceLT, Nat.reduceAdd, Nat.reduceSub, Nat.reduceMul, Nat.reduceEqDiff, Nat.reduceLeDiff, Nat.reduceBEq, reduceIte, reduceCtorEq, preD, St.work, RawM.v, St.deliver]) ⟨rfl, rfl⟩

/-- It is the way now: whether it may be. -/
def St.wErr (x : St) : Int := if x.w = false then 65 else if x.d = 1 ∧ (x.en = false ∨ 0 < x.i.length + x.k.length) then 112 else 0

end Go.Proofs.Ytciokebdmnaobaa
/- A byte is put onto, and got off, a stream at work. -/
namespace Go.Proofs.Ytciokebdmnaobaa
open Go Go.Eng
set_option maxHeartbeats 4000000
set_option linter.unusedSimpArgs false
set_option linter.unusedVariables false
set_option maxRecDepth 100000

theorem may_zero' {m s : Int} (h : mayV m s = 0) : 1 ≤ m ∧ m ≤ 3 ∧ 1 ≤ s ∧ s ≤ 65536 := by
  unfold mayV at h
  split at h
  · omega
  · split at h <;> omega

/-- A byte is put. -/
def St.put1 (M : RawM) (x : St) (g : M.σ) (c : Int) : St × M.σ × Int :=
  if x.o.length = x.s ∨ (x.m = 2 ∧ c = 10) then x.deliver M g else (x, g, 0)
def St.put (M : RawM) (x : St) (g : M.σ) (c : Int) : St × M.σ × Int :=
  if x.wErr ≠ 0 then (x, g, x.wErr)
  else if x.m = 1 then (({ x with d := 2 } : St).noted (putV M g [c]).2.2, (putV M g [c]).1, (putV M g [c]).2.2)
  else if x.o.length = x.s then
    (let z := ({ x with d := 2 } : St).deliver M g
     if z.2.2 ≠ 0 then z else ({ z.1 with o := z.1.o ++ [c] } : St).put1 M z.2.1 c)
  else ({ x with d := 2, o := x.o ++ [c] } : St).put1 M g c

theorem deliver_o (M : RawM) (x : St) (g : M.σ) : (x.deliver M g).1.o.length ≤ x.o.length := putGo_len M _ g x.o 0
theorem deliver_ok (M : RawM) (hW : M.Wr) (x : St) (g : M.σ) (hg : M.ok g) (hx : x.o.length ≤ 1048576) (hr : x.o.length ≤ M.rm g) : M.ok (x.deliver M g).2.1 ∧ M.rm g ≤ M.rm (x.deliver M g).2.1 + x.o.length := M.putGo_ok hW _ g x.o 0 hg hx hr

end Go.Proofs.Ytciokebdmnaobaa
/- A byte is got off a stream at work. -/
namespace Go.Proofs.Ytciokebdmnaobaa
open Go Go.Eng
set_option maxHeartbeats 4000000
set_option linter.unusedSimpArgs false
set_option linter.unusedVariables false
set_option maxRecDepth 100000

/-- So many bytes are asked for at once. -/
def askV (m s : Int) : Int := if m = 1 then 1 else s
def St.fill (M : RawM) (x : St) (g : M.σ) : St × M.σ × Int :=
  if x.en = true then (x, g, 111)
  else if (someV M g (askV x.m x.s)).2.2 = 0 ∧ (someV M g (askV x.m x.s)).2.1 = [] then ({ x with en := true }, (someV M g (askV x.m x.s)).1, 111)
  else (({ x with i := x.i ++ (someV M g (askV x.m x.s)).2.1 } : St).noted (someV M g (askV x.m x.s)).2.2, (someV M g (askV x.m x.s)).1, (someV M g (askV x.m x.s)).2.2)

theorem ask_rng {m s : Int} (h : mayV m s = 0) : 1 ≤ askV m s ∧ askV m s ≤ 65536 := by
  obtain ⟨h1, h2, h3, h4⟩ := may_zero' h
  unfold askV
  split <;> omega

theorem fillW_c (M : RawM) (hR : M.Rd) (x : St) (g : M.σ) (hg : M.ok g) (hm : mayV x.m x.s = 0) (hi : x.i.length ≤ 1048576) :
    Contract Try.prog 109 (preW M x g) [.ptr 0 0] (isW M (x.fill M g)) := by
  obtain ⟨a1, a2⟩ := ask_rng hm
  have hl := someV_len M (askV x.m x.s) a1 8192 g
  refine contract_ev Γok Try.func109 rfl rfl [] ?_
  simp (maxSteps := 4000000) only [push_cast, Int.reduceEq, Int.reduceBNe, Int.reduceBEq, Int.reduceAdd, Int.reduceSub, Int.reduceMul, Int.reduceNeg, Int.reduceLT, Int.reduceLE, Int.reduceToNat, Nat.reduceLT, Nat.reduceAdd, Nat.reduceSub, Nat.reduceMul, Nat.reduceEqDiff, Nat.reduceLeDiff, Nat.reduceBEq, reduceIte, reduceCtorEq, Try.f109, preW, St.work, RawM.v]
  unfold St.fill
  refine ⟨fun h => ?_, fun h => ?_⟩
  · rw [if_pos h]
    exact Fin.w [0, 1, 2, 3] (.i .i64 _) _ (by simp (maxSteps := 4000000) only [push_cast, Int.reduceEq, Int.reduceBNe, Int.reduceBEq, Int.reduceAdd, Int.reduceSub, Int.reduceMul, Int.reduceNeg, Int.reduceLT, Int.reduceLE, Int.reduceToNat, Nat.reduceLT, Nat.reduceAdd, Nat.reduceSub, Nat.reduceMul, Nat.reduceEqDiff, Nat.reduceLeDiff, Nat.reduceBEq, reduceIte, reduceCtorEq, preW, St.work, RawM.v]) ⟨rfl, rfl⟩
  rw [if_neg (by simp [h])]
  have hl' : (someV M g (askV x.m x.s)).2.1.length ≤ askV x.m x.s := hl
  refine ⟨fun h1 => ?_, fun h1 => ?_⟩
  · have ha : askV x.m x.s = 1 := by unfold askV; rw [if_pos h1]
    rw [ha] at hl' ⊢
    refine call_w (someR_c M hR g hg 1 (by omega) (by omega)) [1] (by simp (maxSteps := 4000000) only [push_cast, Int.reduceEq, Int.reduceBNe, Int.reduceBEq, Int.reduceAdd, Int.reduceSub, Int.reduceMul, Int.reduceNeg, Int.reduceLT, Int.reduceLE, Int.reduceToNat, Nat.reduceLT, Nat.reduceAdd, Nat.reduceSub, Nat.reduceMul, Nat.reduceEqDiff, Nat.reduceLeDiff, Nat.reduceBEq, reduceIte, reduceCtorEq, RawM.v]) ?_
    rintro sv post ⟨rfl, rfl⟩
    simp (maxSteps := 4000000) only [push_cast, Int.reduceEq, Int.reduceBNe, Int.reduceBEq, Int.reduceAdd, Int.reduceSub, Int.reduceMul, Int.reduceNeg, Int.reduceLT, Int.reduceLE, Int.reduceToNat, Nat.reduceLT, Nat.reduceAdd, Nat.reduceSub, Nat.reduceMul, Nat.reduceEqDiff, Nat.reduceLeDiff, Nat.reduceBEq, reduceIte, reduceCtorEq]
    refine ⟨fun h2 => ?_, fun h2 => ?_⟩
    · rw [if_pos ⟨h2.1, by have := h2.2; simpa using this⟩]
      exact Fin.w [0, 1, 2, 3] (.i .i64 _) _ (by simp (maxSteps := 4000000) only [push_cast, Int.reduceEq, Int.reduceBNe, Int.reduceBEq, Int.reduceAdd, Int.reduceSub, Int.reduceMul, Int.reduceNeg, Int.reduceLT, Int.reduceLE, Int.reduceToNat, Nat.reduceLT, Nat.reduceAdd, Nat.reduceSub, Nat.reduceMul, Nat.reduceEqDiff, Nat.reduceLeDiff, Nat.reduceBEq, reduceIte, reduceCtorEq, preW, St.work, RawM.v]) ⟨rfl, rfl⟩
    · rw [if_neg (by rintro ⟨e1, e2⟩; rcases h2 with h2 | h2 <;> simp [e1, e2] at h2)]
      refine ⟨by omega, call_w (notedR_c { x with i := x.i ++ (someV M g 1).2.1 } M.t M.y (someV M g 1).2.2) [0, 1, 2, 4] (by simp (maxSteps := 4000000) only [push_cast, Int.reduceEq, Int.reduceBNe, Int.reduceBEq, Int.reduceAdd, Int.reduceSub, Int.reduceMul, Int.reduceNeg, Int.reduceLT, Int.reduceLE, Int.reduceToNat, Nat.reduceLT, Nat.reduceAdd, Nat.reduceSub, Nat.reduceMul, Nat.reduceEqDiff, Nat.reduceLeDiff, Nat.reduceBEq, reduceIte, reduceCtorEq, St.work]) ?_⟩
      rintro sv post ⟨rfl, rfl⟩
      simp (maxSteps := 4000000) only [push_cast, Int.reduceEq, Int.reduceBNe, Int.reduceBEq, Int.reduceAdd, Int.reduceSub, Int.reduceMul, Int.reduceNeg, Int.reduceLT, Int.reduceLE, Int.reduceToNat, Nat.reduceLT, Nat.reduceAdd, Nat.reduceSub, Nat.reduceMul, Nat.reduceEqDiff, Nat.reduceLeDiff, Nat.reduceBEq, reduceIte, reduceCtorEq, St.work]
      exact Fin.w [0, 1, 2, 4] (.i .i64 _) _ (by simp (maxSteps := 4000000) only [push_cast, Int.reduceEq, Int.reduceBNe, Int.reduceBEq, Int.reduceAdd, Int.reduceSub, Int.reduceMul, Int.reduceNeg, Int.reduceLT, Int.reduceLE, Int.reduceToNat, Nat.reduceLT, Nat.reduceAdd, Nat.reduceSub, Nat.reduceMul, Nat.reduceEqDiff, Nat.reduceLeDiff, Nat.reduceBEq, reduceIte, reduceCtorEq, preW, St.work, RawM.v]) ⟨rfl, rfl⟩
  · have ha : askV x.m x.s = x.s := by unfold askV; rw [if_neg h1]
    rw [ha] at hl' ⊢
    refine call_w (someR_c M hR g hg x.s (by omega) (by omega)) [1] (by simp (maxSteps := 4000000) only [push_cast, Int.reduceEq, Int.reduceBNe, Int.reduceBEq, Int.reduceAdd, Int.reduceSub, Int.reduceMul, Int.reduceNeg, Int.reduceLT, Int.reduceLE, Int.reduceToNat, Nat.reduceLT, Nat.reduceAdd, Nat.reduceSub, Nat.reduceMul, Nat.reduceEqDiff, Nat.reduceLeDiff, Nat.reduceBEq, reduceIte, reduceCtorEq, RawM.v]) ?_
    rintro sv post ⟨rfl, rfl⟩
    simp (maxSteps := 4000000) only [push_cast, Int.reduceEq, Int.reduceBNe, Int.reduceBEq, Int.reduceAdd, Int.reduceSub, Int.reduceMul, Int.reduceNeg, Int.reduceLT, Int.reduceLE, Int.reduceToNat, Nat.reduceLT, Nat.reduceAdd, Nat.reduceSub, Nat.reduceMul, Nat.reduceEqDiff, Nat.reduceLeDiff, Nat.reduceBEq, reduceIte, reduceCtorEq]
    refine ⟨fun h2 => ?_, fun h2 => ?_⟩
    · rw [if_pos ⟨h2.1, by have := h2.2; simpa using this⟩]
      exact Fin.w [0, 1, 2, 3] (.i .i64 _) _ (by simp (maxSteps := 4000000) only [push_cast, Int.reduceEq, Int.reduceBNe, Int.reduceBEq, Int.reduceAdd, Int.reduceSub, Int.reduceMul, Int.reduceNeg, Int.reduceLT, Int.reduceLE, Int.reduceToNat, Nat.reduceLT, Nat.reduceAdd, Nat.reduceSub, Nat.reduceMul, Nat.reduceEqDiff, Nat.reduceLeDiff, Nat.reduceBEq, reduceIte, reduceCtorEq, preW, St.work, RawM.v]) ⟨rfl, rfl⟩
    · rw [if_neg (by rintro ⟨e1, e2⟩; rcases h2 with h2 | h2 <;> simp [e1, e2] at h2)]
      refine ⟨by omega, call_w (notedR_c { x with i := x.i ++ (someV M g x.s).2.1 } M.t M.y (someV M g x.s).2.2) [0, 1, 2, 4] (by simp (maxSteps := 4000000) only [push_cast, Int.reduceEq, Int.reduceBNe, Int.reduceBEq, Int.reduceAdd, Int.reduceSub, Int.reduceMul, Int.reduceNeg, Int.reduceLT, Int.reduceLE, Int.reduceToNat, Nat.reduceLT, Nat.reduceAdd, Nat.reduceSub, Nat.reduceMul, Nat.reduceEqDiff, Nat.reduceLeDiff, Nat.reduceBEq, reduceIte, reduceCtorEq, St.work]) ?_⟩
      rintro sv post ⟨rfl, rfl⟩
      simp (maxSteps := 4000000) only [push_cast, Int.reduceEq, Int.reduceBNe, Int.reduceBEq, Int.reduceAdd, Int.reduceSub, Int.reduceMul, Int.reduceNeg, Int.reduceLT, Int.reduceLE, Int.reduceToNat, Nat.reduceLT, Nat.reduceAdd, Nat.reduceSub, Nat.reduceMul, Nat.reduceEqDiff, Nat.reduceLeDiff, Nat.reduceBEq, reduceIte, reduceCtorEq, St.work]
      exact Fin.w [0, 1, 2, 4] (.i .i64 _) _ (by simp (maxSteps := 4000000) only [push_cast, Int.reduceEq, Int.reduceBNe, Int.reduceBEq, Int.reduceAdd, Int.reduceSub, Int.reduceMul, Int.reduceNeg, Int.reduceLT, Int.reduceLE, Int.reduceToNat, Nat.reduceLT, Nat.reduceAdd, Nat.reduceSub, Nat.reduceMul, Nat.reduceEqDiff, Nat.reduceLeDiff, Nat.reduceBEq, reduceIte, reduceCtorEq, preW, St.work, RawM.v]) ⟨rfl, rfl⟩

/-- A byte is got: the state, the Raw, the byte, the error. -/
def St.get (M : RawM) (x : St) (g : M.σ) : St × M.σ × Int × Int :=
  if x.r = false then (x, g, 0, 65)
  else if x.d = 2 then (x, g, 0, 112)
  else if x.k ≠ [] then ({ x with d := 1, k := x.k.take (x.k.length - 1) }, g, x.k.getD (x.k.length - 1) 0, 0)
  else if x.i ≠ [] then ({ x with d := 1, i := x.i.drop 1 }, g, x.i.getD 0 0, 0)
  else
    (let z := ({ x with d := 1 } : St).fill M g
     if z.2.2 ≠ 0 then (z.1, z.2.1, 0, z.2.2) else ({ z.1 with i := z.1.i.drop 1 }, z.2.1, z.1.i.getD 0 0, 0))
/-- How get ends. -/
def isG (M : RawM) (r : St × M.σ × Int × Int) (sv : SV) (post : SS) : Prop := sv = .tup [.i .u8 r.2.2.1, .i .i64 r.2.2.2] ∧ post = preW M r.1 r.2.1

theorem fill_i (M : RawM) (x : St) (g : M.σ) (h : (x.fill M g).2.2 = 0) : (x.fill M g).1.i ≠ [] := by
  unfold St.fill at h ⊢
  split at h
  · simp at h
  · split at h
    · simp at h
    · rename_i h1 h2
      rw [if_neg h1, if_neg h2]
      simp only [St.noted] at h ⊢
      intro h3
      exact h2 ⟨h, (List.append_eq_nil_iff.1 h3).2⟩

theorem getW_c (M : RawM) (hR : M.Rd) (x : St) (g : M.σ) (hg : M.ok g) (hm : mayV x.m x.s = 0) (hi : x.i.length ≤ 1048576) (hk : x.k.length ≤ 1048576) :
    Contract Try.prog 85 (preW M x g) [.ptr 0 0] (isG M (x.get M g)) := by
  have z0 : ((0 : Nat) : Int) = 0 := rfl
  refine contract_ev Γok Try.func85 rfl rfl [] ?_
  simp (maxSteps := 4000000) only [push_cast, Int.reduceEq, Int.reduceBNe, Int.reduceBEq, Int.reduceAdd, Int.reduceSub, Int.reduceMul, Int.reduceNeg, Int.reduceLT, Int.reduceLE, Int.reduceToNat, Nat.reduceLT, Nat.reduceAdd, Nat.reduceSub, Nat.reduceMul, Nat.reduceEqDiff, Nat.reduceLeDiff, Nat.reduceBEq, reduceIte, reduceCtorEq, Try.f85, preW, St.work, RawM.v]
  unfold St.get
  refine ⟨fun h => ?_, fun h => ⟨fun h1 => ?_, fun h1 => ?_⟩⟩
  · rw [if_pos h]
    exact Fin.w [0, 1, 2, 3] (.tup [.i .u8 0, .i .i64 65]) _ (by simp (maxSteps := 4000000) only [push_cast, Int.reduceEq, Int.reduceBNe, Int.reduceBEq, Int.reduceAdd, Int.reduceSub, Int.reduceMul, Int.reduceNeg, Int.reduceLT, Int.reduceLE, Int.reduceToNat, Nat.reduceLT, Nat.reduceAdd, Nat.reduceSub, Nat.reduceMul, Nat.reduceEqDiff, Nat.reduceLeDiff, Nat.reduceBEq, reduceIte, reduceCtorEq, preW, St.work, RawM.v]) ⟨rfl, rfl⟩
  · rw [if_neg (by simp [h]), if_pos h1]
    exact Fin.w [0, 1, 2, 3] (.tup [.i .u8 0, .i .i64 112]) _ (by simp (maxSteps := 4000000) only [push_cast, Int.reduceEq, Int.reduceBNe, Int.reduceBEq, Int.reduceAdd, Int.reduceSub, Int.reduceMul, Int.reduceNeg, Int.reduceLT, Int.reduceLE, Int.reduceToNat, Nat.reduceLT, Nat.reduceAdd, Nat.reduceSub, Nat.reduceMul, Nat.reduceEqDiff, Nat.reduceLeDiff, Nat.reduceBEq, reduceIte, reduceCtorEq, preW, St.work, RawM.v]) ⟨rfl, rfl⟩
  rw [if_neg (by simp [h]), if_neg h1]
  refine ⟨fun h2 => ?_, fun h2 => ?_⟩
  · rw [if_pos (by rintro e; rw [e] at h2; simp at h2)]
    rw [wrap64 (n := (x.k.length : Int) - 1) (by omega) (by omega)]
    refine ⟨by omega, by omega, ?_⟩
    have e1 : ((x.k.length : Int) - 1).toNat = x.k.length - 1 := by omega
    rw [e1]
    exact Fin.w [0, 1, 2, 3] (.tup [.i .u8 _, .i .i64 0]) _ (by simp (maxSteps := 4000000) only [push_cast, Int.reduceEq, Int.reduceBNe, Int.reduceBEq, Int.reduceAdd, Int.reduceSub, Int.reduceMul, Int.reduceNeg, Int.reduceLT, Int.reduceLE, Int.reduceToNat, Nat.reduceLT, Nat.reduceAdd, Nat.reduceSub, Nat.reduceMul, Nat.reduceEqDiff, Nat.reduceLeDiff, Nat.reduceBEq, reduceIte, reduceCtorEq, preW, St.work, RawM.v]) ⟨rfl, rfl⟩
  · have hkn : x.k = [] := by
      have : x.k.length = 0 := by omega
      simpa using this
    rw [if_neg (by simp [hkn])]
    refine ⟨fun h3 => ?_, fun h3 => ?_⟩
    · have hin : x.i = [] := by
        have : x.i.length = 0 := by omega
        simpa using this
      rw [if_neg (by simp [hin])]
      refine call_w (fillW_c M hR { x with d := 1 } g hg hm hi) [0, 1, 2, 3] (by simp (maxSteps := 4000000) only [push_cast, Int.reduceEq, Int.reduceBNe, Int.reduceBEq, Int.reduceAdd, Int.reduceSub, Int.reduceMul, Int.reduceNeg, Int.reduceLT, Int.reduceLE, Int.reduceToNat, Nat.reduceLT, Nat.reduceAdd, Nat.reduceSub, Nat.reduceMul, Nat.reduceEqDiff, Nat.reduceLeDiff, Nat.reduceBEq, reduceIte, reduceCtorEq, preW, St.work, RawM.v]) ?_
      rintro sv post ⟨rfl, rfl⟩
      have hz := fill_i M { x with d := 1 } g
      generalize ({ x with d := 1 } : St).fill M g = z at *
      simp (maxSteps := 4000000) only [push_cast, Int.reduceEq, Int.reduceBNe, Int.reduceBEq, Int.reduceAdd, Int.reduceSub, Int.reduceMul, Int.reduceNeg, Int.reduceLT, Int.reduceLE, Int.reduceToNat, Nat.reduceLT, Nat.reduceAdd, Nat.reduceSub, Nat.reduceMul, Nat.reduceEqDiff, Nat.reduceLeDiff, Nat.reduceBEq, reduceIte, reduceCtorEq, preW, St.work, RawM.v]
      refine ⟨fun h4 => ?_, fun h4 => ?_⟩
      · rw [if_pos h4]
        exact Fin.w [0, 1, 4, 5] (.tup [.i .u8 0, .i .i64 _]) _ (by simp (maxSteps := 4000000) only [push_cast, Int.reduceEq, Int.reduceBNe, Int.reduceBEq, Int.reduceAdd, Int.reduceSub, Int.reduceMul, Int.reduceNeg, Int.reduceLT, Int.reduceLE, Int.reduceToNat, Nat.reduceLT, Nat.reduceAdd, Nat.reduceSub, Nat.reduceMul, Nat.reduceEqDiff, Nat.reduceLeDiff, Nat.reduceBEq, reduceIte, reduceCtorEq, preW, St.work, RawM.v]) ⟨rfl, rfl⟩
      · rw [if_neg (by omega)]
        have hne := hz h4
        have hpos : 0 < z.1.i.length := List.length_pos_iff.2 hne
        refine ⟨by omega, by omega, ?_⟩
        exact Fin.w [0, 1, 4, 5] (.tup [.i .u8 _, .i .i64 0]) _ (by simp (maxSteps := 4000000) only [push_cast, Int.reduceEq, Int.reduceBNe, Int.reduceBEq, Int.reduceAdd, Int.reduceSub, Int.reduceMul, Int.reduceNeg, Int.reduceLT, Int.reduceLE, Int.reduceToNat, Nat.reduceLT, Nat.reduceAdd, Nat.reduceSub, Nat.reduceMul, Nat.reduceEqDiff, Nat.reduceLeDiff, Nat.reduceBEq, reduceIte, reduceCtorEq, preW, St.work, RawM.v]; try exact ⟨rfl, rfl⟩) ⟨rfl, rfl⟩
    · have hpos : 0 < x.i.length := by omega
      rw [if_pos (List.length_pos_iff.1 hpos)]
      refine ⟨by omega, by omega, ?_⟩
      exact Fin.w [0, 1, 2, 3] (.tup [.i .u8 _, .i .i64 0]) _ (by simp (maxSteps := 4000000) only [push_cast, Int.reduceEq, Int.reduceBNe, Int.reduceBEq, Int.reduceAdd, Int.reduceSub, Int.reduceMul, Int.reduceNeg, Int.reduceLT, Int.reduceLE, Int.reduceToNat, Nat.reduceLT, Nat.reduceAdd, Nat.reduceSub, Nat.reduceMul, Nat.reduceEqDiff, Nat.reduceLeDiff, Nat.reduceBEq, reduceIte, reduceCtorEq, preW, St.work, RawM.v]; try exact ⟨rfl, rfl⟩) ⟨rfl, rfl⟩
end Go.Proofs.Ytciokebdmnaobaa
/- A call on a stream begins. -/
namespace Go.Proofs.Ytciokebdmnaobaa
open Go Go.Eng
set_option maxHeartbeats 4000000
set_option linter.unusedSimpArgs false
set_option linter.unusedVariables false
set_option maxRecDepth 100000

theorem rg8 : List.range 8 = [0, 1, 2, 3, 4, 5, 6, 7] := rfl
theorem rg11 : List.range 11 = [0, 1, 2, 3, 4, 5, 6, 7, 8, 9, 10] := rfl

theorem buffer_c (m s : Int) : Contract Try.prog 42 nilSS [.i .i64 m, .i .i64 s] (fun sv post => sv = .i .i64 (mayV m s) ∧ post = nilSS) := by
  refine contract_ev Γok Try.func42 rfl rfl [] ?_
  simp (maxSteps := 4000000) only [push_cast, Int.reduceEq, Int.reduceBNe, Int.reduceBEq, Int.reduceAdd, Int.reduceSub, Int.reduceMul, Int.reduceNeg, Int.reduceLT, Int.reduceLE, Int.reduceToNat, Nat.reduceLT, Nat.reduceAdd, Nat.reduceSub, Nat.reduceMul, Nat.reduceEqDiff, Nat.reduceLeDiff, Nat.reduceBEq, reduceIte, reduceCtorEq, Try.f42]
  refine ⟨fun h1 => ?_, fun h1 => ⟨fun h2 => ?_, fun h2 => ?_⟩⟩ <;> refine Fin.nil rfl (psv := .i .i64 _) ⟨rfl, rfl⟩ ⟨?_, rfl⟩ <;> unfold mayV
  · rw [if_pos h1]
  · rw [if_neg (by omega), if_pos h2]
  · rw [if_neg (by omega), if_neg (by omega)]

/-- A state may be. -/
def St.May (x : St) : Prop :=
  mayV x.m x.s = 0 ∧ x.o.length ≤ x.s ∧ (¬ x.m = 1 ∨ x.o.length = 0) ∧ x.i.length ≤ 65536 ∧ x.k.length ≤ 8 ∧ (x.cl = false ∨ x.d = 0) ∧
    ((x.d = 0 ∧ x.o.length = 0 ∧ x.i.length = 0 ∧ x.k.length = 0) ∨ (x.d = 1 ∧ x.r = true ∧ x.o.length = 0) ∨ (x.d = 2 ∧ x.w = true ∧ x.i.length = 0 ∧ x.k.length = 0))
instance (x : St) : Decidable x.May := by unfold St.May; infer_instance
/-- Its slices are of a machine's size. -/
structure St.fits (x : St) : Prop where
  o : x.o.length ≤ 140737488355328
  i : x.i.length ≤ 140737488355328
  k : x.k.length ≤ 140737488355328

theorem int_beq0 (n : Nat) : ((n : Int) == 0) = (n == 0) := by
  rw [Bool.eq_iff_iff]; simp

theorem checkR_c (x : St) (hx : x.fits) : Contract Try.prog 30 nilSS [x.sv .old] (fun sv post => sv = .i .i64 (if x.May then 0 else 51) ∧ post = nilSS) := by
  obtain ⟨ho, hi, hk⟩ := hx
  refine contract_ev Γok Try.func30 rfl rfl [] ?_
  simp (maxSteps := 4000000) only [push_cast, Int.reduceEq, Int.reduceBNe, Int.reduceBEq, Int.reduceAdd, Int.reduceSub, Int.reduceMul, Int.reduceNeg, Int.reduceLT, Int.reduceLE, Int.reduceToNat, Nat.reduceLT, Nat.reduceAdd, Nat.reduceSub, Nat.reduceMul, Nat.reduceEqDiff, Nat.reduceLeDiff, Nat.reduceBEq, reduceIte, reduceCtorEq, Try.f30, rg11, St.sv, St.cells]
  refine call_w (buffer_c x.m x.s) [] (by simp (maxSteps := 4000000) only [push_cast, Int.reduceEq, Int.reduceBNe, Int.reduceBEq, Int.reduceAdd, Int.reduceSub, Int.reduceMul, Int.reduceNeg, Int.reduceLT, Int.reduceLE, Int.reduceToNat, Nat.reduceLT, Nat.reduceAdd, Nat.reduceSub, Nat.reduceMul, Nat.reduceEqDiff, Nat.reduceLeDiff, Nat.reduceBEq, reduceIte, reduceCtorEq]) ?_
  rintro sv post ⟨rfl, rfl⟩
  simp (maxSteps := 4000000) only [push_cast, Int.reduceEq, Int.reduceBNe, Int.reduceBEq, Int.reduceAdd, Int.reduceSub, Int.reduceMul, Int.reduceNeg, Int.reduceLT, Int.reduceLE, Int.reduceToNat, Nat.reduceLT, Nat.reduceAdd, Nat.reduceSub, Nat.reduceMul, Nat.reduceEqDiff, Nat.reduceLeDiff, Nat.reduceBEq, reduceIte, reduceCtorEq]
  rw [wrap64 (n := (x.i.length : Int) + x.k.length) (by omega) (by omega)]
  rw [wrap64 (n := (x.o.length : Int) + (x.i.length + x.k.length)) (by omega) (by omega)]
  have no : ∀ (S : SS), S.k = 0 → ¬ x.May → Fin (fun sv post => sv = .i .i64 (if x.May then 0 else 51) ∧ post = nilSS) (.i .i64 51) S := fun S hS hP =>
    Fin.nil hS (psv := .i .i64 51) ⟨rfl, rfl⟩ ⟨by rw [if_neg hP], rfl⟩
  have yes : ∀ (S : SS), S.k = 0 → x.May → Fin (fun sv post => sv = .i .i64 (if x.May then 0 else 51) ∧ post = nilSS) (.i .i64 0) S := fun S hS hP =>
    Fin.nil hS (psv := .i .i64 0) ⟨rfl, rfl⟩ ⟨by rw [if_pos hP], rfl⟩
  unfold St.May at no yes ⊢
  refine ⟨fun hd => ⟨fun h => no _ rfl ?_, fun h => yes _ rfl ?_⟩, fun hd => ⟨fun hd1 => ⟨fun h => no _ rfl ?_, fun h => yes _ rfl ?_⟩, fun hd1 => ⟨fun hd2 => ⟨fun h => no _ rfl ?_, fun h => yes _ rfl ?_⟩, fun hd2 => no _ rfl ?_⟩⟩⟩
  all_goals grind

/-- What a call begins with. -/
def St.bErr (x : St) : Int := if x.May then (if x.cl = true then 113 else 0) else 51
def isB (x : St) (v : SV) (e : Int) (sv : SV) (post : SS) : Prop := sv = .tup [.ptr 0 0, .i .i64 e] ∧ post = ⟨[], [(0, 124, x.work v)], [2, 3], [], 4, 0, []⟩

theorem beginR_c (x : St) (hx : x.fits) (t : TypeId) (y : Value) : Contract Try.prog 50 nilSS [x.sv .old, .ifc t (.raw y)] (isB x (.ifc t (.raw y)) x.bErr) := by
  have hx' := hx
  obtain ⟨ho, hi, hk⟩ := hx'
  refine contract_ev Γok Try.func50 rfl rfl [] ?_
  simp (maxSteps := 4000000) only [push_cast, Int.reduceEq, Int.reduceBNe, Int.reduceBEq, Int.reduceAdd, Int.reduceSub, Int.reduceMul, Int.reduceNeg, Int.reduceLT, Int.reduceLE, Int.reduceToNat, Nat.reduceLT, Nat.reduceAdd, Nat.reduceSub, Nat.reduceMul, Nat.reduceEqDiff, Nat.reduceLeDiff, Nat.reduceBEq, reduceIte, reduceCtorEq, Try.f50, rg11, St.sv, St.cells]
  refine (region_plan rfl Γok mixed (.pure 0 (.pure 1 (.pure 2 (.pure 3 (.pure 4 (.pure 6 (.pure 7 (.pure 9 (.pure 10 (.eff (.cons 5 [7, 10] (.eff (.cons 8 [10] (.eff (.cons 11 [] (.pure 12 (.pure 13 (.pure 14 (.eff (.cons 15 [] (.pure 16 (.pure 17 (.pure 18 (.eff (.cons 19 [] (.pure 20 (.pure 21 (.pure 22 (.eff (.cons 23 [] .done .nil))))) .nil))))) .nil))))) .nil)) .nil)) .nil))))))))))) 49 rfl (by kernel_rfl) ?_)
  simp (maxSteps := 4000000) only [push_cast, Int.reduceEq, Int.reduceBNe, Int.reduceBEq, Int.reduceAdd, Int.reduceSub, Int.reduceMul, Int.reduceNeg, Int.reduceLT, Int.reduceLE, Int.reduceToNat, Nat.reduceLT, Nat.reduceAdd, Nat.reduceSub, Nat.reduceMul, Nat.reduceEqDiff, Nat.reduceLeDiff, Nat.reduceBEq, reduceIte, reduceCtorEq]
  refine call_w (bclone_c x.o ho) [] (by simp (maxSteps := 4000000) only [push_cast, Int.reduceEq, Int.reduceBNe, Int.reduceBEq, Int.reduceAdd, Int.reduceSub, Int.reduceMul, Int.reduceNeg, Int.reduceLT, Int.reduceLE, Int.reduceToNat, Nat.reduceLT, Nat.reduceAdd, Nat.reduceSub, Nat.reduceMul, Nat.reduceEqDiff, Nat.reduceLeDiff, Nat.reduceBEq, reduceIte, reduceCtorEq]) ?_
  rintro sv post ⟨rfl, rfl⟩
  simp (maxSteps := 4000000) only [push_cast, Int.reduceEq, Int.reduceBNe, Int.reduceBEq, Int.reduceAdd, Int.reduceSub, Int.reduceMul, Int.reduceNeg, Int.reduceLT, Int.reduceLE, Int.reduceToNat, Nat.reduceLT, Nat.reduceAdd, Nat.reduceSub, Nat.reduceMul, Nat.reduceEqDiff, Nat.reduceLeDiff, Nat.reduceBEq, reduceIte, reduceCtorEq]
  refine call_w (bclone_c x.i hi) [] (by simp (maxSteps := 4000000) only [push_cast, Int.reduceEq, Int.reduceBNe, Int.reduceBEq, Int.reduceAdd, Int.reduceSub, Int.reduceMul, Int.reduceNeg, Int.reduceLT, Int.reduceLE, Int.reduceToNat, Nat.reduceLT, Nat.reduceAdd, Nat.reduceSub, Nat.reduceMul, Nat.reduceEqDiff, Nat.reduceLeDiff, Nat.reduceBEq, reduceIte, reduceCtorEq]) ?_
  rintro sv post ⟨rfl, rfl⟩
  simp (maxSteps := 4000000) only [push_cast, Int.reduceEq, Int.reduceBNe, Int.reduceBEq, Int.reduceAdd, Int.reduceSub, Int.reduceMul, Int.reduceNeg, Int.reduceLT, Int.reduceLE, Int.reduceToNat, Nat.reduceLT, Nat.reduceAdd, Nat.reduceSub, Nat.reduceMul, Nat.reduceEqDiff, Nat.reduceLeDiff, Nat.reduceBEq, reduceIte, reduceCtorEq]
  refine call_w (bclone_c x.k hk) [] (by simp (maxSteps := 4000000) only [push_cast, Int.reduceEq, Int.reduceBNe, Int.reduceBEq, Int.reduceAdd, Int.reduceSub, Int.reduceMul, Int.reduceNeg, Int.reduceLT, Int.reduceLE, Int.reduceToNat, Nat.reduceLT, Nat.reduceAdd, Nat.reduceSub, Nat.reduceMul, Nat.reduceEqDiff, Nat.reduceLeDiff, Nat.reduceBEq, reduceIte, reduceCtorEq]) ?_
  rintro sv post ⟨rfl, rfl⟩
  simp (maxSteps := 4000000) only [push_cast, Int.reduceEq, Int.reduceBNe, Int.reduceBEq, Int.reduceAdd, Int.reduceSub, Int.reduceMul, Int.reduceNeg, Int.reduceLT, Int.reduceLE, Int.reduceToNat, Nat.reduceLT, Nat.reduceAdd, Nat.reduceSub, Nat.reduceMul, Nat.reduceEqDiff, Nat.reduceLeDiff, Nat.reduceBEq, reduceIte, reduceCtorEq, rg11]
  refine call_w (checkR_c x hx) [] (by simp (maxSteps := 4000000) only [push_cast, Int.reduceEq, Int.reduceBNe, Int.reduceBEq, Int.reduceAdd, Int.reduceSub, Int.reduceMul, Int.reduceNeg, Int.reduceLT, Int.reduceLE, Int.reduceToNat, Nat.reduceLT, Nat.reduceAdd, Nat.reduceSub, Nat.reduceMul, Nat.reduceEqDiff, Nat.reduceLeDiff, Nat.reduceBEq, reduceIte, reduceCtorEq, St.sv, St.cells]) ?_
  rintro sv post ⟨rfl, rfl⟩
  simp (maxSteps := 4000000) only [push_cast, Int.reduceEq, Int.reduceBNe, Int.reduceBEq, Int.reduceAdd, Int.reduceSub, Int.reduceMul, Int.reduceNeg, Int.reduceLT, Int.reduceLE, Int.reduceToNat, Nat.reduceLT, Nat.reduceAdd, Nat.reduceSub, Nat.reduceMul, Nat.reduceEqDiff, Nat.reduceLeDiff, Nat.reduceBEq, reduceIte, reduceCtorEq]
  unfold St.bErr
  refine ⟨fun h => ?_, fun h => ⟨fun h1 => ?_, fun h1 => ?_⟩⟩
  · have hm : ¬ x.May := fun hm => h (by rw [if_pos hm])
    rw [if_neg hm, if_neg hm]
    exact Fin.w [1, 4, 2, 3] (.tup [.ptr 0 0, .i .i64 51]) _ (by simp (maxSteps := 4000000) only [push_cast, Int.reduceEq, Int.reduceBNe, Int.reduceBEq, Int.reduceAdd, Int.reduceSub, Int.reduceMul, Int.reduceNeg, Int.reduceLT, Int.reduceLE, Int.reduceToNat, Nat.reduceLT, Nat.reduceAdd, Nat.reduceSub, Nat.reduceMul, Nat.reduceEqDiff, Nat.reduceLeDiff, Nat.reduceBEq, reduceIte, reduceCtorEq, St.work]) ⟨rfl, rfl⟩
  · have hm : x.May := by
      by_cases hm : x.May
      · exact hm
      · rw [if_neg hm] at h; omega
    rw [if_pos hm, if_pos h1]
    exact Fin.w [1, 4, 2, 3] (.tup [.ptr 0 0, .i .i64 113]) _ (by simp (maxSteps := 4000000) only [push_cast, Int.reduceEq, Int.reduceBNe, Int.reduceBEq, Int.reduceAdd, Int.reduceSub, Int.reduceMul, Int.reduceNeg, Int.reduceLT, Int.reduceLE, Int.reduceToNat, Nat.reduceLT, Nat.reduceAdd, Nat.reduceSub, Nat.reduceMul, Nat.reduceEqDiff, Nat.reduceLeDiff, Nat.reduceBEq, reduceIte, reduceCtorEq, St.work]) ⟨rfl, rfl⟩
  · have hm : x.May := by
      by_cases hm : x.May
      · exact hm
      · rw [if_neg hm] at h; omega
    rw [if_pos hm, if_neg (by simp [h1])]
    exact Fin.w [1, 4, 2, 3] (.tup [.ptr 0 0, .i .i64 0]) _ (by simp (maxSteps := 4000000) only [push_cast, Int.reduceEq, Int.reduceBNe, Int.reduceBEq, Int.reduceAdd, Int.reduceSub, Int.reduceMul, Int.reduceNeg, Int.reduceLT, Int.reduceLE, Int.reduceToNat, Nat.reduceLT, Nat.reduceAdd, Nat.reduceSub, Nat.reduceMul, Nat.reduceEqDiff, Nat.reduceLeDiff, Nat.reduceBEq, reduceIte, reduceCtorEq, St.work]) ⟨rfl, rfl⟩
end Go.Proofs.Ytciokebdmnaobaa
/- The calls on a stream. -/
namespace Go.Proofs.Ytciokebdmnaobaa
open Go Go.Eng
set_option maxHeartbeats 4000000
set_option linter.unusedSimpArgs false
set_option linter.unusedVariables false
set_option maxRecDepth 100000

theorem bErr_zero {x : St} (h : x.bErr = 0) : x.May ∧ x.cl = false := by
  unfold St.bErr at h
  split at h
  · rename_i hm
    refine ⟨hm, ?_⟩
    split at h
    · omega
    · rename_i hc; simpa using hc
  · omega
theorem May.bd {x : St} (h : x.May) : mayV x.m x.s = 0 ∧ x.o.length ≤ 65536 ∧ x.i.length ≤ 65536 ∧ x.k.length ≤ 8 := by
  obtain ⟨h1, h2, h3, h4, h5, h6, h7⟩ := h
  have := may_zero' h1
  exact ⟨h1, by omega, h4, h5⟩

def St.Put (M : RawM) (x : St) (g : M.σ) (c : Int) : St × M.σ × Int := if x.bErr ≠ 0 then (x, g, x.bErr) else x.put M g c
def St.Get (M : RawM) (x : St) (g : M.σ) : St × M.σ × Int × Int := if x.bErr ≠ 0 then (x, g, 0, x.bErr) else x.get M g
def St.Flush (M : RawM) (x : St) (g : M.σ) : St × M.σ × Int :=
  if x.bErr ≠ 0 then (x, g, x.bErr)
  else if x.d = 2 then (if (x.deliver M g).2.2 = 0 then ({ (x.deliver M g).1 with d := 0 }, (x.deliver M g).2.1, 0) else x.deliver M g)
  else (x, g, 0)
def St.Close (M : RawM) (x : St) (g : M.σ) : St × M.σ × Int :=
  if x.bErr ≠ 0 then (x, g, x.bErr)
  else ({ (x.deliver M g).1 with o := [], i := [], k := [], d := 0, cl := true }, (x.deliver M g).2.1, (x.deliver M g).2.2)
/-- How a call ends: the state that follows, an error. -/
def isS (M : RawM) (r : St × M.σ × Int) (sv : SV) (post : SS) : Prop := sv = .tup [r.1.sv .new, .i .i64 r.2.2] ∧ post = preR (M.res r.2.1)
def isSB (M : RawM) (r : St × M.σ × Int × Int) (sv : SV) (post : SS) : Prop := sv = .tup [r.1.sv .new, .i .u8 r.2.2.1, .i .i64 r.2.2.2] ∧ post = preR (M.res r.2.1)

theorem GetR_c (M : RawM) (hR : M.Rd) (x : St) (g : M.σ) (hg : M.ok g) (hx : x.fits) : Contract Try.prog 59 (preR (M.res g)) [x.sv .old, M.v] (isSB M (x.Get M g)) := by
  refine contract_ev Γok Try.func59 rfl rfl [] ?_
  simp (maxSteps := 4000000) only [push_cast, Int.reduceEq, Int.reduceBNe, Int.reduceBEq, Int.reduceAdd, Int.reduceSub, Int.reduceMul, Int.reduceNeg, Int.reduceLT, Int.reduceLE, Int.reduceToNat, Nat.reduceLT, Nat.reduceAdd, Nat.reduceSub, Nat.reduceMul, Nat.reduceEqDiff, Nat.reduceLeDiff, Nat.reduceBEq, reduceIte, reduceCtorEq, Try.f59, RawM.v, St.sv, St.cells, rg11]
  refine call_w (beginR_c x hx M.t M.y) [] (by simp (maxSteps := 4000000) only [push_cast, Int.reduceEq, Int.reduceBNe, Int.reduceBEq, Int.reduceAdd, Int.reduceSub, Int.reduceMul, Int.reduceNeg, Int.reduceLT, Int.reduceLE, Int.reduceToNat, Nat.reduceLT, Nat.reduceAdd, Nat.reduceSub, Nat.reduceMul, Nat.reduceEqDiff, Nat.reduceLeDiff, Nat.reduceBEq, reduceIte, reduceCtorEq, St.sv, St.cells]) ?_
  rintro sv post ⟨rfl, rfl⟩
  simp (maxSteps := 4000000) only [push_cast, Int.reduceEq, Int.reduceBNe, Int.reduceBEq, Int.reduceAdd, Int.reduceSub, Int.reduceMul, Int.reduceNeg, Int.reduceLT, Int.reduceLE, Int.reduceToNat, Nat.reduceLT, Nat.reduceAdd, Nat.reduceSub, Nat.reduceMul, Nat.reduceEqDiff, Nat.reduceLeDiff, Nat.reduceBEq, reduceIte, reduceCtorEq]
  unfold St.Get
  refine ⟨fun h => ?_, fun h => ?_⟩
  · rw [if_pos h]
    simp (maxSteps := 4000000) only [push_cast, Int.reduceEq, Int.reduceBNe, Int.reduceBEq, Int.reduceAdd, Int.reduceSub, Int.reduceMul, Int.reduceNeg, Int.reduceLT, Int.reduceLE, Int.reduceToNat, Nat.reduceLT, Nat.reduceAdd, Nat.reduceSub, Nat.reduceMul, Nat.reduceEqDiff, Nat.reduceLeDiff, Nat.reduceBEq, reduceIte, reduceCtorEq, St.work, rg11]
    exact Fin.w [0] (.tup [x.sv .new, .i .u8 0, .i .i64 _]) _ (by simp (maxSteps := 4000000) only [push_cast, Int.reduceEq, Int.reduceBNe, Int.reduceBEq, Int.reduceAdd, Int.reduceSub, Int.reduceMul, Int.reduceNeg, Int.reduceLT, Int.reduceLE, Int.reduceToNat, Nat.reduceLT, Nat.reduceAdd, Nat.reduceSub, Nat.reduceMul, Nat.reduceEqDiff, Nat.reduceLeDiff, Nat.reduceBEq, reduceIte, reduceCtorEq, St.sv, St.cells]) ⟨rfl, rfl⟩
  · rw [if_neg (by omega)]
    obtain ⟨hm, hc⟩ := bErr_zero h
    obtain ⟨b1, b2, b3, b4⟩ := May.bd hm
    refine call_w (getW_c M hR x g hg b1 (by omega) (by omega)) [3, 0, 5, 6] (by simp (maxSteps := 4000000) only [push_cast, Int.reduceEq, Int.reduceBNe, Int.reduceBEq, Int.reduceAdd, Int.reduceSub, Int.reduceMul, Int.reduceNeg, Int.reduceLT, Int.reduceLE, Int.reduceToNat, Nat.reduceLT, Nat.reduceAdd, Nat.reduceSub, Nat.reduceMul, Nat.reduceEqDiff, Nat.reduceLeDiff, Nat.reduceBEq, reduceIte, reduceCtorEq, preW, St.work, RawM.v]) ?_
    rintro sv post ⟨rfl, rfl⟩
    simp (maxSteps := 4000000) only [push_cast, Int.reduceEq, Int.reduceBNe, Int.reduceBEq, Int.reduceAdd, Int.reduceSub, Int.reduceMul, Int.reduceNeg, Int.reduceLT, Int.reduceLE, Int.reduceToNat, Nat.reduceLT, Nat.reduceAdd, Nat.reduceSub, Nat.reduceMul, Nat.reduceEqDiff, Nat.reduceLeDiff, Nat.reduceBEq, reduceIte, reduceCtorEq, preW, St.work, rg11]
    exact Fin.w [0] (.tup [(x.get M g).1.sv .new, .i .u8 _, .i .i64 _]) _ (by simp (maxSteps := 4000000) only [push_cast, Int.reduceEq, Int.reduceBNe, Int.reduceBEq, Int.reduceAdd, Int.reduceSub, Int.reduceMul, Int.reduceNeg, Int.reduceLT, Int.reduceLE, Int.reduceToNat, Nat.reduceLT, Nat.reduceAdd, Nat.reduceSub, Nat.reduceMul, Nat.reduceEqDiff, Nat.reduceLeDiff, Nat.reduceBEq, reduceIte, reduceCtorEq, St.sv, St.cells]) ⟨rfl, rfl⟩

theorem FlushR_c (M : RawM) (hW : M.Wr) (x : St) (g : M.σ) (hg : M.ok g) (hx : x.fits) (hr : x.o.length ≤ M.rm g) : Contract Try.prog 33 (preR (M.res g)) [x.sv .old, M.v] (isS M (x.Flush M g)) := by
  refine contract_ev Γok Try.func33 rfl rfl [] ?_
  simp (maxSteps := 4000000) only [push_cast, Int.reduceEq, Int.reduceBNe, Int.reduceBEq, Int.reduceAdd, Int.reduceSub, Int.reduceMul, Int.reduceNeg, Int.reduceLT, Int.reduceLE, Int.reduceToNat, Nat.reduceLT, Nat.reduceAdd, Nat.reduceSub, Nat.reduceMul, Nat.reduceEqDiff, Nat.reduceLeDiff, Nat.reduceBEq, reduceIte, reduceCtorEq, Try.f33, RawM.v, St.sv, St.cells, rg11]
  refine call_w (beginR_c x hx M.t M.y) [] (by simp (maxSteps := 4000000) only [push_cast, Int.reduceEq, Int.reduceBNe, Int.reduceBEq, Int.reduceAdd, Int.reduceSub, Int.reduceMul, Int.reduceNeg, Int.reduceLT, Int.reduceLE, Int.reduceToNat, Nat.reduceLT, Nat.reduceAdd, Nat.reduceSub, Nat.reduceMul, Nat.reduceEqDiff, Nat.reduceLeDiff, Nat.reduceBEq, reduceIte, reduceCtorEq, St.sv, St.cells]) ?_
  rintro sv post ⟨rfl, rfl⟩
  simp (maxSteps := 4000000) only [push_cast, Int.reduceEq, Int.reduceBNe, Int.reduceBEq, Int.reduceAdd, Int.reduceSub, Int.reduceMul, Int.reduceNeg, Int.reduceLT, Int.reduceLE, Int.reduceToNat, Nat.reduceLT, Nat.reduceAdd, Nat.reduceSub, Nat.reduceMul, Nat.reduceEqDiff, Nat.reduceLeDiff, Nat.reduceBEq, reduceIte, reduceCtorEq, St.work]
  unfold St.Flush
  refine ⟨fun h => ?_, fun h => ?_⟩
  · rw [if_neg (by omega), if_pos h.2]
    obtain ⟨hm, hc⟩ := bErr_zero h.1
    obtain ⟨b1, b2, b3, b4⟩ := May.bd hm
    refine call_w (deliverR_c M hW x g hg (by omega) hr) [3, 0, 5, 6] (by simp (maxSteps := 4000000) only [push_cast, Int.reduceEq, Int.reduceBNe, Int.reduceBEq, Int.reduceAdd, Int.reduceSub, Int.reduceMul, Int.reduceNeg, Int.reduceLT, Int.reduceLE, Int.reduceToNat, Nat.reduceLT, Nat.reduceAdd, Nat.reduceSub, Nat.reduceMul, Nat.reduceEqDiff, Nat.reduceLeDiff, Nat.reduceBEq, reduceIte, reduceCtorEq, preD, St.work, RawM.v]) ?_
    rintro sv post ⟨rfl, rfl⟩
    simp (maxSteps := 4000000) only [push_cast, Int.reduceEq, Int.reduceBNe, Int.reduceBEq, Int.reduceAdd, Int.reduceSub, Int.reduceMul, Int.reduceNeg, Int.reduceLT, Int.reduceLE, Int.reduceToNat, Nat.reduceLT, Nat.reduceAdd, Nat.reduceSub, Nat.reduceMul, Nat.reduceEqDiff, Nat.reduceLeDiff, Nat.reduceBEq, reduceIte, reduceCtorEq, preD, St.work, rg11]
    refine ⟨fun h2 => ?_, fun h2 => ?_⟩
    · rw [if_pos h2]
      exact Fin.w [0] (.tup [({ (x.deliver M g).1 with d := 0 } : St).sv .new, .i .i64 0]) _ (by simp (maxSteps := 4000000) only [push_cast, Int.reduceEq, Int.reduceBNe, Int.reduceBEq, Int.reduceAdd, Int.reduceSub, Int.reduceMul, Int.reduceNeg, Int.reduceLT, Int.reduceLE, Int.reduceToNat, Nat.reduceLT, Nat.reduceAdd, Nat.reduceSub, Nat.reduceMul, Nat.reduceEqDiff, Nat.reduceLeDiff, Nat.reduceBEq, reduceIte, reduceCtorEq, St.sv, St.cells, h2]) ⟨rfl, rfl⟩
    · rw [if_neg h2]
      exact Fin.w [0] (.tup [(x.deliver M g).1.sv .new, .i .i64 _]) _ (by simp (maxSteps := 4000000) only [push_cast, Int.reduceEq, Int.reduceBNe, Int.reduceBEq, Int.reduceAdd, Int.reduceSub, Int.reduceMul, Int.reduceNeg, Int.reduceLT, Int.reduceLE, Int.reduceToNat, Nat.reduceLT, Nat.reduceAdd, Nat.reduceSub, Nat.reduceMul, Nat.reduceEqDiff, Nat.reduceLeDiff, Nat.reduceBEq, reduceIte, reduceCtorEq, St.sv, St.cells]) ⟨rfl, rfl⟩
  · simp (maxSteps := 4000000) only [push_cast, Int.reduceEq, Int.reduceBNe, Int.reduceBEq, Int.reduceAdd, Int.reduceSub, Int.reduceMul, Int.reduceNeg, Int.reduceLT, Int.reduceLE, Int.reduceToNat, Nat.reduceLT, Nat.reduceAdd, Nat.reduceSub, Nat.reduceMul, Nat.reduceEqDiff, Nat.reduceLeDiff, Nat.reduceBEq, reduceIte, reduceCtorEq, rg11]
    by_cases hb : x.bErr = 0
    · rw [if_neg (by omega), if_neg (by omega), hb]
      exact Fin.w [0] (.tup [x.sv .new, .i .i64 _]) _ (by simp (maxSteps := 4000000) only [push_cast, Int.reduceEq, Int.reduceBNe, Int.reduceBEq, Int.reduceAdd, Int.reduceSub, Int.reduceMul, Int.reduceNeg, Int.reduceLT, Int.reduceLE, Int.reduceToNat, Nat.reduceLT, Nat.reduceAdd, Nat.reduceSub, Nat.reduceMul, Nat.reduceEqDiff, Nat.reduceLeDiff, Nat.reduceBEq, reduceIte, reduceCtorEq, St.sv, St.cells]) ⟨rfl, rfl⟩
    · rw [if_pos hb]
      exact Fin.w [0] (.tup [x.sv .new, .i .i64 _]) _ (by simp (maxSteps := 4000000) only [push_cast, Int.reduceEq, Int.reduceBNe, Int.reduceBEq, Int.reduceAdd, Int.reduceSub, Int.reduceMul, Int.reduceNeg, Int.reduceLT, Int.reduceLE, Int.reduceToNat, Nat.reduceLT, Nat.reduceAdd, Nat.reduceSub, Nat.reduceMul, Nat.reduceEqDiff, Nat.reduceLeDiff, Nat.reduceBEq, reduceIte, reduceCtorEq, St.sv, St.cells]) ⟨rfl, rfl⟩

end Go.Proofs.Ytciokebdmnaobaa
/- The modes that the laws open with may be opened with. -/
namespace Go.Proofs.Ytciokebdmnaobaa
open Go Go.Eng
set_option maxHeartbeats 4000000
set_option linter.unusedSimpArgs false
set_option linter.unusedVariables false
set_option maxRecDepth 100000

def lettersV : List (List SV) := [[.i .u8 43, .fn (.func 100) [] [], .fn (.func 101) [] []], [.i .u8 98, .fn (.func 102) [] [], .fn (.func 103) [] []], [.i .u8 120, .fn (.func 104) [] [], .fn (.func 105) [] []], [.i .u8 101, .fn (.func 106) [] [], .fn (.func 107) [] []]]
def modeV (r w a c t x b k : Bool) : SV := .agg [.b r, .b w, .b a, .b c, .b t, .b x, .b b, .b k]

theorem letters_c : Contract Try.prog 83 nilSS [] (fun sv post => sv = .sl 3 .new 4 (elOf lettersV) ∧ post = nilSS) := by
  refine contract_ev Γok Try.func83 rfl rfl [] ?_
  simp (maxSteps := 4000000) only [push_cast, Int.reduceEq, Int.reduceBNe, Int.reduceBEq, Int.reduceAdd, Int.reduceSub, Int.reduceMul, Int.reduceNeg, Int.reduceLT, Int.reduceLE, Int.reduceToNat, Nat.reduceLT, Nat.reduceAdd, Nat.reduceSub, Nat.reduceMul, Nat.reduceEqDiff, Nat.reduceLeDiff, Nat.reduceBEq, reduceIte, reduceCtorEq, Try.f83]
  refine Fin.nil rfl (psv := .sl 3 .new 4 (elOf lettersV)) ?_ ⟨rfl, rfl⟩
  simp (maxSteps := 4000000) only [push_cast, Int.reduceEq, Int.reduceBNe, Int.reduceBEq, Int.reduceAdd, Int.reduceSub, Int.reduceMul, Int.reduceNeg, Int.reduceLT, Int.reduceLE, Int.reduceToNat, Nat.reduceLT, Nat.reduceAdd, Nat.reduceSub, Nat.reduceMul, Nat.reduceEqDiff, Nat.reduceLeDiff, Nat.reduceBEq, reduceIte, reduceCtorEq]
  intro i hi j hj
  have h4 : i = 0 ∨ i = 1 ∨ i = 2 ∨ i = 3 := by omega
  have h3 : j = 0 ∨ j = 1 ∨ j = 2 := by omega
  rcases h4 with rfl | rfl | rfl | rfl <;> rcases h3 with rfl | rfl | rfl <;> first | exact ⟨rfl, rfl⟩ | exact ⟨rfl, trivial, trivial⟩

theorem has1_c (r w a c t x b k : Bool) : Contract Try.prog 100 nilSS [modeV r w a c t x b k] (fun sv post => sv = .b (r && w) ∧ post = nilSS) := by
  refine contract_ev Γok Try.func100 rfl rfl [] ?_
  simp (maxSteps := 4000000) only [push_cast, Int.reduceEq, Int.reduceBNe, Int.reduceBEq, Int.reduceAdd, Int.reduceSub, Int.reduceMul, Int.reduceNeg, Int.reduceLT, Int.reduceLE, Int.reduceToNat, Nat.reduceLT, Nat.reduceAdd, Nat.reduceSub, Nat.reduceMul, Nat.reduceEqDiff, Nat.reduceLeDiff, Nat.reduceBEq, reduceIte, reduceCtorEq, Try.f100, modeV]
  exact Fin.nil rfl (psv := .b _) rfl ⟨rfl, rfl⟩
theorem has3_c (r w a c t x b k : Bool) : Contract Try.prog 102 nilSS [modeV r w a c t x b k] (fun sv post => sv = .b b ∧ post = nilSS) := by
  refine contract_ev Γok Try.func102 rfl rfl [] ?_
  simp (maxSteps := 4000000) only [push_cast, Int.reduceEq, Int.reduceBNe, Int.reduceBEq, Int.reduceAdd, Int.reduceSub, Int.reduceMul, Int.reduceNeg, Int.reduceLT, Int.reduceLE, Int.reduceToNat, Nat.reduceLT, Nat.reduceAdd, Nat.reduceSub, Nat.reduceMul, Nat.reduceEqDiff, Nat.reduceLeDiff, Nat.reduceBEq, reduceIte, reduceCtorEq, Try.f102, modeV]
  exact Fin.nil rfl (psv := .b _) rfl ⟨rfl, rfl⟩
theorem has5_c (r w a c t x b k : Bool) : Contract Try.prog 104 nilSS [modeV r w a c t x b k] (fun sv post => sv = .b x ∧ post = nilSS) := by
  refine contract_ev Γok Try.func104 rfl rfl [] ?_
  simp (maxSteps := 4000000) only [push_cast, Int.reduceEq, Int.reduceBNe, Int.reduceBEq, Int.reduceAdd, Int.reduceSub, Int.reduceMul, Int.reduceNeg, Int.reduceLT, Int.reduceLE, Int.reduceToNat, Nat.reduceLT, Nat.reduceAdd, Nat.reduceSub, Nat.reduceMul, Nat.reduceEqDiff, Nat.reduceLeDiff, Nat.reduceBEq, reduceIte, reduceCtorEq, Try.f104, modeV]
  exact Fin.nil rfl (psv := .b _) rfl ⟨rfl, rfl⟩
theorem has7_c (r w a c t x b k : Bool) : Contract Try.prog 106 nilSS [modeV r w a c t x b k] (fun sv post => sv = .b k ∧ post = nilSS) := by
  refine contract_ev Γok Try.func106 rfl rfl [] ?_
  simp (maxSteps := 4000000) only [push_cast, Int.reduceEq, Int.reduceBNe, Int.reduceBEq, Int.reduceAdd, Int.reduceSub, Int.reduceMul, Int.reduceNeg, Int.reduceLT, Int.reduceLE, Int.reduceToNat, Nat.reduceLT, Nat.reduceAdd, Nat.reduceSub, Nat.reduceMul, Nat.reduceEqDiff, Nat.reduceLeDiff, Nat.reduceBEq, reduceIte, reduceCtorEq, Try.f106, modeV]
  exact Fin.nil rfl (psv := .b _) rfl ⟨rfl, rfl⟩

theorem firstR_c : Contract Try.prog 108 nilSS [.i .u8 114] (fun sv post => sv = .tup [modeV true false false false false false false false, .b true] ∧ post = nilSS) := by
  refine contract_ev Γok Try.func108 rfl rfl [] ?_
  simp (maxSteps := 4000000) only [push_cast, Int.reduceEq, Int.reduceBNe, Int.reduceBEq, Int.reduceAdd, Int.reduceSub, Int.reduceMul, Int.reduceNeg, Int.reduceLT, Int.reduceLE, Int.reduceToNat, Nat.reduceLT, Nat.reduceAdd, Nat.reduceSub, Nat.reduceMul, Nat.reduceEqDiff, Nat.reduceLeDiff, Nat.reduceBEq, reduceIte, reduceCtorEq, Try.f108]
  exact Fin.nil rfl (psv := .tup [modeV true false false false false false false false, .b true]) (by simp (maxSteps := 4000000) only [push_cast, Int.reduceEq, Int.reduceBNe, Int.reduceBEq, Int.reduceAdd, Int.reduceSub, Int.reduceMul, Int.reduceNeg, Int.reduceLT, Int.reduceLE, Int.reduceToNat, Nat.reduceLT, Nat.reduceAdd, Nat.reduceSub, Nat.reduceMul, Nat.reduceEqDiff, Nat.reduceLeDiff, Nat.reduceBEq, reduceIte, reduceCtorEq, modeV]) ⟨rfl, rfl⟩

theorem parseR_c : Contract Try.prog 84 nilSS [.s ⟨#[114]⟩] (fun sv post => sv = .tup [modeV true false false false false false false false, .i .i64 0, .i .i64 1] ∧ post = nilSS) := by
  have e1 : ((⟨#[114]⟩ : ByteArray).toList == (⟨#[]⟩ : ByteArray).toList) = false := by rw [← beq_toListBytes]; decide
  have e2 : byteAt ⟨#[114]⟩ 0 = 114 := rfl
  have e3 : (⟨#[114]⟩ : ByteArray).size = 1 := rfl
  have e4 : ((1 : Nat) : Int) = 1 := rfl
  refine contract_ev Γok Try.func84 rfl rfl [] ?_
  simp (maxSteps := 4000000) only [push_cast, Int.reduceEq, Int.reduceBNe, Int.reduceBEq, Int.reduceAdd, Int.reduceSub, Int.reduceMul, Int.reduceNeg, Int.reduceLT, Int.reduceLE, Int.reduceToNat, Nat.reduceLT, Nat.reduceAdd, Nat.reduceSub, Nat.reduceMul, Nat.reduceEqDiff, Nat.reduceLeDiff, Nat.reduceBEq, reduceIte, reduceCtorEq, Try.f84]
  refine scope_ok rfl (evCode_sound Γok _ _ _ ?_)
  simp (maxSteps := 4000000) only [push_cast, Int.reduceEq, Int.reduceBNe, Int.reduceBEq, Int.reduceAdd, Int.reduceSub, Int.reduceMul, Int.reduceNeg, Int.reduceLT, Int.reduceLE, Int.reduceToNat, Nat.reduceLT, Nat.reduceAdd, Nat.reduceSub, Nat.reduceMul, Nat.reduceEqDiff, Nat.reduceLeDiff, Nat.reduceBEq, reduceIte, reduceCtorEq, e1, e2, e3, e4]
  refine call_w firstR_c [] (by simp (maxSteps := 4000000) only [push_cast, Int.reduceEq, Int.reduceBNe, Int.reduceBEq, Int.reduceAdd, Int.reduceSub, Int.reduceMul, Int.reduceNeg, Int.reduceLT, Int.reduceLE, Int.reduceToNat, Nat.reduceLT, Nat.reduceAdd, Nat.reduceSub, Nat.reduceMul, Nat.reduceEqDiff, Nat.reduceLeDiff, Nat.reduceBEq, reduceIte, reduceCtorEq]) ?_
  rintro sv post ⟨rfl, rfl⟩
  simp (maxSteps := 4000000) only [push_cast, Int.reduceEq, Int.reduceBNe, Int.reduceBEq, Int.reduceAdd, Int.reduceSub, Int.reduceMul, Int.reduceNeg, Int.reduceLT, Int.reduceLE, Int.reduceToNat, Nat.reduceLT, Nat.reduceAdd, Nat.reduceSub, Nat.reduceMul, Nat.reduceEqDiff, Nat.reduceLeDiff, Nat.reduceBEq, reduceIte, reduceCtorEq, modeV, e3, e4]
  refine loop_unroll 1 ?_
  simp (maxSteps := 4000000) only [push_cast, Int.reduceEq, Int.reduceBNe, Int.reduceBEq, Int.reduceAdd, Int.reduceSub, Int.reduceMul, Int.reduceNeg, Int.reduceLT, Int.reduceLE, Int.reduceToNat, Nat.reduceLT, Nat.reduceAdd, Nat.reduceSub, Nat.reduceMul, Nat.reduceEqDiff, Nat.reduceLeDiff, Nat.reduceBEq, reduceIte, reduceCtorEq]
  refine evCode_sound Γok _ _ _ ?_
  simp (maxSteps := 4000000) only [push_cast, Int.reduceEq, Int.reduceBNe, Int.reduceBEq, Int.reduceAdd, Int.reduceSub, Int.reduceMul, Int.reduceNeg, Int.reduceLT, Int.reduceLE, Int.reduceToNat, Nat.reduceLT, Nat.reduceAdd, Nat.reduceSub, Nat.reduceMul, Nat.reduceEqDiff, Nat.reduceLeDiff, Nat.reduceBEq, reduceIte, reduceCtorEq, e3, e4]
  exact Fin.nil rfl (psv := .tup [modeV true false false false false false false false, .i .i64 0, .i .i64 1]) (by simp (maxSteps := 4000000) only [push_cast, Int.reduceEq, Int.reduceBNe, Int.reduceBEq, Int.reduceAdd, Int.reduceSub, Int.reduceMul, Int.reduceNeg, Int.reduceLT, Int.reduceLE, Int.reduceToNat, Nat.reduceLT, Nat.reduceAdd, Nat.reduceSub, Nat.reduceMul, Nat.reduceEqDiff, Nat.reduceLeDiff, Nat.reduceBEq, reduceIte, reduceCtorEq, modeV]) ⟨rfl, rfl⟩

theorem firstW_c : Contract Try.prog 108 nilSS [.i .u8 119] (fun sv post => sv = .tup [modeV false true false true true false false false, .b true] ∧ post = nilSS) := by
  refine contract_ev Γok Try.func108 rfl rfl [] ?_
  simp (maxSteps := 4000000) only [push_cast, Int.reduceEq, Int.reduceBNe, Int.reduceBEq, Int.reduceAdd, Int.reduceSub, Int.reduceMul, Int.reduceNeg, Int.reduceLT, Int.reduceLE, Int.reduceToNat, Nat.reduceLT, Nat.reduceAdd, Nat.reduceSub, Nat.reduceMul, Nat.reduceEqDiff, Nat.reduceLeDiff, Nat.reduceBEq, reduceIte, reduceCtorEq, Try.f108]
  exact Fin.nil rfl (psv := .tup [modeV false true false true true false false false, .b true]) (by simp (maxSteps := 4000000) only [push_cast, Int.reduceEq, Int.reduceBNe, Int.reduceBEq, Int.reduceAdd, Int.reduceSub, Int.reduceMul, Int.reduceNeg, Int.reduceLT, Int.reduceLE, Int.reduceToNat, Nat.reduceLT, Nat.reduceAdd, Nat.reduceSub, Nat.reduceMul, Nat.reduceEqDiff, Nat.reduceLeDiff, Nat.reduceBEq, reduceIte, reduceCtorEq, modeV]) ⟨rfl, rfl⟩

theorem parseW_c : Contract Try.prog 84 nilSS [.s ⟨#[119]⟩] (fun sv post => sv = .tup [modeV false true false true true false false false, .i .i64 0, .i .i64 1] ∧ post = nilSS) := by
  have e1 : ((⟨#[119]⟩ : ByteArray).toList == (⟨#[]⟩ : ByteArray).toList) = false := by rw [← beq_toListBytes]; decide
  have e2 : byteAt ⟨#[119]⟩ 0 = 119 := rfl
  have e3 : (⟨#[119]⟩ : ByteArray).size = 1 := rfl
  have e4 : ((1 : Nat) : Int) = 1 := rfl
  refine contract_ev Γok Try.func84 rfl rfl [] ?_
  simp (maxSteps := 4000000) only [push_cast, Int.reduceEq, Int.reduceBNe, Int.reduceBEq, Int.reduceAdd, Int.reduceSub, Int.reduceMul, Int.reduceNeg, Int.reduceLT, Int.reduceLE, Int.reduceToNat, Nat.reduceLT, Nat.reduceAdd, Nat.reduceSub, Nat.reduceMul, Nat.reduceEqDiff, Nat.reduceLeDiff, Nat.reduceBEq, reduceIte, reduceCtorEq, Try.f84]
  refine scope_ok rfl (evCode_sound Γok _ _ _ ?_)
  simp (maxSteps := 4000000) only [push_cast, Int.reduceEq, Int.reduceBNe, Int.reduceBEq, Int.reduceAdd, Int.reduceSub, Int.reduceMul, Int.reduceNeg, Int.reduceLT, Int.reduceLE, Int.reduceToNat, Nat.reduceLT, Nat.reduceAdd, Nat.reduceSub, Nat.reduceMul, Nat.reduceEqDiff, Nat.reduceLeDiff, Nat.reduceBEq, reduceIte, reduceCtorEq, e1, e2, e3, e4]
  refine call_w firstW_c [] (by simp (maxSteps := 4000000) only [push_cast, Int.reduceEq, Int.reduceBNe, Int.reduceBEq, Int.reduceAdd, Int.reduceSub, Int.reduceMul, Int.reduceNeg, Int.reduceLT, Int.reduceLE, Int.reduceToNat, Nat.reduceLT, Nat.reduceAdd, Nat.reduceSub, Nat.reduceMul, Nat.reduceEqDiff, Nat.reduceLeDiff, Nat.reduceBEq, reduceIte, reduceCtorEq]) ?_
  rintro sv post ⟨rfl, rfl⟩
  simp (maxSteps := 4000000) only [push_cast, Int.reduceEq, Int.reduceBNe, Int.reduceBEq, Int.reduceAdd, Int.reduceSub, Int.reduceMul, Int.reduceNeg, Int.reduceLT, Int.reduceLE, Int.reduceToNat, Nat.reduceLT, Nat.reduceAdd, Nat.reduceSub, Nat.reduceMul, Nat.reduceEqDiff, Nat.reduceLeDiff, Nat.reduceBEq, reduceIte, reduceCtorEq, modeV, e3, e4]
  refine loop_unroll 1 ?_
  simp (maxSteps := 4000000) only [push_cast, Int.reduceEq, Int.reduceBNe, Int.reduceBEq, Int.reduceAdd, Int.reduceSub, Int.reduceMul, Int.reduceNeg, Int.reduceLT, Int.reduceLE, Int.reduceToNat, Nat.reduceLT, Nat.reduceAdd, Nat.reduceSub, Nat.reduceMul, Nat.reduceEqDiff, Nat.reduceLeDiff, Nat.reduceBEq, reduceIte, reduceCtorEq]
  refine evCode_sound Γok _ _ _ ?_
  simp (maxSteps := 4000000) only [push_cast, Int.reduceEq, Int.reduceBNe, Int.reduceBEq, Int.reduceAdd, Int.reduceSub, Int.reduceMul, Int.reduceNeg, Int.reduceLT, Int.reduceLE, Int.reduceToNat, Nat.reduceLT, Nat.reduceAdd, Nat.reduceSub, Nat.reduceMul, Nat.reduceEqDiff, Nat.reduceLeDiff, Nat.reduceBEq, reduceIte, reduceCtorEq, e3, e4]
  exact Fin.nil rfl (psv := .tup [modeV false true false true true false false false, .i .i64 0, .i .i64 1]) (by simp (maxSteps := 4000000) only [push_cast, Int.reduceEq, Int.reduceBNe, Int.reduceBEq, Int.reduceAdd, Int.reduceSub, Int.reduceMul, Int.reduceNeg, Int.reduceLT, Int.reduceLE, Int.reduceToNat, Nat.reduceLT, Nat.reduceAdd, Nat.reduceSub, Nat.reduceMul, Nat.reduceEqDiff, Nat.reduceLeDiff, Nat.reduceBEq, reduceIte, reduceCtorEq, modeV]) ⟨rfl, rfl⟩

theorem firstA_c : Contract Try.prog 108 nilSS [.i .u8 97] (fun sv post => sv = .tup [modeV false true true true false false false false, .b true] ∧ post = nilSS) := by
  refine contract_ev Γok Try.func108 rfl rfl [] ?_
  simp (maxSteps := 4000000) only [push_cast, Int.reduceEq, Int.reduceBNe, Int.reduceBEq, Int.reduceAdd, Int.reduceSub, Int.reduceMul, Int.reduceNeg, Int.reduceLT, Int.reduceLE, Int.reduceToNat, Nat.reduceLT, Nat.reduceAdd, Nat.reduceSub, Nat.reduceMul, Nat.reduceEqDiff, Nat.reduceLeDiff, Nat.reduceBEq, reduceIte, reduceCtorEq, Try.f108]
  exact Fin.nil rfl (psv := .tup [modeV false true true true false false false false, .b true]) (by simp (maxSteps := 4000000) only [push_cast, Int.reduceEq, Int.reduceBNe, Int.reduceBEq, Int.reduceAdd, Int.reduceSub, Int.reduceMul, Int.reduceNeg, Int.reduceLT, Int.reduceLE, Int.reduceToNat, Nat.reduceLT, Nat.reduceAdd, Nat.reduceSub, Nat.reduceMul, Nat.reduceEqDiff, Nat.reduceLeDiff, Nat.reduceBEq, reduceIte, reduceCtorEq, modeV]) ⟨rfl, rfl⟩

theorem parseA_c : Contract Try.prog 84 nilSS [.s ⟨#[97]⟩] (fun sv post => sv = .tup [modeV false true true true false false false false, .i .i64 0, .i .i64 1] ∧ post = nilSS) := by
  have e1 : ((⟨#[97]⟩ : ByteArray).toList == (⟨#[]⟩ : ByteArray).toList) = false := by rw [← beq_toListBytes]; decide
  have e2 : byteAt ⟨#[97]⟩ 0 = 97 := rfl
  have e3 : (⟨#[97]⟩ : ByteArray).size = 1 := rfl
  have e4 : ((1 : Nat) : Int) = 1 := rfl
  refine contract_ev Γok Try.func84 rfl rfl [] ?_
  simp (maxSteps := 4000000) only [push_cast, Int.reduceEq, Int.reduceBNe, Int.reduceBEq, Int.reduceAdd, Int.reduceSub, Int.reduceMul, Int.reduceNeg, Int.reduceLT, Int.reduceLE, Int.reduceToNat, Nat.reduceLT, Nat.reduceAdd, Nat.reduceSub, Nat.reduceMul, Nat.reduceEqDiff, Nat.reduceLeDiff, Nat.reduceBEq, reduceIte, reduceCtorEq, Try.f84]
  refine scope_ok rfl (evCode_sound Γok _ _ _ ?_)
  simp (maxSteps := 4000000) only [push_cast, Int.reduceEq, Int.reduceBNe, Int.reduceBEq, Int.reduceAdd, Int.reduceSub, Int.reduceMul, Int.reduceNeg, Int.reduceLT, Int.reduceLE, Int.reduceToNat, Nat.reduceLT, Nat.reduceAdd, Nat.reduceSub, Nat.reduceMul, Nat.reduceEqDiff, Nat.reduceLeDiff, Nat.reduceBEq, reduceIte, reduceCtorEq, e1, e2, e3, e4]
  refine call_w firstA_c [] (by simp (maxSteps := 4000000) only [push_cast, Int.reduceEq, Int.reduceBNe, Int.reduceBEq, Int.reduceAdd, Int.reduceSub, Int.reduceMul, Int.reduceNeg, Int.reduceLT, Int.reduceLE, Int.reduceToNat, Nat.reduceLT, Nat.reduceAdd, Nat.reduceSub, Nat.reduceMul, Nat.reduceEqDiff, Nat.reduceLeDiff, Nat.reduceBEq, reduceIte, reduceCtorEq]) ?_
  rintro sv post ⟨rfl, rfl⟩
  simp (maxSteps := 4000000) only [push_cast, Int.reduceEq, Int.reduceBNe, Int.reduceBEq, Int.reduceAdd, Int.reduceSub, Int.reduceMul, Int.reduceNeg, Int.reduceLT, Int.reduceLE, Int.reduceToNat, Nat.reduceLT, Nat.reduceAdd, Nat.reduceSub, Nat.reduceMul, Nat.reduceEqDiff, Nat.reduceLeDiff, Nat.reduceBEq, reduceIte, reduceCtorEq, modeV, e3, e4]
  refine loop_unroll 1 ?_
  simp (maxSteps := 4000000) only [push_cast, Int.reduceEq, Int.reduceBNe, Int.reduceBEq, Int.reduceAdd, Int.reduceSub, Int.reduceMul, Int.reduceNeg, Int.reduceLT, Int.reduceLE, Int.reduceToNat, Nat.reduceLT, Nat.reduceAdd, Nat.reduceSub, Nat.reduceMul, Nat.reduceEqDiff, Nat.reduceLeDiff, Nat.reduceBEq, reduceIte, reduceCtorEq]
  refine evCode_sound Γok _ _ _ ?_
  simp (maxSteps := 4000000) only [push_cast, Int.reduceEq, Int.reduceBNe, Int.reduceBEq, Int.reduceAdd, Int.reduceSub, Int.reduceMul, Int.reduceNeg, Int.reduceLT, Int.reduceLE, Int.reduceToNat, Nat.reduceLT, Nat.reduceAdd, Nat.reduceSub, Nat.reduceMul, Nat.reduceEqDiff, Nat.reduceLeDiff, Nat.reduceBEq, reduceIte, reduceCtorEq, e3, e4]
  exact Fin.nil rfl (psv := .tup [modeV false true true true false false false false, .i .i64 0, .i .i64 1]) (by simp (maxSteps := 4000000) only [push_cast, Int.reduceEq, Int.reduceBNe, Int.reduceBEq, Int.reduceAdd, Int.reduceSub, Int.reduceMul, Int.reduceNeg, Int.reduceLT, Int.reduceLE, Int.reduceToNat, Nat.reduceLT, Nat.reduceAdd, Nat.reduceSub, Nat.reduceMul, Nat.reduceEqDiff, Nat.reduceLeDiff, Nat.reduceBEq, reduceIte, reduceCtorEq, modeV]) ⟨rfl, rfl⟩

end Go.Proofs.Ytciokebdmnaobaa
/- The letters of the modes that the laws open with. -/
namespace Go.Proofs.Ytciokebdmnaobaa
open Go Go.Eng
set_option maxHeartbeats 4000000
set_option linter.unusedSimpArgs false
set_option linter.unusedVariables false
set_option maxRecDepth 100000

theorem lettersW (f g : Nat → Nat) : ∀ i, i < 4 → ∀ j, j < 3 → W false f (lget (pickL lettersV i) j) (ren g (lget (pickL lettersV i) j)) := by
  intro i hi j hj
  have h4 : i = 0 ∨ i = 1 ∨ i = 2 ∨ i = 3 := by omega
  have h3 : j = 0 ∨ j = 1 ∨ j = 2 := by omega
  rcases h4 with rfl | rfl | rfl | rfl <;> rcases h3 with rfl | rfl | rfl <;> first | exact ⟨rfl, rfl⟩ | exact ⟨rfl, trivial, trivial⟩
theorem lettersX (f : Nat → Nat) : ∀ i, i < 4 → ∀ j, j < 3 → W false f (lget (pickL lettersV i) j) (lget (pickL lettersV i) j) := by
  intro i hi j hj
  have h4 : i = 0 ∨ i = 1 ∨ i = 2 ∨ i = 3 := by omega
  have h3 : j = 0 ∨ j = 1 ∨ j = 2 := by omega
  rcases h4 with rfl | rfl | rfl | rfl <;> rcases h3 with rfl | rfl | rfl <;> first | exact ⟨rfl, rfl⟩ | exact ⟨rfl, trivial, trivial⟩
theorem tz0 : Int.toNat (0 : Int) = 0 := rfl
theorem zc0 : ((0 : Nat) : Int) = 0 := rfl
theorem wz0 : IntKind.i64.wrap (0 + 1) = 1 := rfl
theorem l00 : lget (pickL lettersV 0) 0 = .i .u8 43 := rfl
theorem l01 : lget (pickL lettersV 0) 1 = .fn (.func 100) [] [] := rfl
theorem l02 : lget (pickL lettersV 0) 2 = .fn (.func 101) [] [] := rfl
theorem tz1 : Int.toNat (1 : Int) = 1 := rfl
theorem zc1 : ((1 : Nat) : Int) = 1 := rfl
theorem wz1 : IntKind.i64.wrap (1 + 1) = 2 := rfl
theorem l10 : lget (pickL lettersV 1) 0 = .i .u8 98 := rfl
theorem l11 : lget (pickL lettersV 1) 1 = .fn (.func 102) [] [] := rfl
theorem l12 : lget (pickL lettersV 1) 2 = .fn (.func 103) [] [] := rfl
theorem tz2 : Int.toNat (2 : Int) = 2 := rfl
theorem zc2 : ((2 : Nat) : Int) = 2 := rfl
theorem wz2 : IntKind.i64.wrap (2 + 1) = 3 := rfl
theorem l20 : lget (pickL lettersV 2) 0 = .i .u8 120 := rfl
theorem l21 : lget (pickL lettersV 2) 1 = .fn (.func 104) [] [] := rfl
theorem l22 : lget (pickL lettersV 2) 2 = .fn (.func 105) [] [] := rfl
theorem tz3 : Int.toNat (3 : Int) = 3 := rfl
theorem zc3 : ((3 : Nat) : Int) = 3 := rfl
theorem wz3 : IntKind.i64.wrap (3 + 1) = 4 := rfl
theorem l30 : lget (pickL lettersV 3) 0 = .i .u8 101 := rfl
theorem l31 : lget (pickL lettersV 3) 1 = .fn (.func 106) [] [] := rfl
theorem l32 : lget (pickL lettersV 3) 2 = .fn (.func 107) [] [] := rfl
theorem rg3 : List.range 3 = [0, 1, 2] := rfl
theorem eqPlainM : eqPlain Try.prog 65 = true := by kernel_rfl

theorem printR_c : Contract Try.prog 58 nilSS [modeV true false false false false false false false] (fun sv post => sv = .tup [.s ⟨#[114]⟩, .i .i64 0] ∧ post = nilSS) := by
  have d0 : Utf8.decode ⟨#[114, 119, 97]⟩ 0 = (114, 1) := by decide
  have c0 : ((114 : Nat) : Int) = 114 := rfl
  have n0 : Utf8.encode 114 = ⟨#[114]⟩ := by decide
  have z3 : (⟨#[114, 119, 97]⟩ : ByteArray).size = 3 := rfl
  have c4 : ((4 : Nat) : Int) = 4 := rfl
  have bb1 : (true == false) = false := rfl
  have bb2 : (false == true) = false := rfl
  refine contract_ev Γok Try.func58 rfl rfl [2] ?_
  simp (maxSteps := 4000000) only [push_cast, Int.reduceEq, Int.reduceBNe, Int.reduceBEq, Int.reduceAdd, Int.reduceSub, Int.reduceMul, Int.reduceNeg, Int.reduceLT, Int.reduceLE, Int.reduceToNat, Nat.reduceLT, Nat.reduceAdd, Nat.reduceSub, Nat.reduceMul, Nat.reduceEqDiff, Nat.reduceLeDiff, Nat.reduceBEq, reduceIte, reduceCtorEq, Try.f58, modeV]
  intro b
  refine loop_unroll 1 ?_
  simp (maxSteps := 4000000) only [push_cast, Int.reduceEq, Int.reduceBNe, Int.reduceBEq, Int.reduceAdd, Int.reduceSub, Int.reduceMul, Int.reduceNeg, Int.reduceLT, Int.reduceLE, Int.reduceToNat, Nat.reduceLT, Nat.reduceAdd, Nat.reduceSub, Nat.reduceMul, Nat.reduceEqDiff, Nat.reduceLeDiff, Nat.reduceBEq, reduceIte, reduceCtorEq]
  refine evCode_sound Γok _ _ _ ?_
  simp (maxSteps := 4000000) only [push_cast, Int.reduceEq, Int.reduceBNe, Int.reduceBEq, Int.reduceAdd, Int.reduceSub, Int.reduceMul, Int.reduceNeg, Int.reduceLT, Int.reduceLE, Int.reduceToNat, Nat.reduceLT, Nat.reduceAdd, Nat.reduceSub, Nat.reduceMul, Nat.reduceEqDiff, Nat.reduceLeDiff, Nat.reduceBEq, reduceIte, reduceCtorEq]
  refine next_ok Γok 1 b ⟨#[114, 119, 97]⟩ 0 rfl rfl rfl trivial (by simp) ?_
  simp (maxSteps := 4000000) only [push_cast, Int.reduceEq, Int.reduceBNe, Int.reduceBEq, Int.reduceAdd, Int.reduceSub, Int.reduceMul, Int.reduceNeg, Int.reduceLT, Int.reduceLE, Int.reduceToNat, Nat.reduceLT, Nat.reduceAdd, Nat.reduceSub, Nat.reduceMul, Nat.reduceEqDiff, Nat.reduceLeDiff, Nat.reduceBEq, reduceIte, reduceCtorEq, d0, c0, n0, z3]
  refine call_w letters_c [] (by simp (maxSteps := 4000000) only [push_cast, Int.reduceEq, Int.reduceBNe, Int.reduceBEq, Int.reduceAdd, Int.reduceSub, Int.reduceMul, Int.reduceNeg, Int.reduceLT, Int.reduceLE, Int.reduceToNat, Nat.reduceLT, Nat.reduceAdd, Nat.reduceSub, Nat.reduceMul, Nat.reduceEqDiff, Nat.reduceLeDiff, Nat.reduceBEq, reduceIte, reduceCtorEq]) ?_
  rintro sv post ⟨rfl, rfl⟩
  simp (maxSteps := 4000000) only [push_cast, Int.reduceEq, Int.reduceBNe, Int.reduceBEq, Int.reduceAdd, Int.reduceSub, Int.reduceMul, Int.reduceNeg, Int.reduceLT, Int.reduceLE, Int.reduceToNat, Nat.reduceLT, Nat.reduceAdd, Nat.reduceSub, Nat.reduceMul, Nat.reduceEqDiff, Nat.reduceLeDiff, Nat.reduceBEq, reduceIte, reduceCtorEq]
  refine loop_ok (ι := {i : Nat // i ≤ 4})
    (fun i => ⟨[modeV true false false false false false false false, .ptr 0 0, .any, .any, .any, .any, .s ⟨#[114]⟩, .any, .any, .any, .any, .any, .raw (.pointer (some ⟨b, 0, none⟩)), .any, .any, .any, .any, .any, .sl 3 .new 4 (elOf lettersV), .i .i64 4, .i .i64 i.1] ++ List.replicate 28 .any, [(0, 65, [.b true, .b false, .b false, .b false, .b false, .b false, .b false, .b false])], [], [(1, RObj b (.stringIter ⟨#[114, 119, 97]⟩ 1))], 2, 0, []⟩) (fun i => 4 - i.1) ⟨0, by omega⟩ ?_ ?_
  · refine Sub.w [0, 1] ?_
    simp (maxSteps := 4000000) only [push_cast, Int.reduceEq, Int.reduceBNe, Int.reduceBEq, Int.reduceAdd, Int.reduceSub, Int.reduceMul, Int.reduceNeg, Int.reduceLT, Int.reduceLE, Int.reduceToNat, Nat.reduceLT, Nat.reduceAdd, Nat.reduceSub, Nat.reduceMul, Nat.reduceEqDiff, Nat.reduceLeDiff, Nat.reduceBEq, reduceIte, reduceCtorEq, modeV, n0]
    exact lettersW _ _
  rintro ⟨i, hi⟩
  have h5 : i = 0 ∨ i = 1 ∨ i = 2 ∨ i = 3 ∨ i = 4 := by omega
  rcases h5 with rfl | rfl | rfl | rfl | rfl
  · refine evCode_sound Γok _ _ _ ?_
    simp (maxSteps := 4000000) only [push_cast, Int.reduceEq, Int.reduceBNe, Int.reduceBEq, Int.reduceAdd, Int.reduceSub, Int.reduceMul, Int.reduceNeg, Int.reduceLT, Int.reduceLE, Int.reduceToNat, Nat.reduceLT, Nat.reduceAdd, Nat.reduceSub, Nat.reduceMul, Nat.reduceEqDiff, Nat.reduceLeDiff, Nat.reduceBEq, reduceIte, reduceCtorEq, rg3, zc0, tz0, l00, l01, l02, modeV, c4]
    refine call_w (has1_c true false false false false false false false) [] (by simp (maxSteps := 4000000) only [push_cast, Int.reduceEq, Int.reduceBNe, Int.reduceBEq, Int.reduceAdd, Int.reduceSub, Int.reduceMul, Int.reduceNeg, Int.reduceLT, Int.reduceLE, Int.reduceToNat, Nat.reduceLT, Nat.reduceAdd, Nat.reduceSub, Nat.reduceMul, Nat.reduceEqDiff, Nat.reduceLeDiff, Nat.reduceBEq, reduceIte, reduceCtorEq, modeV]) ?_
    rintro sv post ⟨rfl, rfl⟩
    simp (maxSteps := 4000000) only [push_cast, Int.reduceEq, Int.reduceBNe, Int.reduceBEq, Int.reduceAdd, Int.reduceSub, Int.reduceMul, Int.reduceNeg, Int.reduceLT, Int.reduceLE, Int.reduceToNat, Nat.reduceLT, Nat.reduceAdd, Nat.reduceSub, Nat.reduceMul, Nat.reduceEqDiff, Nat.reduceLeDiff, Nat.reduceBEq, reduceIte, reduceCtorEq, wz0]
    refine ⟨⟨1, by omega⟩, (show 4 - 1 < 4 - 0 by decide), Sub.w [0, 1] ?_⟩
    simp (maxSteps := 4000000) only [push_cast, Int.reduceEq, Int.reduceBNe, Int.reduceBEq, Int.reduceAdd, Int.reduceSub, Int.reduceMul, Int.reduceNeg, Int.reduceLT, Int.reduceLE, Int.reduceToNat, Nat.reduceLT, Nat.reduceAdd, Nat.reduceSub, Nat.reduceMul, Nat.reduceEqDiff, Nat.reduceLeDiff, Nat.reduceBEq, reduceIte, reduceCtorEq, modeV, c4]
    exact ⟨lettersX _, rfl⟩
  · refine evCode_sound Γok _ _ _ ?_
    simp (maxSteps := 4000000) only [push_cast, Int.reduceEq, Int.reduceBNe, Int.reduceBEq, Int.reduceAdd, Int.reduceSub, Int.reduceMul, Int.reduceNeg, Int.reduceLT, Int.reduceLE, Int.reduceToNat, Nat.reduceLT, Nat.reduceAdd, Nat.reduceSub, Nat.reduceMul, Nat.reduceEqDiff, Nat.reduceLeDiff, Nat.reduceBEq, reduceIte, reduceCtorEq, rg3, zc1, tz1, l10, l11, l12, modeV, c4]
    refine call_w (has3_c true false false false false false false false) [] (by simp (maxSteps := 4000000) only [push_cast, Int.reduceEq, Int.reduceBNe, Int.reduceBEq, Int.reduceAdd, Int.reduceSub, Int.reduceMul, Int.reduceNeg, Int.reduceLT, Int.reduceLE, Int.reduceToNat, Nat.reduceLT, Nat.reduceAdd, Nat.reduceSub, Nat.reduceMul, Nat.reduceEqDiff, Nat.reduceLeDiff, Nat.reduceBEq, reduceIte, reduceCtorEq, modeV]) ?_
    rintro sv post ⟨rfl, rfl⟩
    simp (maxSteps := 4000000) only [push_cast, Int.reduceEq, Int.reduceBNe, Int.reduceBEq, Int.reduceAdd, Int.reduceSub, Int.reduceMul, Int.reduceNeg, Int.reduceLT, Int.reduceLE, Int.reduceToNat, Nat.reduceLT, Nat.reduceAdd, Nat.reduceSub, Nat.reduceMul, Nat.reduceEqDiff, Nat.reduceLeDiff, Nat.reduceBEq, reduceIte, reduceCtorEq, wz1]
    refine ⟨⟨2, by omega⟩, (show 4 - 2 < 4 - 1 by decide), Sub.w [0, 1] ?_⟩
    simp (maxSteps := 4000000) only [push_cast, Int.reduceEq, Int.reduceBNe, Int.reduceBEq, Int.reduceAdd, Int.reduceSub, Int.reduceMul, Int.reduceNeg, Int.reduceLT, Int.reduceLE, Int.reduceToNat, Nat.reduceLT, Nat.reduceAdd, Nat.reduceSub, Nat.reduceMul, Nat.reduceEqDiff, Nat.reduceLeDiff, Nat.reduceBEq, reduceIte, reduceCtorEq, modeV, c4]
    exact ⟨lettersX _, rfl⟩
  · refine evCode_sound Γok _ _ _ ?_
    simp (maxSteps := 4000000) only [push_cast, Int.reduceEq, Int.reduceBNe, Int.reduceBEq, Int.reduceAdd, Int.reduceSub, Int.reduceMul, Int.reduceNeg, Int.reduceLT, Int.reduceLE, Int.reduceToNat, Nat.reduceLT, Nat.reduceAdd, Nat.reduceSub, Nat.reduceMul, Nat.reduceEqDiff, Nat.reduceLeDiff, Nat.reduceBEq, reduceIte, reduceCtorEq, rg3, zc2, tz2, l20, l21, l22, modeV, c4]
    refine call_w (has5_c true false false false false false false false) [] (by simp (maxSteps := 4000000) only [push_cast, Int.reduceEq, Int.reduceBNe, Int.reduceBEq, Int.reduceAdd, Int.reduceSub, Int.reduceMul, Int.reduceNeg, Int.reduceLT, Int.reduceLE, Int.reduceToNat, Nat.reduceLT, Nat.reduceAdd, Nat.reduceSub, Nat.reduceMul, Nat.reduceEqDiff, Nat.reduceLeDiff, Nat.reduceBEq, reduceIte, reduceCtorEq, modeV]) ?_
    rintro sv post ⟨rfl, rfl⟩
    simp (maxSteps := 4000000) only [push_cast, Int.reduceEq, Int.reduceBNe, Int.reduceBEq, Int.reduceAdd, Int.reduceSub, Int.reduceMul, Int.reduceNeg, Int.reduceLT, Int.reduceLE, Int.reduceToNat, Nat.reduceLT, Nat.reduceAdd, Nat.reduceSub, Nat.reduceMul, Nat.reduceEqDiff, Nat.reduceLeDiff, Nat.reduceBEq, reduceIte, reduceCtorEq, wz2]
    refine ⟨⟨3, by omega⟩, (show 4 - 3 < 4 - 2 by decide), Sub.w [0, 1] ?_⟩
    simp (maxSteps := 4000000) only [push_cast, Int.reduceEq, Int.reduceBNe, Int.reduceBEq, Int.reduceAdd, Int.reduceSub, Int.reduceMul, Int.reduceNeg, Int.reduceLT, Int.reduceLE, Int.reduceToNat, Nat.reduceLT, Nat.reduceAdd, Nat.reduceSub, Nat.reduceMul, Nat.reduceEqDiff, Nat.reduceLeDiff, Nat.reduceBEq, reduceIte, reduceCtorEq, modeV, c4]
    exact ⟨lettersX _, rfl⟩
  · refine evCode_sound Γok _ _ _ ?_
    simp (maxSteps := 4000000) only [push_cast, Int.reduceEq, Int.reduceBNe, Int.reduceBEq, Int.reduceAdd, Int.reduceSub, Int.reduceMul, Int.reduceNeg, Int.reduceLT, Int.reduceLE, Int.reduceToNat, Nat.reduceLT, Nat.reduceAdd, Nat.reduceSub, Nat.reduceMul, Nat.reduceEqDiff, Nat.reduceLeDiff, Nat.reduceBEq, reduceIte, reduceCtorEq, rg3, zc3, tz3, l30, l31, l32, modeV, c4]
    refine call_w (has7_c true false false false false false false false) [] (by simp (maxSteps := 4000000) only [push_cast, Int.reduceEq, Int.reduceBNe, Int.reduceBEq, Int.reduceAdd, Int.reduceSub, Int.reduceMul, Int.reduceNeg, Int.reduceLT, Int.reduceLE, Int.reduceToNat, Nat.reduceLT, Nat.reduceAdd, Nat.reduceSub, Nat.reduceMul, Nat.reduceEqDiff, Nat.reduceLeDiff, Nat.reduceBEq, reduceIte, reduceCtorEq, modeV]) ?_
    rintro sv post ⟨rfl, rfl⟩
    simp (maxSteps := 4000000) only [push_cast, Int.reduceEq, Int.reduceBNe, Int.reduceBEq, Int.reduceAdd, Int.reduceSub, Int.reduceMul, Int.reduceNeg, Int.reduceLT, Int.reduceLE, Int.reduceToNat, Nat.reduceLT, Nat.reduceAdd, Nat.reduceSub, Nat.reduceMul, Nat.reduceEqDiff, Nat.reduceLeDiff, Nat.reduceBEq, reduceIte, reduceCtorEq, wz3]
    refine ⟨⟨4, by omega⟩, (show 4 - 4 < 4 - 3 by decide), Sub.w [0, 1] ?_⟩
    simp (maxSteps := 4000000) only [push_cast, Int.reduceEq, Int.reduceBNe, Int.reduceBEq, Int.reduceAdd, Int.reduceSub, Int.reduceMul, Int.reduceNeg, Int.reduceLT, Int.reduceLE, Int.reduceToNat, Nat.reduceLT, Nat.reduceAdd, Nat.reduceSub, Nat.reduceMul, Nat.reduceEqDiff, Nat.reduceLeDiff, Nat.reduceBEq, reduceIte, reduceCtorEq, modeV, c4]
    exact ⟨lettersX _, rfl⟩
  refine evCode_sound Γok _ _ _ ?_
  simp (maxSteps := 4000000) only [push_cast, Int.reduceEq, Int.reduceBNe, Int.reduceBEq, Int.reduceAdd, Int.reduceSub, Int.reduceMul, Int.reduceNeg, Int.reduceLT, Int.reduceLE, Int.reduceToNat, Nat.reduceLT, Nat.reduceAdd, Nat.reduceSub, Nat.reduceMul, Nat.reduceEqDiff, Nat.reduceLeDiff, Nat.reduceBEq, reduceIte, reduceCtorEq, c4, modeV]
  refine call_w parseR_c [] (by simp (maxSteps := 4000000) only [push_cast, Int.reduceEq, Int.reduceBNe, Int.reduceBEq, Int.reduceAdd, Int.reduceSub, Int.reduceMul, Int.reduceNeg, Int.reduceLT, Int.reduceLE, Int.reduceToNat, Nat.reduceLT, Nat.reduceAdd, Nat.reduceSub, Nat.reduceMul, Nat.reduceEqDiff, Nat.reduceLeDiff, Nat.reduceBEq, reduceIte, reduceCtorEq]) ?_
  rintro sv post ⟨rfl, rfl⟩
  simp (maxSteps := 4000000) only [push_cast, Int.reduceEq, Int.reduceBNe, Int.reduceBEq, Int.reduceAdd, Int.reduceSub, Int.reduceMul, Int.reduceNeg, Int.reduceLT, Int.reduceLE, Int.reduceToNat, Nat.reduceLT, Nat.reduceAdd, Nat.reduceSub, Nat.reduceMul, Nat.reduceEqDiff, Nat.reduceLeDiff, Nat.reduceBEq, reduceIte, reduceCtorEq, modeV, rg8]
  exact ⟨eqPlainM, Fin.nil rfl (psv := .tup [.s ⟨#[114]⟩, .i .i64 0]) (by simp (maxSteps := 4000000) only [push_cast, Int.reduceEq, Int.reduceBNe, Int.reduceBEq, Int.reduceAdd, Int.reduceSub, Int.reduceMul, Int.reduceNeg, Int.reduceLT, Int.reduceLE, Int.reduceToNat, Nat.reduceLT, Nat.reduceAdd, Nat.reduceSub, Nat.reduceMul, Nat.reduceEqDiff, Nat.reduceLeDiff, Nat.reduceBEq, reduceIte, reduceCtorEq]) ⟨rfl, rfl⟩⟩

end Go.Proofs.Ytciokebdmnaobaa
/- The letters of the modes that the laws open with. -/
namespace Go.Proofs.Ytciokebdmnaobaa
open Go Go.Eng
set_option maxHeartbeats 4000000
set_option linter.unusedSimpArgs false
set_option linter.unusedVariables false
set_option maxRecDepth 100000

theorem printW_c : Contract Try.prog 58 nilSS [modeV false true false true true false false false] (fun sv post => sv = .tup [.s ⟨#[119]⟩, .i .i64 0] ∧ post = nilSS) := by
  have d0 : Utf8.decode ⟨#[114, 119, 97]⟩ 0 = (114, 1) := by decide
  have c0 : ((114 : Nat) : Int) = 114 := rfl
  have n0 : Utf8.encode 114 = ⟨#[114]⟩ := by decide
  have d1 : Utf8.decode ⟨#[114, 119, 97]⟩ 1 = (119, 1) := by decide
  have c1 : ((119 : Nat) : Int) = 119 := rfl
  have n1 : Utf8.encode 119 = ⟨#[119]⟩ := by decide
  have z3 : (⟨#[114, 119, 97]⟩ : ByteArray).size = 3 := rfl
  have c4 : ((4 : Nat) : Int) = 4 := rfl
  have bb1 : (true == false) = false := rfl
  have bb2 : (false == true) = false := rfl
  refine contract_ev Γok Try.func58 rfl rfl [2] ?_
  simp (maxSteps := 4000000) only [push_cast, Int.reduceEq, Int.reduceBNe, Int.reduceBEq, Int.reduceAdd, Int.reduceSub, Int.reduceMul, Int.reduceNeg, Int.reduceLT, Int.reduceLE, Int.reduceToNat, Nat.reduceLT, Nat.reduceAdd, Nat.reduceSub, Nat.reduceMul, Nat.reduceEqDiff, Nat.reduceLeDiff, Nat.reduceBEq, reduceIte, reduceCtorEq, Try.f58, modeV]
  intro b
  refine loop_unroll 2 ?_
  simp (maxSteps := 4000000) only [push_cast, Int.reduceEq, Int.reduceBNe, Int.reduceBEq, Int.reduceAdd, Int.reduceSub, Int.reduceMul, Int.reduceNeg, Int.reduceLT, Int.reduceLE, Int.reduceToNat, Nat.reduceLT, Nat.reduceAdd, Nat.reduceSub, Nat.reduceMul, Nat.reduceEqDiff, Nat.reduceLeDiff, Nat.reduceBEq, reduceIte, reduceCtorEq]
  refine evCode_sound Γok _ _ _ ?_
  simp (maxSteps := 4000000) only [push_cast, Int.reduceEq, Int.reduceBNe, Int.reduceBEq, Int.reduceAdd, Int.reduceSub, Int.reduceMul, Int.reduceNeg, Int.reduceLT, Int.reduceLE, Int.reduceToNat, Nat.reduceLT, Nat.reduceAdd, Nat.reduceSub, Nat.reduceMul, Nat.reduceEqDiff, Nat.reduceLeDiff, Nat.reduceBEq, reduceIte, reduceCtorEq]
  refine next_ok Γok 1 b ⟨#[114, 119, 97]⟩ 0 rfl rfl rfl trivial (by simp) ?_
  simp (maxSteps := 4000000) only [push_cast, Int.reduceEq, Int.reduceBNe, Int.reduceBEq, Int.reduceAdd, Int.reduceSub, Int.reduceMul, Int.reduceNeg, Int.reduceLT, Int.reduceLE, Int.reduceToNat, Nat.reduceLT, Nat.reduceAdd, Nat.reduceSub, Nat.reduceMul, Nat.reduceEqDiff, Nat.reduceLeDiff, Nat.reduceBEq, reduceIte, reduceCtorEq, d0, c0, n0, z3]
  refine call_w letters_c [] (by simp (maxSteps := 4000000) only [push_cast, Int.reduceEq, Int.reduceBNe, Int.reduceBEq, Int.reduceAdd, Int.reduceSub, Int.reduceMul, Int.reduceNeg, Int.reduceLT, Int.reduceLE, Int.reduceToNat, Nat.reduceLT, Nat.reduceAdd, Nat.reduceSub, Nat.reduceMul, Nat.reduceEqDiff, Nat.reduceLeDiff, Nat.reduceBEq, reduceIte, reduceCtorEq]) ?_
  rintro sv post ⟨rfl, rfl⟩
  simp (maxSteps := 4000000) only [push_cast, Int.reduceEq, Int.reduceBNe, Int.reduceBEq, Int.reduceAdd, Int.reduceSub, Int.reduceMul, Int.reduceNeg, Int.reduceLT, Int.reduceLE, Int.reduceToNat, Nat.reduceLT, Nat.reduceAdd, Nat.reduceSub, Nat.reduceMul, Nat.reduceEqDiff, Nat.reduceLeDiff, Nat.reduceBEq, reduceIte, reduceCtorEq]
  refine loop_ok (ι := {i : Nat // i ≤ 4})
    (fun i => ⟨[modeV false true false true true false false false, .ptr 0 0, .any, .any, .any, .any, .s ⟨#[114]⟩, .any, .any, .any, .any, .any, .raw (.pointer (some ⟨b, 0, none⟩)), .any, .any, .any, .any, .any, .sl 3 .new 4 (elOf lettersV), .i .i64 4, .i .i64 i.1] ++ List.replicate 28 .any, [(0, 65, [.b false, .b true, .b false, .b true, .b true, .b false, .b false, .b false])], [], [(1, RObj b (.stringIter ⟨#[114, 119, 97]⟩ 1))], 2, 0, []⟩) (fun i => 4 - i.1) ⟨0, by omega⟩ ?_ ?_
  · refine Sub.w [0, 1] ?_
    simp (maxSteps := 4000000) only [push_cast, Int.reduceEq, Int.reduceBNe, Int.reduceBEq, Int.reduceAdd, Int.reduceSub, Int.reduceMul, Int.reduceNeg, Int.reduceLT, Int.reduceLE, Int.reduceToNat, Nat.reduceLT, Nat.reduceAdd, Nat.reduceSub, Nat.reduceMul, Nat.reduceEqDiff, Nat.reduceLeDiff, Nat.reduceBEq, reduceIte, reduceCtorEq, modeV, n0]
    exact lettersW _ _
  rintro ⟨i, hi⟩
  have h5 : i = 0 ∨ i = 1 ∨ i = 2 ∨ i = 3 ∨ i = 4 := by omega
  rcases h5 with rfl | rfl | rfl | rfl | rfl
  · refine evCode_sound Γok _ _ _ ?_
    simp (maxSteps := 4000000) only [push_cast, Int.reduceEq, Int.reduceBNe, Int.reduceBEq, Int.reduceAdd, Int.reduceSub, Int.reduceMul, Int.reduceNeg, Int.reduceLT, Int.reduceLE, Int.reduceToNat, Nat.reduceLT, Nat.reduceAdd, Nat.reduceSub, Nat.reduceMul, Nat.reduceEqDiff, Nat.reduceLeDiff, Nat.reduceBEq, reduceIte, reduceCtorEq, rg3, zc0, tz0, l00, l01, l02, modeV, c4]
    refine call_w (has1_c false true false true true false false false) [] (by simp (maxSteps := 4000000) only [push_cast, Int.reduceEq, Int.reduceBNe, Int.reduceBEq, Int.reduceAdd, Int.reduceSub, Int.reduceMul, Int.reduceNeg, Int.reduceLT, Int.reduceLE, Int.reduceToNat, Nat.reduceLT, Nat.reduceAdd, Nat.reduceSub, Nat.reduceMul, Nat.reduceEqDiff, Nat.reduceLeDiff, Nat.reduceBEq, reduceIte, reduceCtorEq, modeV]) ?_
    rintro sv post ⟨rfl, rfl⟩
    simp (maxSteps := 4000000) only [push_cast, Int.reduceEq, Int.reduceBNe, Int.reduceBEq, Int.reduceAdd, Int.reduceSub, Int.reduceMul, Int.reduceNeg, Int.reduceLT, Int.reduceLE, Int.reduceToNat, Nat.reduceLT, Nat.reduceAdd, Nat.reduceSub, Nat.reduceMul, Nat.reduceEqDiff, Nat.reduceLeDiff, Nat.reduceBEq, reduceIte, reduceCtorEq, wz0]
    refine ⟨⟨1, by omega⟩, (show 4 - 1 < 4 - 0 by decide), Sub.w [0, 1] ?_⟩
    simp (maxSteps := 4000000) only [push_cast, Int.reduceEq, Int.reduceBNe, Int.reduceBEq, Int.reduceAdd, Int.reduceSub, Int.reduceMul, Int.reduceNeg, Int.reduceLT, Int.reduceLE, Int.reduceToNat, Nat.reduceLT, Nat.reduceAdd, Nat.reduceSub, Nat.reduceMul, Nat.reduceEqDiff, Nat.reduceLeDiff, Nat.reduceBEq, reduceIte, reduceCtorEq, modeV, c4]
    exact ⟨lettersX _, rfl⟩
  · refine evCode_sound Γok _ _ _ ?_
    simp (maxSteps := 4000000) only [push_cast, Int.reduceEq, Int.reduceBNe, Int.reduceBEq, Int.reduceAdd, Int.reduceSub, Int.reduceMul, Int.reduceNeg, Int.reduceLT, Int.reduceLE, Int.reduceToNat, Nat.reduceLT, Nat.reduceAdd, Nat.reduceSub, Nat.reduceMul, Nat.reduceEqDiff, Nat.reduceLeDiff, Nat.reduceBEq, reduceIte, reduceCtorEq, rg3, zc1, tz1, l10, l11, l12, modeV, c4]
    refine call_w (has3_c false true false true true false false false) [] (by simp (maxSteps := 4000000) only [push_cast, Int.reduceEq, Int.reduceBNe, Int.reduceBEq, Int.reduceAdd, Int.reduceSub, Int.reduceMul, Int.reduceNeg, Int.reduceLT, Int.reduceLE, Int.reduceToNat, Nat.reduceLT, Nat.reduceAdd, Nat.reduceSub, Nat.reduceMul, Nat.reduceEqDiff, Nat.reduceLeDiff, Nat.reduceBEq, reduceIte, reduceCtorEq, modeV]) ?_
    rintro sv post ⟨rfl, rfl⟩
    simp (maxSteps := 4000000) only [push_cast, Int.reduceEq, Int.reduceBNe, Int.reduceBEq, Int.reduceAdd, Int.reduceSub, Int.reduceMul, Int.reduceNeg, Int.reduceLT, Int.reduceLE, Int.reduceToNat, Nat.reduceLT, Nat.reduceAdd, Nat.reduceSub, Nat.reduceMul, Nat.reduceEqDiff, Nat.reduceLeDiff, Nat.reduceBEq, reduceIte, reduceCtorEq, wz1]
    refine ⟨⟨2, by omega⟩, (show 4 - 2 < 4 - 1 by decide), Sub.w [0, 1] ?_⟩
    simp (maxSteps := 4000000) only [push_cast, Int.reduceEq, Int.reduceBNe, Int.reduceBEq, Int.reduceAdd, Int.reduceSub, Int.reduceMul, Int.reduceNeg, Int.reduceLT, Int.reduceLE, Int.reduceToNat, Nat.reduceLT, Nat.reduceAdd, Nat.reduceSub, Nat.reduceMul, Nat.reduceEqDiff, Nat.reduceLeDiff, Nat.reduceBEq, reduceIte, reduceCtorEq, modeV, c4]
    exact ⟨lettersX _, rfl⟩
  · refine evCode_sound Γok _ _ _ ?_
    simp (maxSteps := 4000000) only [push_cast, Int.reduceEq, Int.reduceBNe, Int.reduceBEq, Int.reduceAdd, Int.reduceSub, Int.reduceMul, Int.reduceNeg, Int.reduceLT, Int.reduceLE, Int.reduceToNat, Nat.reduceLT, Nat.reduceAdd, Nat.reduceSub, Nat.reduceMul, Nat.reduceEqDiff, Nat.reduceLeDiff, Nat.reduceBEq, reduceIte, reduceCtorEq, rg3, zc2, tz2, l20, l21, l22, modeV, c4]
    refine call_w (has5_c false true false true true false false false) [] (by simp (maxSteps := 4000000) only [push_cast, Int.reduceEq, Int.reduceBNe, Int.reduceBEq, Int.reduceAdd, Int.reduceSub, Int.reduceMul, Int.reduceNeg, Int.reduceLT, Int.reduceLE, Int.reduceToNat, Nat.reduceLT, Nat.reduceAdd, Nat.reduceSub, Nat.reduceMul, Nat.reduceEqDiff, Nat.reduceLeDiff, Nat.reduceBEq, reduceIte, reduceCtorEq, modeV]) ?_
    rintro sv post ⟨rfl, rfl⟩
    simp (maxSteps := 4000000) only [push_cast, Int.reduceEq, Int.reduceBNe, Int.reduceBEq, Int.reduceAdd, Int.reduceSub, Int.reduceMul, Int.reduceNeg, Int.reduceLT, Int.reduceLE, Int.reduceToNat, Nat.reduceLT, Nat.reduceAdd, Nat.reduceSub, Nat.reduceMul, Nat.reduceEqDiff, Nat.reduceLeDiff, Nat.reduceBEq, reduceIte, reduceCtorEq, wz2]
    refine ⟨⟨3, by omega⟩, (show 4 - 3 < 4 - 2 by decide), Sub.w [0, 1] ?_⟩
    simp (maxSteps := 4000000) only [push_cast, Int.reduceEq, Int.reduceBNe, Int.reduceBEq, Int.reduceAdd, Int.reduceSub, Int.reduceMul, Int.reduceNeg, Int.reduceLT, Int.reduceLE, Int.reduceToNat, Nat.reduceLT, Nat.reduceAdd, Nat.reduceSub, Nat.reduceMul, Nat.reduceEqDiff, Nat.reduceLeDiff, Nat.reduceBEq, reduceIte, reduceCtorEq, modeV, c4]
    exact ⟨lettersX _, rfl⟩
  · refine evCode_sound Γok _ _ _ ?_
    simp (maxSteps := 4000000) only [push_cast, Int.reduceEq, Int.reduceBNe, Int.reduceBEq, Int.reduceAdd, Int.reduceSub, Int.reduceMul, Int.reduceNeg, Int.reduceLT, Int.reduceLE, Int.reduceToNat, Nat.reduceLT, Nat.reduceAdd, Nat.reduceSub, Nat.reduceMul, Nat.reduceEqDiff, Nat.reduceLeDiff, Nat.reduceBEq, reduceIte, reduceCtorEq, rg3, zc3, tz3, l30, l31, l32, modeV, c4]
    refine call_w (has7_c false true false true true false false false) [] (by simp (maxSteps := 4000000) only [push_cast, Int.reduceEq, Int.reduceBNe, Int.reduceBEq, Int.reduceAdd, Int.reduceSub, Int.reduceMul, Int.reduceNeg, Int.reduceLT, Int.reduceLE, Int.reduceToNat, Nat.reduceLT, Nat.reduceAdd, Nat.reduceSub, Nat.reduceMul, Nat.reduceEqDiff, Nat.reduceLeDiff, Nat.reduceBEq, reduceIte, reduceCtorEq, modeV]) ?_
    rintro sv post ⟨rfl, rfl⟩
    simp (maxSteps := 4000000) only [push_cast, Int.reduceEq, Int.reduceBNe, Int.reduceBEq, Int.reduceAdd, Int.reduceSub, Int.reduceMul, Int.reduceNeg, Int.reduceLT, Int.reduceLE, Int.reduceToNat, Nat.reduceLT, Nat.reduceAdd, Nat.reduceSub, Nat.reduceMul, Nat.reduceEqDiff, Nat.reduceLeDiff, Nat.reduceBEq, reduceIte, reduceCtorEq, wz3]
    refine ⟨⟨4, by omega⟩, (show 4 - 4 < 4 - 3 by decide), Sub.w [0, 1] ?_⟩
    simp (maxSteps := 4000000) only [push_cast, Int.reduceEq, Int.reduceBNe, Int.reduceBEq, Int.reduceAdd, Int.reduceSub, Int.reduceMul, Int.reduceNeg, Int.reduceLT, Int.reduceLE, Int.reduceToNat, Nat.reduceLT, Nat.reduceAdd, Nat.reduceSub, Nat.reduceMul, Nat.reduceEqDiff, Nat.reduceLeDiff, Nat.reduceBEq, reduceIte, reduceCtorEq, modeV, c4]
    exact ⟨lettersX _, rfl⟩
  refine evCode_sound Γok _ _ _ ?_
  simp (maxSteps := 4000000) only [push_cast, Int.reduceEq, Int.reduceBNe, Int.reduceBEq, Int.reduceAdd, Int.reduceSub, Int.reduceMul, Int.reduceNeg, Int.reduceLT, Int.reduceLE, Int.reduceToNat, Nat.reduceLT, Nat.reduceAdd, Nat.reduceSub, Nat.reduceMul, Nat.reduceEqDiff, Nat.reduceLeDiff, Nat.reduceBEq, reduceIte, reduceCtorEq, c4, modeV]
  refine call_w parseR_c [] (by simp (maxSteps := 4000000) only [push_cast, Int.reduceEq, Int.reduceBNe, Int.reduceBEq, Int.reduceAdd, Int.reduceSub, Int.reduceMul, Int.reduceNeg, Int.reduceLT, Int.reduceLE, Int.reduceToNat, Nat.reduceLT, Nat.reduceAdd, Nat.reduceSub, Nat.reduceMul, Nat.reduceEqDiff, Nat.reduceLeDiff, Nat.reduceBEq, reduceIte, reduceCtorEq]) ?_
  rintro sv post ⟨rfl, rfl⟩
  simp (maxSteps := 4000000) only [push_cast, Int.reduceEq, Int.reduceBNe, Int.reduceBEq, Int.reduceAdd, Int.reduceSub, Int.reduceMul, Int.reduceNeg, Int.reduceLT, Int.reduceLE, Int.reduceToNat, Nat.reduceLT, Nat.reduceAdd, Nat.reduceSub, Nat.reduceMul, Nat.reduceEqDiff, Nat.reduceLeDiff, Nat.reduceBEq, reduceIte, reduceCtorEq, modeV, rg8]
  refine ⟨eqPlainM, ?_⟩
  simp (maxSteps := 4000000) only [push_cast, Int.reduceEq, Int.reduceBNe, Int.reduceBEq, Int.reduceAdd, Int.reduceSub, Int.reduceMul, Int.reduceNeg, Int.reduceLT, Int.reduceLE, Int.reduceToNat, Nat.reduceLT, Nat.reduceAdd, Nat.reduceSub, Nat.reduceMul, Nat.reduceEqDiff, Nat.reduceLeDiff, Nat.reduceBEq, reduceIte, reduceCtorEq, bb1, bb2, Bool.false_and]
  refine evCode_sound Γok _ _ _ ?_
  simp (maxSteps := 4000000) only [push_cast, Int.reduceEq, Int.reduceBNe, Int.reduceBEq, Int.reduceAdd, Int.reduceSub, Int.reduceMul, Int.reduceNeg, Int.reduceLT, Int.reduceLE, Int.reduceToNat, Nat.reduceLT, Nat.reduceAdd, Nat.reduceSub, Nat.reduceMul, Nat.reduceEqDiff, Nat.reduceLeDiff, Nat.reduceBEq, reduceIte, reduceCtorEq]
  refine next_ok Γok 1 b ⟨#[114, 119, 97]⟩ 1 rfl rfl rfl trivial (by simp) ?_
  simp (maxSteps := 4000000) only [push_cast, Int.reduceEq, Int.reduceBNe, Int.reduceBEq, Int.reduceAdd, Int.reduceSub, Int.reduceMul, Int.reduceNeg, Int.reduceLT, Int.reduceLE, Int.reduceToNat, Nat.reduceLT, Nat.reduceAdd, Nat.reduceSub, Nat.reduceMul, Nat.reduceEqDiff, Nat.reduceLeDiff, Nat.reduceBEq, reduceIte, reduceCtorEq, d1, c1, n1, z3]
  refine call_w letters_c [] (by simp (maxSteps := 4000000) only [push_cast, Int.reduceEq, Int.reduceBNe, Int.reduceBEq, Int.reduceAdd, Int.reduceSub, Int.reduceMul, Int.reduceNeg, Int.reduceLT, Int.reduceLE, Int.reduceToNat, Nat.reduceLT, Nat.reduceAdd, Nat.reduceSub, Nat.reduceMul, Nat.reduceEqDiff, Nat.reduceLeDiff, Nat.reduceBEq, reduceIte, reduceCtorEq]) ?_
  rintro sv post ⟨rfl, rfl⟩
  simp (maxSteps := 4000000) only [push_cast, Int.reduceEq, Int.reduceBNe, Int.reduceBEq, Int.reduceAdd, Int.reduceSub, Int.reduceMul, Int.reduceNeg, Int.reduceLT, Int.reduceLE, Int.reduceToNat, Nat.reduceLT, Nat.reduceAdd, Nat.reduceSub, Nat.reduceMul, Nat.reduceEqDiff, Nat.reduceLeDiff, Nat.reduceBEq, reduceIte, reduceCtorEq]
  refine loop_ok (ι := {i : Nat // i ≤ 4})
    (fun i => ⟨[modeV false true false true true false false false, .ptr 0 0, .any, .any, .any, .any, .s ⟨#[119]⟩, .any, .any, .any, .any, .any, .raw (.pointer (some ⟨b, 0, none⟩)), .any, .any, .any, .any, .any, .sl 3 .new 4 (elOf lettersV), .i .i64 4, .i .i64 i.1] ++ List.replicate 28 .any, [(0, 65, [.b false, .b true, .b false, .b true, .b true, .b false, .b false, .b false])], [], [(1, RObj b (.stringIter ⟨#[114, 119, 97]⟩ 2))], 2, 0, []⟩) (fun i => 4 - i.1) ⟨0, by omega⟩ ?_ ?_
  · refine Sub.w [0, 1] ?_
    simp (maxSteps := 4000000) only [push_cast, Int.reduceEq, Int.reduceBNe, Int.reduceBEq, Int.reduceAdd, Int.reduceSub, Int.reduceMul, Int.reduceNeg, Int.reduceLT, Int.reduceLE, Int.reduceToNat, Nat.reduceLT, Nat.reduceAdd, Nat.reduceSub, Nat.reduceMul, Nat.reduceEqDiff, Nat.reduceLeDiff, Nat.reduceBEq, reduceIte, reduceCtorEq, modeV, n1]
    exact lettersW _ _
  rintro ⟨i, hi⟩
  have h5 : i = 0 ∨ i = 1 ∨ i = 2 ∨ i = 3 ∨ i = 4 := by omega
  rcases h5 with rfl | rfl | rfl | rfl | rfl
  · refine evCode_sound Γok _ _ _ ?_
    simp (maxSteps := 4000000) only [push_cast, Int.reduceEq, Int.reduceBNe, Int.reduceBEq, Int.reduceAdd, Int.reduceSub, Int.reduceMul, Int.reduceNeg, Int.reduceLT, Int.reduceLE, Int.reduceToNat, Nat.reduceLT, Nat.reduceAdd, Nat.reduceSub, Nat.reduceMul, Nat.reduceEqDiff, Nat.reduceLeDiff, Nat.reduceBEq, reduceIte, reduceCtorEq, rg3, zc0, tz0, l00, l01, l02, modeV, c4]
    refine call_w (has1_c false true false true true false false false) [] (by simp (maxSteps := 4000000) only [push_cast, Int.reduceEq, Int.reduceBNe, Int.reduceBEq, Int.reduceAdd, Int.reduceSub, Int.reduceMul, Int.reduceNeg, Int.reduceLT, Int.reduceLE, Int.reduceToNat, Nat.reduceLT, Nat.reduceAdd, Nat.reduceSub, Nat.reduceMul, Nat.reduceEqDiff, Nat.reduceLeDiff, Nat.reduceBEq, reduceIte, reduceCtorEq, modeV]) ?_
    rintro sv post ⟨rfl, rfl⟩
    simp (maxSteps := 4000000) only [push_cast, Int.reduceEq, Int.reduceBNe, Int.reduceBEq, Int.reduceAdd, Int.reduceSub, Int.reduceMul, Int.reduceNeg, Int.reduceLT, Int.reduceLE, Int.reduceToNat, Nat.reduceLT, Nat.reduceAdd, Nat.reduceSub, Nat.reduceMul, Nat.reduceEqDiff, Nat.reduceLeDiff, Nat.reduceBEq, reduceIte, reduceCtorEq, wz0]
    refine ⟨⟨1, by omega⟩, (show 4 - 1 < 4 - 0 by decide), Sub.w [0, 1] ?_⟩
    simp (maxSteps := 4000000) only [push_cast, Int.reduceEq, Int.reduceBNe, Int.reduceBEq, Int.reduceAdd, Int.reduceSub, Int.reduceMul, Int.reduceNeg, Int.reduceLT, Int.reduceLE, Int.reduceToNat, Nat.reduceLT, Nat.reduceAdd, Nat.reduceSub, Nat.reduceMul, Nat.reduceEqDiff, Nat.reduceLeDiff, Nat.reduceBEq, reduceIte, reduceCtorEq, modeV, c4]
    exact ⟨lettersX _, rfl⟩
  · refine evCode_sound Γok _ _ _ ?_
    simp (maxSteps := 4000000) only [push_cast, Int.reduceEq, Int.reduceBNe, Int.reduceBEq, Int.reduceAdd, Int.reduceSub, Int.reduceMul, Int.reduceNeg, Int.reduceLT, Int.reduceLE, Int.reduceToNat, Nat.reduceLT, Nat.reduceAdd, Nat.reduceSub, Nat.reduceMul, Nat.reduceEqDiff, Nat.reduceLeDiff, Nat.reduceBEq, reduceIte, reduceCtorEq, rg3, zc1, tz1, l10, l11, l12, modeV, c4]
    refine call_w (has3_c false true false true true false false false) [] (by simp (maxSteps := 4000000) only [push_cast, Int.reduceEq, Int.reduceBNe, Int.reduceBEq, Int.reduceAdd, Int.reduceSub, Int.reduceMul, Int.reduceNeg, Int.reduceLT, Int.reduceLE, Int.reduceToNat, Nat.reduceLT, Nat.reduceAdd, Nat.reduceSub, Nat.reduceMul, Nat.reduceEqDiff, Nat.reduceLeDiff, Nat.reduceBEq, reduceIte, reduceCtorEq, modeV]) ?_
    rintro sv post ⟨rfl, rfl⟩
    simp (maxSteps := 4000000) only [push_cast, Int.reduceEq, Int.reduceBNe, Int.reduceBEq, Int.reduceAdd, Int.reduceSub, Int.reduceMul, Int.reduceNeg, Int.reduceLT, Int.reduceLE, Int.reduceToNat, Nat.reduceLT, Nat.reduceAdd, Nat.reduceSub, Nat.reduceMul, Nat.reduceEqDiff, Nat.reduceLeDiff, Nat.reduceBEq, reduceIte, reduceCtorEq, wz1]
    refine ⟨⟨2, by omega⟩, (show 4 - 2 < 4 - 1 by decide), Sub.w [0, 1] ?_⟩
    simp (maxSteps := 4000000) only [push_cast, Int.reduceEq, Int.reduceBNe, Int.reduceBEq, Int.reduceAdd, Int.reduceSub, Int.reduceMul, Int.reduceNeg, Int.reduceLT, Int.reduceLE, Int.reduceToNat, Nat.reduceLT, Nat.reduceAdd, Nat.reduceSub, Nat.reduceMul, Nat.reduceEqDiff, Nat.reduceLeDiff, Nat.reduceBEq, reduceIte, reduceCtorEq, modeV, c4]
    exact ⟨lettersX _, rfl⟩
  · refine evCode_sound Γok _ _ _ ?_
    simp (maxSteps := 4000000) only [push_cast, Int.reduceEq, Int.reduceBNe, Int.reduceBEq, Int.reduceAdd, Int.reduceSub, Int.reduceMul, Int.reduceNeg, Int.reduceLT, Int.reduceLE, Int.reduceToNat, Nat.reduceLT, Nat.reduceAdd, Nat.reduceSub, Nat.reduceMul, Nat.reduceEqDiff, Nat.reduceLeDiff, Nat.reduceBEq, reduceIte, reduceCtorEq, rg3, zc2, tz2, l20, l21, l22, modeV, c4]
    refine call_w (has5_c false true false true true false false false) [] (by simp (maxSteps := 4000000) only [push_cast, Int.reduceEq, Int.reduceBNe, Int.reduceBEq, Int.reduceAdd, Int.reduceSub, Int.reduceMul, Int.reduceNeg, Int.reduceLT, Int.reduceLE, Int.reduceToNat, Nat.reduceLT, Nat.reduceAdd, Nat.reduceSub, Nat.reduceMul, Nat.reduceEqDiff, Nat.reduceLeDiff, Nat.reduceBEq, reduceIte, reduceCtorEq, modeV]) ?_
    rintro sv post ⟨rfl, rfl⟩
    simp (maxSteps := 4000000) only [push_cast, Int.reduceEq, Int.reduceBNe, Int.reduceBEq, Int.reduceAdd, Int.reduceSub, Int.reduceMul, Int.reduceNeg, Int.reduceLT, Int.reduceLE, Int.reduceToNat, Nat.reduceLT, Nat.reduceAdd, Nat.reduceSub, Nat.reduceMul, Nat.reduceEqDiff, Nat.reduceLeDiff, Nat.reduceBEq, reduceIte, reduceCtorEq, wz2]
    refine ⟨⟨3, by omega⟩, (show 4 - 3 < 4 - 2 by decide), Sub.w [0, 1] ?_⟩
    simp (maxSteps := 4000000) only [push_cast, Int.reduceEq, Int.reduceBNe, Int.reduceBEq, Int.reduceAdd, Int.reduceSub, Int.reduceMul, Int.reduceNeg, Int.reduceLT, Int.reduceLE, Int.reduceToNat, Nat.reduceLT, Nat.reduceAdd, Nat.reduceSub, Nat.reduceMul, Nat.reduceEqDiff, Nat.reduceLeDiff, Nat.reduceBEq, reduceIte, reduceCtorEq, modeV, c4]
    exact ⟨lettersX _, rfl⟩
  · refine evCode_sound Γok _ _ _ ?_
    simp (maxSteps := 4000000) only [push_cast, Int.reduceEq, Int.reduceBNe, Int.reduceBEq, Int.reduceAdd, Int.reduceSub, Int.reduceMul, Int.reduceNeg, Int.reduceLT, Int.reduceLE, Int.reduceToNat, Nat.reduceLT, Nat.reduceAdd, Nat.reduceSub, Nat.reduceMul, Nat.reduceEqDiff, Nat.reduceLeDiff, Nat.reduceBEq, reduceIte, reduceCtorEq, rg3, zc3, tz3, l30, l31, l32, modeV, c4]
    refine call_w (has7_c false true false true true false false false) [] (by simp (maxSteps := 4000000) only [push_cast, Int.reduceEq, Int.reduceBNe, Int.reduceBEq, Int.reduceAdd, Int.reduceSub, Int.reduceMul, Int.reduceNeg, Int.reduceLT, Int.reduceLE, Int.reduceToNat, Nat.reduceLT, Nat.reduceAdd, Nat.reduceSub, Nat.reduceMul, Nat.reduceEqDiff, Nat.reduceLeDiff, Nat.reduceBEq, reduceIte, reduceCtorEq, modeV]) ?_
    rintro sv post ⟨rfl, rfl⟩
    simp (maxSteps := 4000000) only [push_cast, Int.reduceEq, Int.reduceBNe, Int.reduceBEq, Int.reduceAdd, Int.reduceSub, Int.reduceMul, Int.reduceNeg, Int.reduceLT, Int.reduceLE, Int.reduceToNat, Nat.reduceLT, Nat.reduceAdd, Nat.reduceSub, Nat.reduceMul, Nat.reduceEqDiff, Nat.reduceLeDiff, Nat.reduceBEq, reduceIte, reduceCtorEq, wz3]
    refine ⟨⟨4, by omega⟩, (show 4 - 4 < 4 - 3 by decide), Sub.w [0, 1] ?_⟩
    simp (maxSteps := 4000000) only [push_cast, Int.reduceEq, Int.reduceBNe, Int.reduceBEq, Int.reduceAdd, Int.reduceSub, Int.reduceMul, Int.reduceNeg, Int.reduceLT, Int.reduceLE, Int.reduceToNat, Nat.reduceLT, Nat.reduceAdd, Nat.reduceSub, Nat.reduceMul, Nat.reduceEqDiff, Nat.reduceLeDiff, Nat.reduceBEq, reduceIte, reduceCtorEq, modeV, c4]
    exact ⟨lettersX _, rfl⟩
  refine evCode_sound Γok _ _ _ ?_
  simp (maxSteps := 4000000) only [push_cast, Int.reduceEq, Int.reduceBNe, Int.reduceBEq, Int.reduceAdd, Int.reduceSub, Int.reduceMul, Int.reduceNeg, Int.reduceLT, Int.reduceLE, Int.reduceToNat, Nat.reduceLT, Nat.reduceAdd, Nat.reduceSub, Nat.reduceMul, Nat.reduceEqDiff, Nat.reduceLeDiff, Nat.reduceBEq, reduceIte, reduceCtorEq, c4, modeV]
  refine call_w parseW_c [] (by simp (maxSteps := 4000000) only [push_cast, Int.reduceEq, Int.reduceBNe, Int.reduceBEq, Int.reduceAdd, Int.reduceSub, Int.reduceMul, Int.reduceNeg, Int.reduceLT, Int.reduceLE, Int.reduceToNat, Nat.reduceLT, Nat.reduceAdd, Nat.reduceSub, Nat.reduceMul, Nat.reduceEqDiff, Nat.reduceLeDiff, Nat.reduceBEq, reduceIte, reduceCtorEq]) ?_
  rintro sv post ⟨rfl, rfl⟩
  simp (maxSteps := 4000000) only [push_cast, Int.reduceEq, Int.reduceBNe, Int.reduceBEq, Int.reduceAdd, Int.reduceSub, Int.reduceMul, Int.reduceNeg, Int.reduceLT, Int.reduceLE, Int.reduceToNat, Nat.reduceLT, Nat.reduceAdd, Nat.reduceSub, Nat.reduceMul, Nat.reduceEqDiff, Nat.reduceLeDiff, Nat.reduceBEq, reduceIte, reduceCtorEq, modeV, rg8]
  exact ⟨eqPlainM, Fin.nil rfl (psv := .tup [.s ⟨#[119]⟩, .i .i64 0]) (by simp (maxSteps := 4000000) only [push_cast, Int.reduceEq, Int.reduceBNe, Int.reduceBEq, Int.reduceAdd, Int.reduceSub, Int.reduceMul, Int.reduceNeg, Int.reduceLT, Int.reduceLE, Int.reduceToNat, Nat.reduceLT, Nat.reduceAdd, Nat.reduceSub, Nat.reduceMul, Nat.reduceEqDiff, Nat.reduceLeDiff, Nat.reduceBEq, reduceIte, reduceCtorEq]) ⟨rfl, rfl⟩⟩

end Go.Proofs.Ytciokebdmnaobaa
/- The letters of the modes that the laws open with. -/
namespace Go.Proofs.Ytciokebdmnaobaa
open Go Go.Eng
set_option maxHeartbeats 4000000
set_option linter.unusedSimpArgs false
set_option linter.unusedVariables false
set_option maxRecDepth 100000

theorem printA_c : Contract Try.prog 58 nilSS [modeV false true true true false false false false] (fun sv post => sv = .tup [.s ⟨#[97]⟩, .i .i64 0] ∧ post = nilSS) := by
  have d0 : Utf8.decode ⟨#[114, 119, 97]⟩ 0 = (114, 1) := by decide
  have c0 : ((114 : Nat) : Int) = 114 := rfl
  have n0 : Utf8.encode 114 = ⟨#[114]⟩ := by decide
  have d1 : Utf8.decode ⟨#[114, 119, 97]⟩ 1 = (119, 1) := by decide
  have c1 : ((119 : Nat) : Int) = 119 := rfl
  have n1 : Utf8.encode 119 = ⟨#[119]⟩ := by decide
  have d2 : Utf8.decode ⟨#[114, 119, 97]⟩ 2 = (97, 1) := by decide
  have c2 : ((97 : Nat) : Int) = 97 := rfl
  have n2 : Utf8.encode 97 = ⟨#[97]⟩ := by decide
  have z3 : (⟨#[114, 119, 97]⟩ : ByteArray).size = 3 := rfl
  have c4 : ((4 : Nat) : Int) = 4 := rfl
  have bb1 : (true == false) = false := rfl
  have bb2 : (false == true) = false := rfl
  refine contract_ev Γok Try.func58 rfl rfl [2] ?_
  simp (maxSteps := 4000000) only [push_cast, Int.reduceEq, Int.reduceBNe, Int.reduceBEq, Int.reduceAdd, Int.reduceSub, Int.reduceMul, Int.reduceNeg, Int.reduceLT, Int.reduceLE, Int.reduceToNat, Nat.reduceLT, Nat.reduceAdd, Nat.reduceSub, Nat.reduceMul, Nat.reduceEqDiff, Nat.reduceLeDiff, Nat.reduceBEq, reduceIte, reduceCtorEq, Try.f58, modeV]
  intro b
  refine loop_unroll 3 ?_
  simp (maxSteps := 4000000) only [push_cast, Int.reduceEq, Int.reduceBNe, Int.reduceBEq, Int.reduceAdd, Int.reduceSub, Int.reduceMul, Int.reduceNeg, Int.reduceLT, Int.reduceLE, Int.reduceToNat, Nat.reduceLT, Nat.reduceAdd, Nat.reduceSub, Nat.reduceMul, Nat.reduceEqDiff, Nat.reduceLeDiff, Nat.reduceBEq, reduceIte, reduceCtorEq]
  refine evCode_sound Γok _ _ _ ?_
  simp (maxSteps := 4000000) only [push_cast, Int.reduceEq, Int.reduceBNe, Int.reduceBEq, Int.reduceAdd, Int.reduceSub, Int.reduceMul, Int.reduceNeg, Int.reduceLT, Int.reduceLE, Int.reduceToNat, Nat.reduceLT, Nat.reduceAdd, Nat.reduceSub, Nat.reduceMul, Nat.reduceEqDiff, Nat.reduceLeDiff, Nat.reduceBEq, reduceIte, reduceCtorEq]
  refine next_ok Γok 1 b ⟨#[114, 119, 97]⟩ 0 rfl rfl rfl trivial (by simp) ?_
  simp (maxSteps := 4000000) only [push_cast, Int.reduceEq, Int.reduceBNe, Int.reduceBEq, Int.reduceAdd, Int.reduceSub, Int.reduceMul, Int.reduceNeg, Int.reduceLT, Int.reduceLE, Int.reduceToNat, Nat.reduceLT, Nat.reduceAdd, Nat.reduceSub, Nat.reduceMul, Nat.reduceEqDiff, Nat.reduceLeDiff, Nat.reduceBEq, reduceIte, reduceCtorEq, d0, c0, n0, z3]
  refine call_w letters_c [] (by simp (maxSteps := 4000000) only [push_cast, Int.reduceEq, Int.reduceBNe, Int.reduceBEq, Int.reduceAdd, Int.reduceSub, Int.reduceMul, Int.reduceNeg, Int.reduceLT, Int.reduceLE, Int.reduceToNat, Nat.reduceLT, Nat.reduceAdd, Nat.reduceSub, Nat.reduceMul, Nat.reduceEqDiff, Nat.reduceLeDiff, Nat.reduceBEq, reduceIte, reduceCtorEq]) ?_
  rintro sv post ⟨rfl, rfl⟩
  simp (maxSteps := 4000000) only [push_cast, Int.reduceEq, Int.reduceBNe, Int.reduceBEq, Int.reduceAdd, Int.reduceSub, Int.reduceMul, Int.reduceNeg, Int.reduceLT, Int.reduceLE, Int.reduceToNat, Nat.reduceLT, Nat.reduceAdd, Nat.reduceSub, Nat.reduceMul, Nat.reduceEqDiff, Nat.reduceLeDiff, Nat.reduceBEq, reduceIte, reduceCtorEq]
  refine loop_ok (ι := {i : Nat // i ≤ 4})
    (fun i => ⟨[modeV false true true true false false false false, .ptr 0 0, .any, .any, .any, .any, .s ⟨#[114]⟩, .any, .any, .any, .any, .any, .raw (.pointer (some ⟨b, 0, none⟩)), .any, .any, .any, .any, .any, .sl 3 .new 4 (elOf lettersV), .i .i64 4, .i .i64 i.1] ++ List.replicate 28 .any, [(0, 65, [.b false, .b true, .b true, .b true, .b false, .b false, .b false, .b false])], [], [(1, RObj b (.stringIter ⟨#[114, 119, 97]⟩ 1))], 2, 0, []⟩) (fun i => 4 - i.1) ⟨0, by omega⟩ ?_ ?_
  · refine Sub.w [0, 1] ?_
    simp (maxSteps := 4000000) only [push_cast, Int.reduceEq, Int.reduceBNe, Int.reduceBEq, Int.reduceAdd, Int.reduceSub, Int.reduceMul, Int.reduceNeg, Int.reduceLT, Int.reduceLE, Int.reduceToNat, Nat.reduceLT, Nat.reduceAdd, Nat.reduceSub, Nat.reduceMul, Nat.reduceEqDiff, Nat.reduceLeDiff, Nat.reduceBEq, reduceIte, reduceCtorEq, modeV, n0]
    exact lettersW _ _
  rintro ⟨i, hi⟩
  have h5 : i = 0 ∨ i = 1 ∨ i = 2 ∨ i = 3 ∨ i = 4 := by omega
  rcases h5 with rfl | rfl | rfl | rfl | rfl
  · refine evCode_sound Γok _ _ _ ?_
    simp (maxSteps := 4000000) only [push_cast, Int.reduceEq, Int.reduceBNe, Int.reduceBEq, Int.reduceAdd, Int.reduceSub, Int.reduceMul, Int.reduceNeg, Int.reduceLT, Int.reduceLE, Int.reduceToNat, Nat.reduceLT, Nat.reduceAdd, Nat.reduceSub, Nat.reduceMul, Nat.reduceEqDiff, Nat.reduceLeDiff, Nat.reduceBEq, reduceIte, reduceCtorEq, rg3, zc0, tz0, l00, l01, l02, modeV, c4]
    refine call_w (has1_c false true true true false false false false) [] (by simp (maxSteps := 4000000) only [push_cast, Int.reduceEq, Int.reduceBNe, Int.reduceBEq, Int.reduceAdd, Int.reduceSub, Int.reduceMul, Int.reduceNeg, Int.reduceLT, Int.reduceLE, Int.reduceToNat, Nat.reduceLT, Nat.reduceAdd, Nat.reduceSub, Nat.reduceMul, Nat.reduceEqDiff, Nat.reduceLeDiff, Nat.reduceBEq, reduceIte, reduceCtorEq, modeV]) ?_
    rintro sv post ⟨rfl, rfl⟩
    simp (maxSteps := 4000000) only [push_cast, Int.reduceEq, Int.reduceBNe, Int.reduceBEq, Int.reduceAdd, Int.reduceSub, Int.reduceMul, Int.reduceNeg, Int.reduceLT, Int.reduceLE, Int.reduceToNat, Nat.reduceLT, Nat.reduceAdd, Nat.reduceSub, Nat.reduceMul, Nat.reduceEqDiff, Nat.reduceLeDiff, Nat.reduceBEq, reduceIte, reduceCtorEq, wz0]
    refine ⟨⟨1, by omega⟩, (show 4 - 1 < 4 - 0 by decide), Sub.w [0, 1] ?_⟩
    simp (maxSteps := 4000000) only [push_cast, Int.reduceEq, Int.reduceBNe, Int.reduceBEq, Int.reduceAdd, Int.reduceSub, Int.reduceMul, Int.reduceNeg, Int.reduceLT, Int.reduceLE, Int.reduceToNat, Nat.reduceLT, Nat.reduceAdd, Nat.reduceSub, Nat.reduceMul, Nat.reduceEqDiff, Nat.reduceLeDiff, Nat.reduceBEq, reduceIte, reduceCtorEq, modeV, c4]
    exact ⟨lettersX _, rfl⟩
  · refine evCode_sound Γok _ _ _ ?_
    simp (maxSteps := 4000000) only [push_cast, Int.reduceEq, Int.reduceBNe, Int.reduceBEq, Int.reduceAdd, Int.reduceSub, Int.reduceMul, Int.reduceNeg, Int.reduceLT, Int.reduceLE, Int.reduceToNat, Nat.reduceLT, Nat.reduceAdd, Nat.reduceSub, Nat.reduceMul, Nat.reduceEqDiff, Nat.reduceLeDiff, Nat.reduceBEq, reduceIte, reduceCtorEq, rg3, zc1, tz1, l10, l11, l12, modeV, c4]
    refine call_w (has3_c false true true true false false false false) [] (by simp (maxSteps := 4000000) only [push_cast, Int.reduceEq, Int.reduceBNe, Int.reduceBEq, Int.reduceAdd, Int.reduceSub, Int.reduceMul, Int.reduceNeg, Int.reduceLT, Int.reduceLE, Int.reduceToNat, Nat.reduceLT, Nat.reduceAdd, Nat.reduceSub, Nat.reduceMul, Nat.reduceEqDiff, Nat.reduceLeDiff, Nat.reduceBEq, reduceIte, reduceCtorEq, modeV]) ?_
    rintro sv post ⟨rfl, rfl⟩
    simp (maxSteps := 4000000) only [push_cast, Int.reduceEq, Int.reduceBNe, Int.reduceBEq, Int.reduceAdd, Int.reduceSub, Int.reduceMul, Int.reduceNeg, Int.reduceLT, Int.reduceLE, Int.reduceToNat, Nat.reduceLT, Nat.reduceAdd, Nat.reduceSub, Nat.reduceMul, Nat.reduceEqDiff, Nat.reduceLeDiff, Nat.reduceBEq, reduceIte, reduceCtorEq, wz1]
    refine ⟨⟨2, by omega⟩, (show 4 - 2 < 4 - 1 by decide), Sub.w [0, 1] ?_⟩
    simp (maxSteps := 4000000) only [push_cast, Int.reduceEq, Int.reduceBNe, Int.reduceBEq, Int.reduceAdd, Int.reduceSub, Int.reduceMul, Int.reduceNeg, Int.reduceLT, Int.reduceLE, Int.reduceToNat, Nat.reduceLT, Nat.reduceAdd, Nat.reduceSub, Nat.reduceMul, Nat.reduceEqDiff, Nat.reduceLeDiff, Nat.reduceBEq, reduceIte, reduceCtorEq, modeV, c4]
    exact ⟨lettersX _, rfl⟩
  · refine evCode_sound Γok _ _ _ ?_
    simp (maxSteps := 4000000) only [push_cast, Int.reduceEq, Int.reduceBNe, Int.reduceBEq, Int.reduceAdd, Int.reduceSub, Int.reduceMul, Int.reduceNeg, Int.reduceLT, Int.reduceLE, Int.reduceToNat, Nat.reduceLT, Nat.reduceAdd, Nat.reduceSub, Nat.reduceMul, Nat.reduceEqDiff, Nat.reduceLeDiff, Nat.reduceBEq, reduceIte, reduceCtorEq, rg3, zc2, tz2, l20, l21, l22, modeV, c4]
    refine call_w (has5_c false true true true false false false false) [] (by simp (maxSteps := 4000000) only [push_cast, Int.reduceEq, Int.reduceBNe, Int.reduceBEq, Int.reduceAdd, Int.reduceSub, Int.reduceMul, Int.reduceNeg, Int.reduceLT, Int.reduceLE, Int.reduceToNat, Nat.reduceLT, Nat.reduceAdd, Nat.reduceSub, Nat.reduceMul, Nat.reduceEqDiff, Nat.reduceLeDiff, Nat.reduceBEq, reduceIte, reduceCtorEq, modeV]) ?_
    rintro sv post ⟨rfl, rfl⟩
    simp (maxSteps := 4000000) only [push_cast, Int.reduceEq, Int.reduceBNe, Int.reduceBEq, Int.reduceAdd, Int.reduceSub, Int.reduceMul, Int.reduceNeg, Int.reduceLT, Int.reduceLE, Int.reduceToNat, Nat.reduceLT, Nat.reduceAdd, Nat.reduceSub, Nat.reduceMul, Nat.reduceEqDiff, Nat.reduceLeDiff, Nat.reduceBEq, reduceIte, reduceCtorEq, wz2]
    refine ⟨⟨3, by omega⟩, (show 4 - 3 < 4 - 2 by decide), Sub.w [0, 1] ?_⟩
    simp (maxSteps := 4000000) only [push_cast, Int.reduceEq, Int.reduceBNe, Int.reduceBEq, Int.reduceAdd, Int.reduceSub, Int.reduceMul, Int.reduceNeg, Int.reduceLT, Int.reduceLE, Int.reduceToNat, Nat.reduceLT, Nat.reduceAdd, Nat.reduceSub, Nat.reduceMul, Nat.reduceEqDiff, Nat.reduceLeDiff, Nat.reduceBEq, reduceIte, reduceCtorEq, modeV, c4]
    exact ⟨lettersX _, rfl⟩
  · refine evCode_sound Γok _ _ _ ?_
    simp (maxSteps := 4000000) only [push_cast, Int.reduceEq, Int.reduceBNe, Int.reduceBEq, Int.reduceAdd, Int.reduceSub, Int.reduceMul, Int.reduceNeg, Int.reduceLT, Int.reduceLE, Int.reduceToNat, Nat.reduceLT, Nat.reduceAdd, Nat.reduceSub, Nat.reduceMul, Nat.reduceEqDiff, Nat.reduceLeDiff, Nat.reduceBEq, reduceIte, reduceCtorEq, rg3, zc3, tz3, l30, l31, l32, modeV, c4]
    refine call_w (has7_c false true true true false false false false) [] (by simp (maxSteps := 4000000) only [push_cast, Int.reduceEq, Int.reduceBNe, Int.reduceBEq, Int.reduceAdd, Int.reduceSub, Int.reduceMul, Int.reduceNeg, Int.reduceLT, Int.reduceLE, Int.reduceToNat, Nat.reduceLT, Nat.reduceAdd, Nat.reduceSub, Nat.reduceMul, Nat.reduceEqDiff, Nat.reduceLeDiff, Nat.reduceBEq, reduceIte, reduceCtorEq, modeV]) ?_
    rintro sv post ⟨rfl, rfl⟩
    simp (maxSteps := 4000000) only [push_cast, Int.reduceEq, Int.reduceBNe, Int.reduceBEq, Int.reduceAdd, Int.reduceSub, Int.reduceMul, Int.reduceNeg, Int.reduceLT, Int.reduceLE, Int.reduceToNat, Nat.reduceLT, Nat.reduceAdd, Nat.reduceSub, Nat.reduceMul, Nat.reduceEqDiff, Nat.reduceLeDiff, Nat.reduceBEq, reduceIte, reduceCtorEq, wz3]
    refine ⟨⟨4, by omega⟩, (show 4 - 4 < 4 - 3 by decide), Sub.w [0, 1] ?_⟩
    simp (maxSteps := 4000000) only [push_cast, Int.reduceEq, Int.reduceBNe, Int.reduceBEq, Int.reduceAdd, Int.reduceSub, Int.reduceMul, Int.reduceNeg, Int.reduceLT, Int.reduceLE, Int.reduceToNat, Nat.reduceLT, Nat.reduceAdd, Nat.reduceSub, Nat.reduceMul, Nat.reduceEqDiff, Nat.reduceLeDiff, Nat.reduceBEq, reduceIte, reduceCtorEq, modeV, c4]
    exact ⟨lettersX _, rfl⟩
  refine evCode_sound Γok _ _ _ ?_
  simp (maxSteps := 4000000) only [push_cast, Int.reduceEq, Int.reduceBNe, Int.reduceBEq, Int.reduceAdd, Int.reduceSub, Int.reduceMul, Int.reduceNeg, Int.reduceLT, Int.reduceLE, Int.reduceToNat, Nat.reduceLT, Nat.reduceAdd, Nat.reduceSub, Nat.reduceMul, Nat.reduceEqDiff, Nat.reduceLeDiff, Nat.reduceBEq, reduceIte, reduceCtorEq, c4, modeV]
  refine call_w parseR_c [] (by simp (maxSteps := 4000000) only [push_cast, Int.reduceEq, Int.reduceBNe, Int.reduceBEq, Int.reduceAdd, Int.reduceSub, Int.reduceMul, Int.reduceNeg, Int.reduceLT, Int.reduceLE, Int.reduceToNat, Nat.reduceLT, Nat.reduceAdd, Nat.reduceSub, Nat.reduceMul, Nat.reduceEqDiff, Nat.reduceLeDiff, Nat.reduceBEq, reduceIte, reduceCtorEq]) ?_
  rintro sv post ⟨rfl, rfl⟩
  simp (maxSteps := 4000000) only [push_cast, Int.reduceEq, Int.reduceBNe, Int.reduceBEq, Int.reduceAdd, Int.reduceSub, Int.reduceMul, Int.reduceNeg, Int.reduceLT, Int.reduceLE, Int.reduceToNat, Nat.reduceLT, Nat.reduceAdd, Nat.reduceSub, Nat.reduceMul, Nat.reduceEqDiff, Nat.reduceLeDiff, Nat.reduceBEq, reduceIte, reduceCtorEq, modeV, rg8]
  refine ⟨eqPlainM, ?_⟩
  simp (maxSteps := 4000000) only [push_cast, Int.reduceEq, Int.reduceBNe, Int.reduceBEq, Int.reduceAdd, Int.reduceSub, Int.reduceMul, Int.reduceNeg, Int.reduceLT, Int.reduceLE, Int.reduceToNat, Nat.reduceLT, Nat.reduceAdd, Nat.reduceSub, Nat.reduceMul, Nat.reduceEqDiff, Nat.reduceLeDiff, Nat.reduceBEq, reduceIte, reduceCtorEq, bb1, bb2, Bool.false_and]
  refine evCode_sound Γok _ _ _ ?_
  simp (maxSteps := 4000000) only [push_cast, Int.reduceEq, Int.reduceBNe, Int.reduceBEq, Int.reduceAdd, Int.reduceSub, Int.reduceMul, Int.reduceNeg, Int.reduceLT, Int.reduceLE, Int.reduceToNat, Nat.reduceLT, Nat.reduceAdd, Nat.reduceSub, Nat.reduceMul, Nat.reduceEqDiff, Nat.reduceLeDiff, Nat.reduceBEq, reduceIte, reduceCtorEq]
  refine next_ok Γok 1 b ⟨#[114, 119, 97]⟩ 1 rfl rfl rfl trivial (by simp) ?_
  simp (maxSteps := 4000000) only [push_cast, Int.reduceEq, Int.reduceBNe, Int.reduceBEq, Int.reduceAdd, Int.reduceSub, Int.reduceMul, Int.reduceNeg, Int.reduceLT, Int.reduceLE, Int.reduceToNat, Nat.reduceLT, Nat.reduceAdd, Nat.reduceSub, Nat.reduceMul, Nat.reduceEqDiff, Nat.reduceLeDiff, Nat.reduceBEq, reduceIte, reduceCtorEq, d1, c1, n1, z3]
  refine call_w letters_c [] (by simp (maxSteps := 4000000) only [push_cast, Int.reduceEq, Int.reduceBNe, Int.reduceBEq, Int.reduceAdd, Int.reduceSub, Int.reduceMul, Int.reduceNeg, Int.reduceLT, Int.reduceLE, Int.reduceToNat, Nat.reduceLT, Nat.reduceAdd, Nat.reduceSub, Nat.reduceMul, Nat.reduceEqDiff, Nat.reduceLeDiff, Nat.reduceBEq, reduceIte, reduceCtorEq]) ?_
  rintro sv post ⟨rfl, rfl⟩
  simp (maxSteps := 4000000) only [push_cast, Int.reduceEq, Int.reduceBNe, Int.reduceBEq, Int.reduceAdd, Int.reduceSub, Int.reduceMul, Int.reduceNeg, Int.reduceLT, Int.reduceLE, Int.reduceToNat, Nat.reduceLT, Nat.reduceAdd, Nat.reduceSub, Nat.reduceMul, Nat.reduceEqDiff, Nat.reduceLeDiff, Nat.reduceBEq, reduceIte, reduceCtorEq]
  refine loop_ok (ι := {i : Nat // i ≤ 4})
    (fun i => ⟨[modeV false true true true false false false false, .ptr 0 0, .any, .any, .any, .any, .s ⟨#[119]⟩, .any, .any, .any, .any, .any, .raw (.pointer (some ⟨b, 0, none⟩)), .any, .any, .any, .any, .any, .sl 3 .new 4 (elOf lettersV), .i .i64 4, .i .i64 i.1] ++ List.replicate 28 .any, [(0, 65, [.b false, .b true, .b true, .b true, .b false, .b false, .b false, .b false])], [], [(1, RObj b (.stringIter ⟨#[114, 119, 97]⟩ 2))], 2, 0, []⟩) (fun i => 4 - i.1) ⟨0, by omega⟩ ?_ ?_
  · refine Sub.w [0, 1] ?_
    simp (maxSteps := 4000000) only [push_cast, Int.reduceEq, Int.reduceBNe, Int.reduceBEq, Int.reduceAdd, Int.reduceSub, Int.reduceMul, Int.reduceNeg, Int.reduceLT, Int.reduceLE, Int.reduceToNat, Nat.reduceLT, Nat.reduceAdd, Nat.reduceSub, Nat.reduceMul, Nat.reduceEqDiff, Nat.reduceLeDiff, Nat.reduceBEq, reduceIte, reduceCtorEq, modeV, n1]
    exact lettersW _ _
  rintro ⟨i, hi⟩
  have h5 : i = 0 ∨ i = 1 ∨ i = 2 ∨ i = 3 ∨ i = 4 := by omega
  rcases h5 with rfl | rfl | rfl | rfl | rfl
  · refine evCode_sound Γok _ _ _ ?_
    simp (maxSteps := 4000000) only [push_cast, Int.reduceEq, Int.reduceBNe, Int.reduceBEq, Int.reduceAdd, Int.reduceSub, Int.reduceMul, Int.reduceNeg, Int.reduceLT, Int.reduceLE, Int.reduceToNat, Nat.reduceLT, Nat.reduceAdd, Nat.reduceSub, Nat.reduceMul, Nat.reduceEqDiff, Nat.reduceLeDiff, Nat.reduceBEq, reduceIte, reduceCtorEq, rg3, zc0, tz0, l00, l01, l02, modeV, c4]
    refine call_w (has1_c false true true true false false false false) [] (by simp (maxSteps := 4000000) only [push_cast, Int.reduceEq, Int.reduceBNe, Int.reduceBEq, Int.reduceAdd, Int.reduceSub, Int.reduceMul, Int.reduceNeg, Int.reduceLT, Int.reduceLE, Int.reduceToNat, Nat.reduceLT, Nat.reduceAdd, Nat.reduceSub, Nat.reduceMul, Nat.reduceEqDiff, Nat.reduceLeDiff, Nat.reduceBEq, reduceIte, reduceCtorEq, modeV]) ?_
    rintro sv post ⟨rfl, rfl⟩
    simp (maxSteps := 4000000) only [push_cast, Int.reduceEq, Int.reduceBNe, Int.reduceBEq, Int.reduceAdd, Int.reduceSub, Int.reduceMul, Int.reduceNeg, Int.reduceLT, Int.reduceLE, Int.reduceToNat, Nat.reduceLT, Nat.reduceAdd, Nat.reduceSub, Nat.reduceMul, Nat.reduceEqDiff, Nat.reduceLeDiff, Nat.reduceBEq, reduceIte, reduceCtorEq, wz0]
    refine ⟨⟨1, by omega⟩, (show 4 - 1 < 4 - 0 by decide), Sub.w [0, 1] ?_⟩
    simp (maxSteps := 4000000) only [push_cast, Int.reduceEq, Int.reduceBNe, Int.reduceBEq, Int.reduceAdd, Int.reduceSub, Int.reduceMul, Int.reduceNeg, Int.reduceLT, Int.reduceLE, Int.reduceToNat, Nat.reduceLT, Nat.reduceAdd, Nat.reduceSub, Nat.reduceMul, Nat.reduceEqDiff, Nat.reduceLeDiff, Nat.reduceBEq, reduceIte, reduceCtorEq, modeV, c4]
    exact ⟨lettersX _, rfl⟩
  · refine evCode_sound Γok _ _ _ ?_
    simp (maxSteps := 4000000) only [push_cast, Int.reduceEq, Int.reduceBNe, Int.reduceBEq, Int.reduceAdd, Int.reduceSub, Int.reduceMul, Int.reduceNeg, Int.reduceLT, Int.reduceLE, Int.reduceToNat, Nat.reduceLT, Nat.reduceAdd, Nat.reduceSub, Nat.reduceMul, Nat.reduceEqDiff, Nat.reduceLeDiff, Nat.reduceBEq, reduceIte, reduceCtorEq, rg3, zc1, tz1, l10, l11, l12, modeV, c4]
    refine call_w (has3_c false true true true false false false false) [] (by simp (maxSteps := 4000000) only [push_cast, Int.reduceEq, Int.reduceBNe, Int.reduceBEq, Int.reduceAdd, Int.reduceSub, Int.reduceMul, Int.reduceNeg, Int.reduceLT, Int.reduceLE, Int.reduceToNat, Nat.reduceLT, Nat.reduceAdd, Nat.reduceSub, Nat.reduceMul, Nat.reduceEqDiff, Nat.reduceLeDiff, Nat.reduceBEq, reduceIte, reduceCtorEq, modeV]) ?_
    rintro sv post ⟨rfl, rfl⟩
    simp (maxSteps := 4000000) only [push_cast, Int.reduceEq, Int.reduceBNe, Int.reduceBEq, Int.reduceAdd, Int.reduceSub, Int.reduceMul, Int.reduceNeg, Int.reduceLT, Int.reduceLE, Int.reduceToNat, Nat.reduceLT, Nat.reduceAdd, Nat.reduceSub, Nat.reduceMul, Nat.reduceEqDiff, Nat.reduceLeDiff, Nat.reduceBEq, reduceIte, reduceCtorEq, wz1]
    refine ⟨⟨2, by omega⟩, (show 4 - 2 < 4 - 1 by decide), Sub.w [0, 1] ?_⟩
    simp (maxSteps := 4000000) only [push_cast, Int.reduceEq, Int.reduceBNe, Int.reduceBEq, Int.reduceAdd, Int.reduceSub, Int.reduceMul, Int.reduceNeg, Int.reduceLT, Int.reduceLE, Int.reduceToNat, Nat.reduceLT, Nat.reduceAdd, Nat.reduceSub, Nat.reduceMul, Nat.reduceEqDiff, Nat.reduceLeDiff, Nat.reduceBEq, reduceIte, reduceCtorEq, modeV, c4]
    exact ⟨lettersX _, rfl⟩
  · refine evCode_sound Γok _ _ _ ?_
    simp (maxSteps := 4000000) only [push_cast, Int.reduceEq, Int.reduceBNe, Int.reduceBEq, Int.reduceAdd, Int.reduceSub, Int.reduceMul, Int.reduceNeg, Int.reduceLT, Int.reduceLE, Int.reduceToNat, Nat.reduceLT, Nat.reduceAdd, Nat.reduceSub, Nat.reduceMul, Nat.reduceEqDiff, Nat.reduceLeDiff, Nat.reduceBEq, reduceIte, reduceCtorEq, rg3, zc2, tz2, l20, l21, l22, modeV, c4]
    refine call_w (has5_c false true true true false false false false) [] (by simp (maxSteps := 4000000) only [push_cast, Int.reduceEq, Int.reduceBNe, Int.reduceBEq, Int.reduceAdd, Int.reduceSub, Int.reduceMul, Int.reduceNeg, Int.reduceLT, Int.reduceLE, Int.reduceToNat, Nat.reduceLT, Nat.reduceAdd, Nat.reduceSub, Nat.reduceMul, Nat.reduceEqDiff, Nat.reduceLeDiff, Nat.reduceBEq, reduceIte, reduceCtorEq, modeV]) ?_
    rintro sv post ⟨rfl, rfl⟩
    simp (maxSteps := 4000000) only [push_cast, Int.reduceEq, Int.reduceBNe, Int.reduceBEq, Int.reduceAdd, Int.reduceSub, Int.reduceMul, Int.reduceNeg, Int.reduceLT, Int.reduceLE, Int.reduceToNat, Nat.reduceLT, Nat.reduceAdd, Nat.reduceSub, Nat.reduceMul, Nat.reduceEqDiff, Nat.reduceLeDiff, Nat.reduceBEq, reduceIte, reduceCtorEq, wz2]
    refine ⟨⟨3, by omega⟩, (show 4 - 3 < 4 - 2 by decide), Sub.w [0, 1] ?_⟩
    simp (maxSteps := 4000000) only [push_cast, Int.reduceEq, Int.reduceBNe, Int.reduceBEq, Int.reduceAdd, Int.reduceSub, Int.reduceMul, Int.reduceNeg, Int.reduceLT, Int.reduceLE, Int.reduceToNat, Nat.reduceLT, Nat.reduceAdd, Nat.reduceSub, Nat.reduceMul, Nat.reduceEqDiff, Nat.reduceLeDiff, Nat.reduceBEq, reduceIte, reduceCtorEq, modeV, c4]
    exact ⟨lettersX _, rfl⟩
  · refine evCode_sound Γok _ _ _ ?_
    simp (maxSteps := 4000000) only [push_cast, Int.reduceEq, Int.reduceBNe, Int.reduceBEq, Int.reduceAdd, Int.reduceSub, Int.reduceMul, Int.reduceNeg, Int.reduceLT, Int.reduceLE, Int.reduceToNat, Nat.reduceLT, Nat.reduceAdd, Nat.reduceSub, Nat.reduceMul, Nat.reduceEqDiff, Nat.reduceLeDiff, Nat.reduceBEq, reduceIte, reduceCtorEq, rg3, zc3, tz3, l30, l31, l32, modeV, c4]
    refine call_w (has7_c false true true true false false false false) [] (by simp (maxSteps := 4000000) only [push_cast, Int.reduceEq, Int.reduceBNe, Int.reduceBEq, Int.reduceAdd, Int.reduceSub, Int.reduceMul, Int.reduceNeg, Int.reduceLT, Int.reduceLE, Int.reduceToNat, Nat.reduceLT, Nat.reduceAdd, Nat.reduceSub, Nat.reduceMul, Nat.reduceEqDiff, Nat.reduceLeDiff, Nat.reduceBEq, reduceIte, reduceCtorEq, modeV]) ?_
    rintro sv post ⟨rfl, rfl⟩
    simp (maxSteps := 4000000) only [push_cast, Int.reduceEq, Int.reduceBNe, Int.reduceBEq, Int.reduceAdd, Int.reduceSub, Int.reduceMul, Int.reduceNeg, Int.reduceLT, Int.reduceLE, Int.reduceToNat, Nat.reduceLT, Nat.reduceAdd, Nat.reduceSub, Nat.reduceMul, Nat.reduceEqDiff, Nat.reduceLeDiff, Nat.reduceBEq, reduceIte, reduceCtorEq, wz3]
    refine ⟨⟨4, by omega⟩, (show 4 - 4 < 4 - 3 by decide), Sub.w [0, 1] ?_⟩
    simp (maxSteps := 4000000) only [push_cast, Int.reduceEq, Int.reduceBNe, Int.reduceBEq, Int.reduceAdd, Int.reduceSub, Int.reduceMul, Int.reduceNeg, Int.reduceLT, Int.reduceLE, Int.reduceToNat, Nat.reduceLT, Nat.reduceAdd, Nat.reduceSub, Nat.reduceMul, Nat.reduceEqDiff, Nat.reduceLeDiff, Nat.reduceBEq, reduceIte, reduceCtorEq, modeV, c4]
    exact ⟨lettersX _, rfl⟩
  refine evCode_sound Γok _ _ _ ?_
  simp (maxSteps := 4000000) only [push_cast, Int.reduceEq, Int.reduceBNe, Int.reduceBEq, Int.reduceAdd, Int.reduceSub, Int.reduceMul, Int.reduceNeg, Int.reduceLT, Int.reduceLE, Int.reduceToNat, Nat.reduceLT, Nat.reduceAdd, Nat.reduceSub, Nat.reduceMul, Nat.reduceEqDiff, Nat.reduceLeDiff, Nat.reduceBEq, reduceIte, reduceCtorEq, c4, modeV]
  refine call_w parseW_c [] (by simp (maxSteps := 4000000) only [push_cast, Int.reduceEq, Int.reduceBNe, Int.reduceBEq, Int.reduceAdd, Int.reduceSub, Int.reduceMul, Int.reduceNeg, Int.reduceLT, Int.reduceLE, Int.reduceToNat, Nat.reduceLT, Nat.reduceAdd, Nat.reduceSub, Nat.reduceMul, Nat.reduceEqDiff, Nat.reduceLeDiff, Nat.reduceBEq, reduceIte, reduceCtorEq]) ?_
  rintro sv post ⟨rfl, rfl⟩
  simp (maxSteps := 4000000) only [push_cast, Int.reduceEq, Int.reduceBNe, Int.reduceBEq, Int.reduceAdd, Int.reduceSub, Int.reduceMul, Int.reduceNeg, Int.reduceLT, Int.reduceLE, Int.reduceToNat, Nat.reduceLT, Nat.reduceAdd, Nat.reduceSub, Nat.reduceMul, Nat.reduceEqDiff, Nat.reduceLeDiff, Nat.reduceBEq, reduceIte, reduceCtorEq, modeV, rg8]
  refine ⟨eqPlainM, ?_⟩
  simp (maxSteps := 4000000) only [push_cast, Int.reduceEq, Int.reduceBNe, Int.reduceBEq, Int.reduceAdd, Int.reduceSub, Int.reduceMul, Int.reduceNeg, Int.reduceLT, Int.reduceLE, Int.reduceToNat, Nat.reduceLT, Nat.reduceAdd, Nat.reduceSub, Nat.reduceMul, Nat.reduceEqDiff, Nat.reduceLeDiff, Nat.reduceBEq, reduceIte, reduceCtorEq, bb1, bb2, Bool.false_and]
  refine evCode_sound Γok _ _ _ ?_
  simp (maxSteps := 4000000) only [push_cast, Int.reduceEq, Int.reduceBNe, Int.reduceBEq, Int.reduceAdd, Int.reduceSub, Int.reduceMul, Int.reduceNeg, Int.reduceLT, Int.reduceLE, Int.reduceToNat, Nat.reduceLT, Nat.reduceAdd, Nat.reduceSub, Nat.reduceMul, Nat.reduceEqDiff, Nat.reduceLeDiff, Nat.reduceBEq, reduceIte, reduceCtorEq]
  refine next_ok Γok 1 b ⟨#[114, 119, 97]⟩ 2 rfl rfl rfl trivial (by simp) ?_
  simp (maxSteps := 4000000) only [push_cast, Int.reduceEq, Int.reduceBNe, Int.reduceBEq, Int.reduceAdd, Int.reduceSub, Int.reduceMul, Int.reduceNeg, Int.reduceLT, Int.reduceLE, Int.reduceToNat, Nat.reduceLT, Nat.reduceAdd, Nat.reduceSub, Nat.reduceMul, Nat.reduceEqDiff, Nat.reduceLeDiff, Nat.reduceBEq, reduceIte, reduceCtorEq, d2, c2, n2, z3]
  refine call_w letters_c [] (by simp (maxSteps := 4000000) only [push_cast, Int.reduceEq, Int.reduceBNe, Int.reduceBEq, Int.reduceAdd, Int.reduceSub, Int.reduceMul, Int.reduceNeg, Int.reduceLT, Int.reduceLE, Int.reduceToNat, Nat.reduceLT, Nat.reduceAdd, Nat.reduceSub, Nat.reduceMul, Nat.reduceEqDiff, Nat.reduceLeDiff, Nat.reduceBEq, reduceIte, reduceCtorEq]) ?_
  rintro sv post ⟨rfl, rfl⟩
  simp (maxSteps := 4000000) only [push_cast, Int.reduceEq, Int.reduceBNe, Int.reduceBEq, Int.reduceAdd, Int.reduceSub, Int.reduceMul, Int.reduceNeg, Int.reduceLT, Int.reduceLE, Int.reduceToNat, Nat.reduceLT, Nat.reduceAdd, Nat.reduceSub, Nat.reduceMul, Nat.reduceEqDiff, Nat.reduceLeDiff, Nat.reduceBEq, reduceIte, reduceCtorEq]
  refine loop_ok (ι := {i : Nat // i ≤ 4})
    (fun i => ⟨[modeV false true true true false false false false, .ptr 0 0, .any, .any, .any, .any, .s ⟨#[97]⟩, .any, .any, .any, .any, .any, .raw (.pointer (some ⟨b, 0, none⟩)), .any, .any, .any, .any, .any, .sl 3 .new 4 (elOf lettersV), .i .i64 4, .i .i64 i.1] ++ List.replicate 28 .any, [(0, 65, [.b false, .b true, .b true, .b true, .b false, .b false, .b false, .b false])], [], [(1, RObj b (.stringIter ⟨#[114, 119, 97]⟩ 3))], 2, 0, []⟩) (fun i => 4 - i.1) ⟨0, by omega⟩ ?_ ?_
  · refine Sub.w [0, 1] ?_
    simp (maxSteps := 4000000) only [push_cast, Int.reduceEq, Int.reduceBNe, Int.reduceBEq, Int.reduceAdd, Int.reduceSub, Int.reduceMul, Int.reduceNeg, Int.reduceLT, Int.reduceLE, Int.reduceToNat, Nat.reduceLT, Nat.reduceAdd, Nat.reduceSub, Nat.reduceMul, Nat.reduceEqDiff, Nat.reduceLeDiff, Nat.reduceBEq, reduceIte, reduceCtorEq, modeV, n2]
    exact lettersW _ _
  rintro ⟨i, hi⟩
  have h5 : i = 0 ∨ i = 1 ∨ i = 2 ∨ i = 3 ∨ i = 4 := by omega
  rcases h5 with rfl | rfl | rfl | rfl | rfl
  · refine evCode_sound Γok _ _ _ ?_
    simp (maxSteps := 4000000) only [push_cast, Int.reduceEq, Int.reduceBNe, Int.reduceBEq, Int.reduceAdd, Int.reduceSub, Int.reduceMul, Int.reduceNeg, Int.reduceLT, Int.reduceLE, Int.reduceToNat, Nat.reduceLT, Nat.reduceAdd, Nat.reduceSub, Nat.reduceMul, Nat.reduceEqDiff, Nat.reduceLeDiff, Nat.reduceBEq, reduceIte, reduceCtorEq, rg3, zc0, tz0, l00, l01, l02, modeV, c4]
    refine call_w (has1_c false true true true false false false false) [] (by simp (maxSteps := 4000000) only [push_cast, Int.reduceEq, Int.reduceBNe, Int.reduceBEq, Int.reduceAdd, Int.reduceSub, Int.reduceMul, Int.reduceNeg, Int.reduceLT, Int.reduceLE, Int.reduceToNat, Nat.reduceLT, Nat.reduceAdd, Nat.reduceSub, Nat.reduceMul, Nat.reduceEqDiff, Nat.reduceLeDiff, Nat.reduceBEq, reduceIte, reduceCtorEq, modeV]) ?_
    rintro sv post ⟨rfl, rfl⟩
    simp (maxSteps := 4000000) only [push_cast, Int.reduceEq, Int.reduceBNe, Int.reduceBEq, Int.reduceAdd, Int.reduceSub, Int.reduceMul, Int.reduceNeg, Int.reduceLT, Int.reduceLE, Int.reduceToNat, Nat.reduceLT, Nat.reduceAdd, Nat.reduceSub, Nat.reduceMul, Nat.reduceEqDiff, Nat.reduceLeDiff, Nat.reduceBEq, reduceIte, reduceCtorEq, wz0]
    refine ⟨⟨1, by omega⟩, (show 4 - 1 < 4 - 0 by decide), Sub.w [0, 1] ?_⟩
    simp (maxSteps := 4000000) only [push_cast, Int.reduceEq, Int.reduceBNe, Int.reduceBEq, Int.reduceAdd, Int.reduceSub, Int.reduceMul, Int.reduceNeg, Int.reduceLT, Int.reduceLE, Int.reduceToNat, Nat.reduceLT, Nat.reduceAdd, Nat.reduceSub, Nat.reduceMul, Nat.reduceEqDiff, Nat.reduceLeDiff, Nat.reduceBEq, reduceIte, reduceCtorEq, modeV, c4]
    exact ⟨lettersX _, rfl⟩
  · refine evCode_sound Γok _ _ _ ?_
    simp (maxSteps := 4000000) only [push_cast, Int.reduceEq, Int.reduceBNe, Int.reduceBEq, Int.reduceAdd, Int.reduceSub, Int.reduceMul, Int.reduceNeg, Int.reduceLT, Int.reduceLE, Int.reduceToNat, Nat.reduceLT, Nat.reduceAdd, Nat.reduceSub, Nat.reduceMul, Nat.reduceEqDiff, Nat.reduceLeDiff, Nat.reduceBEq, reduceIte, reduceCtorEq, rg3, zc1, tz1, l10, l11, l12, modeV, c4]
    refine call_w (has3_c false true true true false false false false) [] (by simp (maxSteps := 4000000) only [push_cast, Int.reduceEq, Int.reduceBNe, Int.reduceBEq, Int.reduceAdd, Int.reduceSub, Int.reduceMul, Int.reduceNeg, Int.reduceLT, Int.reduceLE, Int.reduceToNat, Nat.reduceLT, Nat.reduceAdd, Nat.reduceSub, Nat.reduceMul, Nat.reduceEqDiff, Nat.reduceLeDiff, Nat.reduceBEq, reduceIte, reduceCtorEq, modeV]) ?_
    rintro sv post ⟨rfl, rfl⟩
    simp (maxSteps := 4000000) only [push_cast, Int.reduceEq, Int.reduceBNe, Int.reduceBEq, Int.reduceAdd, Int.reduceSub, Int.reduceMul, Int.reduceNeg, Int.reduceLT, Int.reduceLE, Int.reduceToNat, Nat.reduceLT, Nat.reduceAdd, Nat.reduceSub, Nat.reduceMul, Nat.reduceEqDiff, Nat.reduceLeDiff, Nat.reduceBEq, reduceIte, reduceCtorEq, wz1]
    refine ⟨⟨2, by omega⟩, (show 4 - 2 < 4 - 1 by decide), Sub.w [0, 1] ?_⟩
    simp (maxSteps := 4000000) only [push_cast, Int.reduceEq, Int.reduceBNe, Int.reduceBEq, Int.reduceAdd, Int.reduceSub, Int.reduceMul, Int.reduceNeg, Int.reduceLT, Int.reduceLE, Int.reduceToNat, Nat.reduceLT, Nat.reduceAdd, Nat.reduceSub, Nat.reduceMul, Nat.reduceEqDiff, Nat.reduceLeDiff, Nat.reduceBEq, reduceIte, reduceCtorEq, modeV, c4]
    exact ⟨lettersX _, rfl⟩
  · refine evCode_sound Γok _ _ _ ?_
    simp (maxSteps := 4000000) only [push_cast, Int.reduceEq, Int.reduceBNe, Int.reduceBEq, Int.reduceAdd, Int.reduceSub, Int.reduceMul, Int.reduceNeg, Int.reduceLT, Int.reduceLE, Int.reduceToNat, Nat.reduceLT, Nat.reduceAdd, Nat.reduceSub, Nat.reduceMul, Nat.reduceEqDiff, Nat.reduceLeDiff, Nat.reduceBEq, reduceIte, reduceCtorEq, rg3, zc2, tz2, l20, l21, l22, modeV, c4]
    refine call_w (has5_c false true true true false false false false) [] (by simp (maxSteps := 4000000) only [push_cast, Int.reduceEq, Int.reduceBNe, Int.reduceBEq, Int.reduceAdd, Int.reduceSub, Int.reduceMul, Int.reduceNeg, Int.reduceLT, Int.reduceLE, Int.reduceToNat, Nat.reduceLT, Nat.reduceAdd, Nat.reduceSub, Nat.reduceMul, Nat.reduceEqDiff, Nat.reduceLeDiff, Nat.reduceBEq, reduceIte, reduceCtorEq, modeV]) ?_
    rintro sv post ⟨rfl, rfl⟩
    simp (maxSteps := 4000000) only [push_cast, Int.reduceEq, Int.reduceBNe, Int.reduceBEq, Int.reduceAdd, Int.reduceSub, Int.reduceMul, Int.reduceNeg, Int.reduceLT, Int.reduceLE, Int.reduceToNat, Nat.reduceLT, Nat.reduceAdd, Nat.reduceSub, Nat.reduceMul, Nat.reduceEqDiff, Nat.reduceLeDiff, Nat.reduceBEq, reduceIte, reduceCtorEq, wz2]
    refine ⟨⟨3, by omega⟩, (show 4 - 3 < 4 - 2 by decide), Sub.w [0, 1] ?_⟩
    simp (maxSteps := 4000000) only [push_cast, Int.reduceEq, Int.reduceBNe, Int.reduceBEq, Int.reduceAdd, Int.reduceSub, Int.reduceMul, Int.reduceNeg, Int.reduceLT, Int.reduceLE, Int.reduceToNat, Nat.reduceLT, Nat.reduceAdd, Nat.reduceSub, Nat.reduceMul, Nat.reduceEqDiff, Nat.reduceLeDiff, Nat.reduceBEq, reduceIte, reduceCtorEq, modeV, c4]
    exact ⟨lettersX _, rfl⟩
  · refine evCode_sound Γok _ _ _ ?_
    simp (maxSteps := 4000000) only [push_cast, Int.reduceEq, Int.reduceBNe, Int.reduceBEq, Int.reduceAdd, Int.reduceSub, Int.reduceMul, Int.reduceNeg, Int.reduceLT, Int.reduceLE, Int.reduceToNat, Nat.reduceLT, Nat.reduceAdd, Nat.reduceSub, Nat.reduceMul, Nat.reduceEqDiff, Nat.reduceLeDiff, Nat.reduceBEq, reduceIte, reduceCtorEq, rg3, zc3, tz3, l30, l31, l32, modeV, c4]
    refine call_w (has7_c false true true true false false false false) [] (by simp (maxSteps := 4000000) only [push_cast, Int.reduceEq, Int.reduceBNe, Int.reduceBEq, Int.reduceAdd, Int.reduceSub, Int.reduceMul, Int.reduceNeg, Int.reduceLT, Int.reduceLE, Int.reduceToNat, Nat.reduceLT, Nat.reduceAdd, Nat.reduceSub, Nat.reduceMul, Nat.reduceEqDiff, Nat.reduceLeDiff, Nat.reduceBEq, reduceIte, reduceCtorEq, modeV]) ?_
    rintro sv post ⟨rfl, rfl⟩
    simp (maxSteps := 4000000) only [push_cast, Int.reduceEq, Int.reduceBNe, Int.reduceBEq, Int.reduceAdd, Int.reduceSub, Int.reduceMul, Int.reduceNeg, Int.reduceLT, Int.reduceLE, Int.reduceToNat, Nat.reduceLT, Nat.reduceAdd, Nat.reduceSub, Nat.reduceMul, Nat.reduceEqDiff, Nat.reduceLeDiff, Nat.reduceBEq, reduceIte, reduceCtorEq, wz3]
    refine ⟨⟨4, by omega⟩, (show 4 - 4 < 4 - 3 by decide), Sub.w [0, 1] ?_⟩
    simp (maxSteps := 4000000) only [push_cast, Int.reduceEq, Int.reduceBNe, Int.reduceBEq, Int.reduceAdd, Int.reduceSub, Int.reduceMul, Int.reduceNeg, Int.reduceLT, Int.reduceLE, Int.reduceToNat, Nat.reduceLT, Nat.reduceAdd, Nat.reduceSub, Nat.reduceMul, Nat.reduceEqDiff, Nat.reduceLeDiff, Nat.reduceBEq, reduceIte, reduceCtorEq, modeV, c4]
    exact ⟨lettersX _, rfl⟩
  refine evCode_sound Γok _ _ _ ?_
  simp (maxSteps := 4000000) only [push_cast, Int.reduceEq, Int.reduceBNe, Int.reduceBEq, Int.reduceAdd, Int.reduceSub, Int.reduceMul, Int.reduceNeg, Int.reduceLT, Int.reduceLE, Int.reduceToNat, Nat.reduceLT, Nat.reduceAdd, Nat.reduceSub, Nat.reduceMul, Nat.reduceEqDiff, Nat.reduceLeDiff, Nat.reduceBEq, reduceIte, reduceCtorEq, c4, modeV]
  refine call_w parseA_c [] (by simp (maxSteps := 4000000) only [push_cast, Int.reduceEq, Int.reduceBNe, Int.reduceBEq, Int.reduceAdd, Int.reduceSub, Int.reduceMul, Int.reduceNeg, Int.reduceLT, Int.reduceLE, Int.reduceToNat, Nat.reduceLT, Nat.reduceAdd, Nat.reduceSub, Nat.reduceMul, Nat.reduceEqDiff, Nat.reduceLeDiff, Nat.reduceBEq, reduceIte, reduceCtorEq]) ?_
  rintro sv post ⟨rfl, rfl⟩
  simp (maxSteps := 4000000) only [push_cast, Int.reduceEq, Int.reduceBNe, Int.reduceBEq, Int.reduceAdd, Int.reduceSub, Int.reduceMul, Int.reduceNeg, Int.reduceLT, Int.reduceLE, Int.reduceToNat, Nat.reduceLT, Nat.reduceAdd, Nat.reduceSub, Nat.reduceMul, Nat.reduceEqDiff, Nat.reduceLeDiff, Nat.reduceBEq, reduceIte, reduceCtorEq, modeV, rg8]
  exact ⟨eqPlainM, Fin.nil rfl (psv := .tup [.s ⟨#[97]⟩, .i .i64 0]) (by simp (maxSteps := 4000000) only [push_cast, Int.reduceEq, Int.reduceBNe, Int.reduceBEq, Int.reduceAdd, Int.reduceSub, Int.reduceMul, Int.reduceNeg, Int.reduceLT, Int.reduceLE, Int.reduceToNat, Nat.reduceLT, Nat.reduceAdd, Nat.reduceSub, Nat.reduceMul, Nat.reduceEqDiff, Nat.reduceLeDiff, Nat.reduceBEq, reduceIte, reduceCtorEq]) ⟨rfl, rfl⟩⟩

theorem openCheck_c (md : SV) (x : ByteArray) (h : Contract Try.prog 58 nilSS [md] (fun sv post => sv = .tup [.s x, .i .i64 0] ∧ post = nilSS)) (r w a c t e b k : Bool) (hm : md = modeV r w a c t e b k) :
    Contract Try.prog 41 nilSS [md] (fun sv post => sv = .i .i64 0 ∧ post = nilSS) := by
  subst hm
  refine contract_ev Γok Try.func41 rfl rfl [] ?_
  simp (maxSteps := 4000000) only [push_cast, Int.reduceEq, Int.reduceBNe, Int.reduceBEq, Int.reduceAdd, Int.reduceSub, Int.reduceMul, Int.reduceNeg, Int.reduceLT, Int.reduceLE, Int.reduceToNat, Nat.reduceLT, Nat.reduceAdd, Nat.reduceSub, Nat.reduceMul, Nat.reduceEqDiff, Nat.reduceLeDiff, Nat.reduceBEq, reduceIte, reduceCtorEq, Try.f41, modeV, rg8]
  refine call_w h [] (by simp (maxSteps := 4000000) only [push_cast, Int.reduceEq, Int.reduceBNe, Int.reduceBEq, Int.reduceAdd, Int.reduceSub, Int.reduceMul, Int.reduceNeg, Int.reduceLT, Int.reduceLE, Int.reduceToNat, Nat.reduceLT, Nat.reduceAdd, Nat.reduceSub, Nat.reduceMul, Nat.reduceEqDiff, Nat.reduceLeDiff, Nat.reduceBEq, reduceIte, reduceCtorEq, modeV]) ?_
  rintro sv post ⟨rfl, rfl⟩
  simp (maxSteps := 4000000) only [push_cast, Int.reduceEq, Int.reduceBNe, Int.reduceBEq, Int.reduceAdd, Int.reduceSub, Int.reduceMul, Int.reduceNeg, Int.reduceLT, Int.reduceLE, Int.reduceToNat, Nat.reduceLT, Nat.reduceAdd, Nat.reduceSub, Nat.reduceMul, Nat.reduceEqDiff, Nat.reduceLeDiff, Nat.reduceBEq, reduceIte, reduceCtorEq]
  exact Fin.nil rfl (psv := .i .i64 0) (by simp (maxSteps := 4000000) only [push_cast, Int.reduceEq, Int.reduceBNe, Int.reduceBEq, Int.reduceAdd, Int.reduceSub, Int.reduceMul, Int.reduceNeg, Int.reduceLT, Int.reduceLE, Int.reduceToNat, Nat.reduceLT, Nat.reduceAdd, Nat.reduceSub, Nat.reduceMul, Nat.reduceEqDiff, Nat.reduceLeDiff, Nat.reduceBEq, reduceIte, reduceCtorEq]) ⟨rfl, rfl⟩
end Go.Proofs.Ytciokebdmnaobaa
/- New streams; a reader as a Raw. -/
namespace Go.Proofs.Ytciokebdmnaobaa
open Go Go.Eng
set_option maxHeartbeats 4000000
set_option linter.unusedSimpArgs false
set_option linter.unusedVariables false
set_option maxRecDepth 100000

/-- A stream that is new. -/
def newSt (r w : Bool) (m s : Int) : St := if mayV m s = 0 then ⟨r, w, m, s, [], [], [], 0, false, false, false⟩ else ⟨false, false, 0, 0, [], [], [], 0, false, false, false⟩
def isNew (r w : Bool) (m s : Int) (sv : SV) (post : SS) : Prop := sv = .tup [(newSt r w m s).sv .nil, .i .i64 (mayV m s)] ∧ post = nilSS

theorem newS_c (r w a c t x b k : Bool) (hC : Contract Try.prog 41 nilSS [modeV r w a c t x b k] (fun sv post => sv = .i .i64 0 ∧ post = nilSS)) (m s : Int) :
    Contract Try.prog 24 nilSS [modeV r w a c t x b k, .i .i64 m, .i .i64 s] (isNew r w m s) := by
  refine contract_ev Γok Try.func24 rfl rfl [] ?_
  simp (maxSteps := 4000000) only [push_cast, Int.reduceEq, Int.reduceBNe, Int.reduceBEq, Int.reduceAdd, Int.reduceSub, Int.reduceMul, Int.reduceNeg, Int.reduceLT, Int.reduceLE, Int.reduceToNat, Nat.reduceLT, Nat.reduceAdd, Nat.reduceSub, Nat.reduceMul, Nat.reduceEqDiff, Nat.reduceLeDiff, Nat.reduceBEq, reduceIte, reduceCtorEq, Try.f24, modeV, rg8]
  refine call_w hC [] (by simp (maxSteps := 4000000) only [push_cast, Int.reduceEq, Int.reduceBNe, Int.reduceBEq, Int.reduceAdd, Int.reduceSub, Int.reduceMul, Int.reduceNeg, Int.reduceLT, Int.reduceLE, Int.reduceToNat, Nat.reduceLT, Nat.reduceAdd, Nat.reduceSub, Nat.reduceMul, Nat.reduceEqDiff, Nat.reduceLeDiff, Nat.reduceBEq, reduceIte, reduceCtorEq, modeV]) ?_
  rintro sv post ⟨rfl, rfl⟩
  simp (maxSteps := 4000000) only [push_cast, Int.reduceEq, Int.reduceBNe, Int.reduceBEq, Int.reduceAdd, Int.reduceSub, Int.reduceMul, Int.reduceNeg, Int.reduceLT, Int.reduceLE, Int.reduceToNat, Nat.reduceLT, Nat.reduceAdd, Nat.reduceSub, Nat.reduceMul, Nat.reduceEqDiff, Nat.reduceLeDiff, Nat.reduceBEq, reduceIte, reduceCtorEq]
  refine call_w (buffer_c m s) [] (by simp (maxSteps := 4000000) only [push_cast, Int.reduceEq, Int.reduceBNe, Int.reduceBEq, Int.reduceAdd, Int.reduceSub, Int.reduceMul, Int.reduceNeg, Int.reduceLT, Int.reduceLE, Int.reduceToNat, Nat.reduceLT, Nat.reduceAdd, Nat.reduceSub, Nat.reduceMul, Nat.reduceEqDiff, Nat.reduceLeDiff, Nat.reduceBEq, reduceIte, reduceCtorEq]) ?_
  rintro sv post ⟨rfl, rfl⟩
  simp (maxSteps := 4000000) only [push_cast, Int.reduceEq, Int.reduceBNe, Int.reduceBEq, Int.reduceAdd, Int.reduceSub, Int.reduceMul, Int.reduceNeg, Int.reduceLT, Int.reduceLE, Int.reduceToNat, Nat.reduceLT, Nat.reduceAdd, Nat.reduceSub, Nat.reduceMul, Nat.reduceEqDiff, Nat.reduceLeDiff, Nat.reduceBEq, reduceIte, reduceCtorEq, rg8, rg11]
  refine ⟨fun h => ?_, fun h => ?_⟩
  · exact Fin.nil rfl (psv := .tup [(newSt r w m s).sv .nil, .i .i64 (mayV m s)]) (by unfold newSt; rw [if_neg h]; simp (maxSteps := 4000000) only [push_cast, Int.reduceEq, Int.reduceBNe, Int.reduceBEq, Int.reduceAdd, Int.reduceSub, Int.reduceMul, Int.reduceNeg, Int.reduceLT, Int.reduceLE, Int.reduceToNat, Nat.reduceLT, Nat.reduceAdd, Nat.reduceSub, Nat.reduceMul, Nat.reduceEqDiff, Nat.reduceLeDiff, Nat.reduceBEq, reduceIte, reduceCtorEq, St.sv, St.cells]) ⟨rfl, rfl⟩
  · exact Fin.nil rfl (psv := .tup [(newSt r w m s).sv .nil, .i .i64 (mayV m s)]) (by unfold newSt; rw [if_pos h, h]; simp (maxSteps := 4000000) only [push_cast, Int.reduceEq, Int.reduceBNe, Int.reduceBEq, Int.reduceAdd, Int.reduceSub, Int.reduceMul, Int.reduceNeg, Int.reduceLT, Int.reduceLE, Int.reduceToNat, Nat.reduceLT, Nat.reduceAdd, Nat.reduceSub, Nat.reduceMul, Nat.reduceEqDiff, Nat.reduceLeDiff, Nat.reduceBEq, reduceIte, reduceCtorEq, St.sv, St.cells]) ⟨rfl, rfl⟩
theorem openR_c : Contract Try.prog 41 nilSS [modeV true false false false false false false false] (fun sv post => sv = .i .i64 0 ∧ post = nilSS) := openCheck_c _ _ printR_c _ _ _ _ _ _ _ _ rfl
theorem openW_c : Contract Try.prog 41 nilSS [modeV false true false true true false false false] (fun sv post => sv = .i .i64 0 ∧ post = nilSS) := openCheck_c _ _ printW_c _ _ _ _ _ _ _ _ rfl

/-- A reader's memory. -/
def readerS (data : List Int) (p : Int) : SS := ⟨[], [(0, 111, [.b true, .ints .u8 .old data, .i .i64 data.length, .i .i64 p])], [], [], 1, 1, []⟩
def readV (data : List Int) (p n : Int) : List Int := (data.drop p.toNat).take n.toNat

theorem kept_c (l : List Int) (room : Int) (hl : l.length ≤ 140737488355328) : Contract Try.prog 40 nilSS [.ints .u8 .old l, .i .i64 room] (fun sv post => sv = .agg [.b true, .ints .u8 (.tok 0 true) l, .i .i64 room, .i .i64 0] ∧ post = ⟨[], [], [0], [], 1, 0, []⟩) := by
  refine contract_ev Γok Try.func40 rfl rfl [] ?_
  simp (maxSteps := 4000000) only [push_cast, Int.reduceEq, Int.reduceBNe, Int.reduceBEq, Int.reduceAdd, Int.reduceSub, Int.reduceMul, Int.reduceNeg, Int.reduceLT, Int.reduceLE, Int.reduceToNat, Nat.reduceLT, Nat.reduceAdd, Nat.reduceSub, Nat.reduceMul, Nat.reduceEqDiff, Nat.reduceLeDiff, Nat.reduceBEq, reduceIte, reduceCtorEq, Try.f40]
  refine call_w (bclone_c l hl) [] (by simp (maxSteps := 4000000) only [push_cast, Int.reduceEq, Int.reduceBNe, Int.reduceBEq, Int.reduceAdd, Int.reduceSub, Int.reduceMul, Int.reduceNeg, Int.reduceLT, Int.reduceLE, Int.reduceToNat, Nat.reduceLT, Nat.reduceAdd, Nat.reduceSub, Nat.reduceMul, Nat.reduceEqDiff, Nat.reduceLeDiff, Nat.reduceBEq, reduceIte, reduceCtorEq]) ?_
  rintro sv post ⟨rfl, rfl⟩
  simp (maxSteps := 4000000) only [push_cast, Int.reduceEq, Int.reduceBNe, Int.reduceBEq, Int.reduceAdd, Int.reduceSub, Int.reduceMul, Int.reduceNeg, Int.reduceLT, Int.reduceLE, Int.reduceToNat, Nat.reduceLT, Nat.reduceAdd, Nat.reduceSub, Nat.reduceMul, Nat.reduceEqDiff, Nat.reduceLeDiff, Nat.reduceBEq, reduceIte, reduceCtorEq]
  exact Fin.w [1] (.agg [.b true, .ints .u8 (.tok 0 true) l, .i .i64 room, .i .i64 0]) ⟨[], [], [0], [], 1, 0, []⟩ (by simp (maxSteps := 4000000) only [push_cast, Int.reduceEq, Int.reduceBNe, Int.reduceBEq, Int.reduceAdd, Int.reduceSub, Int.reduceMul, Int.reduceNeg, Int.reduceLT, Int.reduceLE, Int.reduceToNat, Nat.reduceLT, Nat.reduceAdd, Nat.reduceSub, Nat.reduceMul, Nat.reduceEqDiff, Nat.reduceLeDiff, Nat.reduceBEq, reduceIte, reduceCtorEq]) ⟨rfl, rfl⟩

/-- A new reader, as a resource at some block. -/
def isReader (l : List Int) (sv : SV) (post : SS) : Prop := ∃ b, sv = .tup [.raw (.pointer (some ⟨b, 0, none⟩)), .i .i64 0] ∧ post = ⟨[], [], [], [(1, (readerS l 0).res b)], 2, 0, []⟩
theorem newReader_c (l : List Int) (hl : l.length ≤ 1048576) : Contract Try.prog 23 nilSS [.ints .u8 .old l] (isReader l) := by
  refine contract_new (R' := fun sv post => sv = .tup [.ptr 0 0, .i .i64 0] ∧ post = { readerS l 0 with k := 0 }) ?_ ?_
  · refine contract_ev Γok Try.func23 rfl rfl [] ?_
    simp (maxSteps := 4000000) only [push_cast, Int.reduceEq, Int.reduceBNe, Int.reduceBEq, Int.reduceAdd, Int.reduceSub, Int.reduceMul, Int.reduceNeg, Int.reduceLT, Int.reduceLE, Int.reduceToNat, Nat.reduceLT, Nat.reduceAdd, Nat.reduceSub, Nat.reduceMul, Nat.reduceEqDiff, Nat.reduceLeDiff, Nat.reduceBEq, reduceIte, reduceCtorEq, Try.f23]
    refine ⟨fun h => by omega, fun h => ?_⟩
    refine call_w (kept_c l l.length (by omega)) [] (by simp (maxSteps := 4000000) only [push_cast, Int.reduceEq, Int.reduceBNe, Int.reduceBEq, Int.reduceAdd, Int.reduceSub, Int.reduceMul, Int.reduceNeg, Int.reduceLT, Int.reduceLE, Int.reduceToNat, Nat.reduceLT, Nat.reduceAdd, Nat.reduceSub, Nat.reduceMul, Nat.reduceEqDiff, Nat.reduceLeDiff, Nat.reduceBEq, reduceIte, reduceCtorEq]) ?_
    rintro sv post ⟨rfl, rfl⟩
    simp (maxSteps := 4000000) only [push_cast, Int.reduceEq, Int.reduceBNe, Int.reduceBEq, Int.reduceAdd, Int.reduceSub, Int.reduceMul, Int.reduceNeg, Int.reduceLT, Int.reduceLE, Int.reduceToNat, Nat.reduceLT, Nat.reduceAdd, Nat.reduceSub, Nat.reduceMul, Nat.reduceEqDiff, Nat.reduceLeDiff, Nat.reduceBEq, reduceIte, reduceCtorEq]
    exact Fin.w [1] (.tup [.ptr 0 0, .i .i64 0]) _ (by simp (maxSteps := 4000000) only [push_cast, Int.reduceEq, Int.reduceBNe, Int.reduceBEq, Int.reduceAdd, Int.reduceSub, Int.reduceMul, Int.reduceNeg, Int.reduceLT, Int.reduceLE, Int.reduceToNat, Nat.reduceLT, Nat.reduceAdd, Nat.reduceSub, Nat.reduceMul, Nat.reduceEqDiff, Nat.reduceLeDiff, Nat.reduceBEq, reduceIte, reduceCtorEq, readerS]) ⟨rfl, rfl⟩
  · rintro sv post ⟨rfl, rfl⟩
    refine ⟨readerS l 0, [0], 111, _, by simp (maxSteps := 4000000) only [push_cast, Int.reduceEq, Int.reduceBNe, Int.reduceBEq, Int.reduceAdd, Int.reduceSub, Int.reduceMul, Int.reduceNeg, Int.reduceLT, Int.reduceLE, Int.reduceToNat, Nat.reduceLT, Nat.reduceAdd, Nat.reduceSub, Nat.reduceMul, Nat.reduceEqDiff, Nat.reduceLeDiff, Nat.reduceBEq, reduceIte, reduceCtorEq, readerS], rfl, fun b => ⟨b, ?_, ?_⟩⟩
    · simp (maxSteps := 4000000) only [push_cast, Int.reduceEq, Int.reduceBNe, Int.reduceBEq, Int.reduceAdd, Int.reduceSub, Int.reduceMul, Int.reduceNeg, Int.reduceLT, Int.reduceLE, Int.reduceToNat, Nat.reduceLT, Nat.reduceAdd, Nat.reduceSub, Nat.reduceMul, Nat.reduceEqDiff, Nat.reduceLeDiff, Nat.reduceBEq, reduceIte, reduceCtorEq, readerS]
    · simp (maxSteps := 4000000) only [push_cast, Int.reduceEq, Int.reduceBNe, Int.reduceBEq, Int.reduceAdd, Int.reduceSub, Int.reduceMul, Int.reduceNeg, Int.reduceLT, Int.reduceLE, Int.reduceToNat, Nat.reduceLT, Nat.reduceAdd, Nat.reduceSub, Nat.reduceMul, Nat.reduceEqDiff, Nat.reduceLeDiff, Nat.reduceBEq, reduceIte, reduceCtorEq, readerS]
theorem newReaderLong_c (l : List Int) (hl : 1048576 < l.length) : Contract Try.prog 23 nilSS [.ints .u8 .old l] (fun sv post => sv = .tup [.nilp, .i .i64 5] ∧ post = nilSS) := by
  refine contract_ev Γok Try.func23 rfl rfl [] ?_
  simp (maxSteps := 4000000) only [push_cast, Int.reduceEq, Int.reduceBNe, Int.reduceBEq, Int.reduceAdd, Int.reduceSub, Int.reduceMul, Int.reduceNeg, Int.reduceLT, Int.reduceLE, Int.reduceToNat, Nat.reduceLT, Nat.reduceAdd, Nat.reduceSub, Nat.reduceMul, Nat.reduceEqDiff, Nat.reduceLeDiff, Nat.reduceBEq, reduceIte, reduceCtorEq, Try.f23]
  refine ⟨fun h => ?_, fun h => by omega⟩
  exact Fin.nil rfl (psv := .tup [.nilp, .i .i64 5]) (by simp (maxSteps := 4000000) only [push_cast, Int.reduceEq, Int.reduceBNe, Int.reduceBEq, Int.reduceAdd, Int.reduceSub, Int.reduceMul, Int.reduceNeg, Int.reduceLT, Int.reduceLE, Int.reduceToNat, Nat.reduceLT, Nat.reduceAdd, Nat.reduceSub, Nat.reduceMul, Nat.reduceEqDiff, Nat.reduceLeDiff, Nat.reduceBEq, reduceIte, reduceCtorEq]) ⟨rfl, rfl⟩

theorem storeRead_c (T : TypeId) (data : List Int) (room p n : Int) (hp : 0 ≤ p) (hp2 : p ≤ data.length) (hd : data.length ≤ 1048576) (h1 : 0 ≤ n) (h2 : n ≤ 1048576) :
    Contract Try.prog 153 ⟨[], [(0, T, [.b true, .ints .u8 .old data, .i .i64 room, .i .i64 p])], [], [], 1, 1, []⟩ [.ptr 0 0, .i .i64 n]
    (fun sv post => sv = .tup [.ints .u8 .new (readV data p n), .i .i64 0] ∧ post = ⟨[], [(0, T, [.b true, .ints .u8 .old data, .i .i64 room, .i .i64 (p + (readV data p n).length)])], [], [], 1, 1, []⟩) := by
  refine contract_ev Γok Try.func153 rfl rfl [] ?_
  simp (maxSteps := 4000000) only [push_cast, Int.reduceEq, Int.reduceBNe, Int.reduceBEq, Int.reduceAdd, Int.reduceSub, Int.reduceMul, Int.reduceNeg, Int.reduceLT, Int.reduceLE, Int.reduceToNat, Nat.reduceLT, Nat.reduceAdd, Nat.reduceSub, Nat.reduceMul, Nat.reduceEqDiff, Nat.reduceLeDiff, Nat.reduceBEq, reduceIte, reduceCtorEq, Try.f153]
  refine ⟨fun h3 => by omega, fun h3 => ?_⟩
  refine (region_plan rfl Γok mixed (.pure 0 (.pure 1 (.pure 2 (.pure 3 (.pure 4 (.pure 5 (.pure 6 (.pure 7 (.pure 8 (.pure 9 (.pure 10 .done))))))))))) 57 rfl (by kernel_rfl) ?_)
  simp (maxSteps := 4000000) only [push_cast, Int.reduceEq, Int.reduceBNe, Int.reduceBEq, Int.reduceAdd, Int.reduceSub, Int.reduceMul, Int.reduceNeg, Int.reduceLT, Int.reduceLE, Int.reduceToNat, Nat.reduceLT, Nat.reduceAdd, Nat.reduceSub, Nat.reduceMul, Nat.reduceEqDiff, Nat.reduceLeDiff, Nat.reduceBEq, reduceIte, reduceCtorEq]
  refine (region_plan rfl Γok mixed (.pure 0 (.pure 1 (.pure 2 (.pure 3 (.pure 4 (.pure 5 (.pure 6 (.pure 7 (.pure 8 (.pure 9 (.pure 10 (.pure 11 (.pure 12 (.pure 13 (.pure 14 (.eff (.cons 15 [] (.pure 16 .done) .nil))))))))))))))))) 57 rfl (by kernel_rfl) ?_)
  simp (maxSteps := 4000000) only [push_cast, Int.reduceEq, Int.reduceBNe, Int.reduceBEq, Int.reduceAdd, Int.reduceSub, Int.reduceMul, Int.reduceNeg, Int.reduceLT, Int.reduceLE, Int.reduceToNat, Nat.reduceLT, Nat.reduceAdd, Nat.reduceSub, Nat.reduceMul, Nat.reduceEqDiff, Nat.reduceLeDiff, Nat.reduceBEq, reduceIte, reduceCtorEq]
  have e1 : minI p data.length = p := by unfold minI; rw [if_neg (by omega)]
  rw [e1, wrap64 (n := p + n) (by omega) (by omega)]
  have e2 : 0 ≤ minI (p + n) data.length ∧ p ≤ minI (p + n) data.length ∧ minI (p + n) data.length ≤ data.length := by unfold minI; split <;> omega
  have e3 : (data.take (minI (p + n) data.length).toNat).drop p.toNat = readV data p n := by
    unfold readV
    rw [List.drop_take]
    by_cases hc : (data.length : Int) < p + n
    · have : minI (p + n) data.length = data.length := by unfold minI; rw [if_pos hc]
      rw [this, List.take_of_length_le (by simp), List.take_of_length_le (by simp; omega)]
    · have : minI (p + n) data.length = p + n := by unfold minI; rw [if_neg hc]
      rw [this]
      congr 1
      omega
  rw [e3]
  have e4 : (readV data p n).length ≤ 1048576 := by unfold readV; simp; omega
  refine ⟨⟨hp, e2.2⟩, call_w (bclone_c (readV data p n) (by omega)) [] (by simp (maxSteps := 4000000) only [push_cast, Int.reduceEq, Int.reduceBNe, Int.reduceBEq, Int.reduceAdd, Int.reduceSub, Int.reduceMul, Int.reduceNeg, Int.reduceLT, Int.reduceLE, Int.reduceToNat, Nat.reduceLT, Nat.reduceAdd, Nat.reduceSub, Nat.reduceMul, Nat.reduceEqDiff, Nat.reduceLeDiff, Nat.reduceBEq, reduceIte, reduceCtorEq]) ?_⟩
  rintro sv post ⟨rfl, rfl⟩
  simp (maxSteps := 4000000) only [push_cast, Int.reduceEq, Int.reduceBNe, Int.reduceBEq, Int.reduceAdd, Int.reduceSub, Int.reduceMul, Int.reduceNeg, Int.reduceLT, Int.reduceLE, Int.reduceToNat, Nat.reduceLT, Nat.reduceAdd, Nat.reduceSub, Nat.reduceMul, Nat.reduceEqDiff, Nat.reduceLeDiff, Nat.reduceBEq, reduceIte, reduceCtorEq]
  rw [wrap64 (by omega) (by omega)]
  exact Fin.w [0] (.tup [.ints .u8 .new (readV data p n), .i .i64 0]) ⟨[], [(0, T, [.b true, .ints .u8 .old data, .i .i64 room, .i .i64 (p + (readV data p n).length)])], [], [], 1, 1, []⟩ (by simp (maxSteps := 4000000) only [push_cast, Int.reduceEq, Int.reduceBNe, Int.reduceBEq, Int.reduceAdd, Int.reduceSub, Int.reduceMul, Int.reduceNeg, Int.reduceLT, Int.reduceLE, Int.reduceToNat, Nat.reduceLT, Nat.reduceAdd, Nat.reduceSub, Nat.reduceMul, Nat.reduceEqDiff, Nat.reduceLeDiff, Nat.reduceBEq, reduceIte, reduceCtorEq]) ⟨rfl, rfl⟩

theorem readerRead_c (data : List Int) (p n : Int) (hp : 0 ≤ p) (hp2 : p ≤ data.length) (hd : data.length ≤ 1048576) (h1 : 0 ≤ n) (h2 : n ≤ 1048576) :
    Contract Try.prog 150 (readerS data p) [.ptr 0 0, .i .i64 n]
    (fun sv post => sv = .tup [.ints .u8 .old (readV data p n), .i .i64 0] ∧ post = readerS data (p + (readV data p n).length)) := by
  refine contract_ev Γok Try.func150 rfl rfl [] ?_
  simp (maxSteps := 4000000) only [push_cast, Int.reduceEq, Int.reduceBNe, Int.reduceBEq, Int.reduceAdd, Int.reduceSub, Int.reduceMul, Int.reduceNeg, Int.reduceLT, Int.reduceLE, Int.reduceToNat, Nat.reduceLT, Nat.reduceAdd, Nat.reduceSub, Nat.reduceMul, Nat.reduceEqDiff, Nat.reduceLeDiff, Nat.reduceBEq, reduceIte, reduceCtorEq, Try.f150, readerS]
  refine call_w (storeRead_c 111 data data.length p n hp hp2 hd h1 h2) [0] (by simp (maxSteps := 4000000) only [push_cast, Int.reduceEq, Int.reduceBNe, Int.reduceBEq, Int.reduceAdd, Int.reduceSub, Int.reduceMul, Int.reduceNeg, Int.reduceLT, Int.reduceLE, Int.reduceToNat, Nat.reduceLT, Nat.reduceAdd, Nat.reduceSub, Nat.reduceMul, Nat.reduceEqDiff, Nat.reduceLeDiff, Nat.reduceBEq, reduceIte, reduceCtorEq]) ?_
  rintro sv post ⟨rfl, rfl⟩
  simp (maxSteps := 4000000) only [push_cast, Int.reduceEq, Int.reduceBNe, Int.reduceBEq, Int.reduceAdd, Int.reduceSub, Int.reduceMul, Int.reduceNeg, Int.reduceLT, Int.reduceLE, Int.reduceToNat, Nat.reduceLT, Nat.reduceAdd, Nat.reduceSub, Nat.reduceMul, Nat.reduceEqDiff, Nat.reduceLeDiff, Nat.reduceBEq, reduceIte, reduceCtorEq]
  exact Fin.w [0] (.tup [.ints .u8 .old (readV data p n), .i .i64 0]) _ (by simp (maxSteps := 4000000) only [push_cast, Int.reduceEq, Int.reduceBNe, Int.reduceBEq, Int.reduceAdd, Int.reduceSub, Int.reduceMul, Int.reduceNeg, Int.reduceLT, Int.reduceLE, Int.reduceToNat, Nat.reduceLT, Nat.reduceAdd, Nat.reduceSub, Nat.reduceMul, Nat.reduceEqDiff, Nat.reduceLeDiff, Nat.reduceBEq, reduceIte, reduceCtorEq]) ⟨rfl, rfl⟩

theorem readerMethod : MethodIs Try.prog 60 "Read" 150 := methodIs_of (by kernel_rfl)

/-- A reader as a Raw. -/
def readerM (data : List Int) (b : Nat) : RawM where
  σ := Int
  t := 60
  y := .pointer (some ⟨b, 0, none⟩)
  res p := (readerS data p).res b
  ok p := 0 ≤ p ∧ p ≤ data.length
  rd p n := (p + (readV data p n).length, readV data p n, 0)
  wr p l := (p, 0, 65)
  sk p o w := (p, 0, 66)
theorem readV_len (data : List Int) (p n : Int) (hp : 0 ≤ p) (hp2 : p ≤ data.length) (h : 0 ≤ n) : (readV data p n).length ≤ n ∧ p + (readV data p n).length ≤ data.length := by unfold readV; simp; omega
theorem readerM_rd (data : List Int) (b : Nat) (hd : data.length ≤ 1048576) : (readerM data b).Rd := by
  refine ⟨fun (p : Int) n ⟨h0, h0'⟩ h1 h2 => ?_, fun (p : Int) n ⟨h0, h0'⟩ h1 h2 => ?_⟩
  · have := readV_len data p n h0 h0' (by omega)
    simp only [readerM]
    omega
  · refine invC_of readerMethod (contract_res b (by simp [readerS]) (by simp [readerS]) (readerRead_c data p n h0 h0' hd (by omega) h2) (by simp [NNL, NN]) ?_)
    rintro sv post ⟨rfl, rfl⟩
    exact ⟨readerS data (p + (readV data p n).length), [0], _, by simp (maxSteps := 4000000) only [push_cast, Int.reduceEq, Int.reduceBNe, Int.reduceBEq, Int.reduceAdd, Int.reduceSub, Int.reduceMul, Int.reduceNeg, Int.reduceLT, Int.reduceLE, Int.reduceToNat, Nat.reduceLT, Nat.reduceAdd, Nat.reduceSub, Nat.reduceMul, Nat.reduceEqDiff, Nat.reduceLeDiff, Nat.reduceBEq, reduceIte, reduceCtorEq, readerS], rfl, (by simp (maxSteps := 4000000) only [push_cast, Int.reduceEq, Int.reduceBNe, Int.reduceBEq, Int.reduceAdd, Int.reduceSub, Int.reduceMul, Int.reduceNeg, Int.reduceLT, Int.reduceLE, Int.reduceToNat, Nat.reduceLT, Nat.reduceAdd, Nat.reduceSub, Nat.reduceMul, Nat.reduceEqDiff, Nat.reduceLeDiff, Nat.reduceBEq, reduceIte, reduceCtorEq] : W false (fun n => n) (.tup [.ints .u8 .old (readV data p n), .i .i64 0]) _), by simp [NN, NNL, NNT], rfl, rfl⟩
end Go.Proofs.Ytciokebdmnaobaa
/- Lines: bytes up to one. -/
namespace Go.Proofs.Ytciokebdmnaobaa
open Go Go.Eng
set_option maxHeartbeats 4000000
set_option linter.unusedSimpArgs false
set_option linter.unusedVariables false
set_option maxRecDepth 100000

theorem sclone_c (l : List Int) (hl : l.length ≤ 140737488355328) : Contract Try.prog 43 nilSS [.ints .u8 .old l] (fun sv post => sv = .ints .u8 (.tok 0 true) l ∧ post = ⟨[], [], [0], [], 1, 0, []⟩) := by
  refine contract_ev Γok Try.func43 rfl rfl [] ?_
  simp (maxSteps := 4000000) only [push_cast, Int.reduceEq, Int.reduceBNe, Int.reduceBEq, Int.reduceAdd, Int.reduceSub, Int.reduceMul, Int.reduceNeg, Int.reduceLT, Int.reduceLE, Int.reduceToNat, Nat.reduceLT, Nat.reduceAdd, Nat.reduceSub, Nat.reduceMul, Nat.reduceEqDiff, Nat.reduceLeDiff, Nat.reduceBEq, reduceIte, reduceCtorEq, Try.f43]
  rintro c hc
  refine ⟨fun h => ?_, fun h => ⟨by omega, Fin.w [1] _ _ (by simp (maxSteps := 4000000) only [push_cast, Int.reduceEq, Int.reduceBNe, Int.reduceBEq, Int.reduceAdd, Int.reduceSub, Int.reduceMul, Int.reduceNeg, Int.reduceLT, Int.reduceLE, Int.reduceToNat, Nat.reduceLT, Nat.reduceAdd, Nat.reduceSub, Nat.reduceMul, Nat.reduceEqDiff, Nat.reduceLeDiff, Nat.reduceBEq, reduceIte, reduceCtorEq]) ⟨rfl, rfl⟩⟩⟩
  have hn := hc h
  subst hn
  exact Fin.wt [0] (.ints .u8 (.tok 0 true) []) ⟨[], [], [0], [], 1, 0, []⟩ (by simp (maxSteps := 4000000) only [push_cast, Int.reduceEq, Int.reduceBNe, Int.reduceBEq, Int.reduceAdd, Int.reduceSub, Int.reduceMul, Int.reduceNeg, Int.reduceLT, Int.reduceLE, Int.reduceToNat, Nat.reduceLT, Nat.reduceAdd, Nat.reduceSub, Nat.reduceMul, Nat.reduceEqDiff, Nat.reduceLeDiff, Nat.reduceBEq, reduceIte, reduceCtorEq]) ⟨rfl, rfl⟩

theorem when_c (b : Bool) (e : Int) : Contract Try.prog 45 nilSS [.b b, .i .i64 e] (fun sv post => sv = .i .i64 (if b then e else 0) ∧ post = nilSS) := by
  refine contract_ev Γok Try.func45 rfl rfl [] ?_
  simp (maxSteps := 4000000) only [push_cast, Int.reduceEq, Int.reduceBNe, Int.reduceBEq, Int.reduceAdd, Int.reduceSub, Int.reduceMul, Int.reduceNeg, Int.reduceLT, Int.reduceLE, Int.reduceToNat, Nat.reduceLT, Nat.reduceAdd, Nat.reduceSub, Nat.reduceMul, Nat.reduceEqDiff, Nat.reduceLeDiff, Nat.reduceBEq, reduceIte, reduceCtorEq, Try.f45]
  refine ⟨fun h => ?_, fun h => ?_⟩ <;> refine Fin.nil rfl (psv := .i .i64 _) ⟨rfl, rfl⟩ ⟨?_, rfl⟩ <;> simp [h]

/-- What is wrong ahead of all. -/
def St.aErr (x : St) (wrong : Int) : Int := if x.May then (if x.cl = true then 113 else wrong) else 51
def isA (x : St) (e : Int) (sv : SV) (post : SS) : Prop := sv = .tup [x.sv .new, .i .i64 e] ∧ post = nilSS

set_option maxHeartbeats 2000000 in
theorem asked_c (x : St) (hx : x.fits) (t : TypeId) (y : Value) (wrong : Int) : Contract Try.prog 44 nilSS [x.sv .old, .ifc t (.raw y), .i .i64 wrong] (isA x (x.aErr wrong)) := by
  have hx' := hx
  obtain ⟨ho, hi, hk⟩ := hx'
  refine contract_ev Γok Try.func44 rfl rfl [] ?_
  simp (maxSteps := 4000000) only [push_cast, Int.reduceEq, Int.reduceBNe, Int.reduceBEq, Int.reduceAdd, Int.reduceSub, Int.reduceMul, Int.reduceNeg, Int.reduceLT, Int.reduceLE, Int.reduceToNat, Nat.reduceLT, Nat.reduceAdd, Nat.reduceSub, Nat.reduceMul, Nat.reduceEqDiff, Nat.reduceLeDiff, Nat.reduceBEq, reduceIte, reduceCtorEq, Try.f44, rg11, St.sv, St.cells]
  refine call_w (checkR_c x hx) [] (by simp (maxSteps := 4000000) only [push_cast, Int.reduceEq, Int.reduceBNe, Int.reduceBEq, Int.reduceAdd, Int.reduceSub, Int.reduceMul, Int.reduceNeg, Int.reduceLT, Int.reduceLE, Int.reduceToNat, Nat.reduceLT, Nat.reduceAdd, Nat.reduceSub, Nat.reduceMul, Nat.reduceEqDiff, Nat.reduceLeDiff, Nat.reduceBEq, reduceIte, reduceCtorEq, St.sv, St.cells]) ?_
  rintro sv post ⟨rfl, rfl⟩
  simp (maxSteps := 4000000) only [push_cast, Int.reduceEq, Int.reduceBNe, Int.reduceBEq, Int.reduceAdd, Int.reduceSub, Int.reduceMul, Int.reduceNeg, Int.reduceLT, Int.reduceLE, Int.reduceToNat, Nat.reduceLT, Nat.reduceAdd, Nat.reduceSub, Nat.reduceMul, Nat.reduceEqDiff, Nat.reduceLeDiff, Nat.reduceBEq, reduceIte, reduceCtorEq]
  unfold St.aErr
  refine ⟨fun h => ?_, fun h => ⟨fun h1 => ?_, fun h1 => ?_⟩⟩
  · have hm : ¬ x.May := fun hm => h (by rw [if_pos hm])
    rw [if_neg hm, if_neg hm]
    refine (region_plan rfl Γok mixed (.pure 0 (.pure 1 (.pure 3 (.pure 4 (.pure 6 (.pure 7 (.eff (.cons 2 [4, 7] (.pure 9 (.eff (.cons 5 [7] (.eff (.cons 8 [] (.eff (.cons 10 [] (.pure 11 (.eff (.cons 12 [] (.pure 13 (.eff (.cons 14 [] .done .nil))) .nil))) .nil)) .nil)) .nil))) .nil)))))))) 35 rfl (by kernel_rfl) ?_)
    simp (maxSteps := 4000000) only [push_cast, Int.reduceEq, Int.reduceBNe, Int.reduceBEq, Int.reduceAdd, Int.reduceSub, Int.reduceMul, Int.reduceNeg, Int.reduceLT, Int.reduceLE, Int.reduceToNat, Nat.reduceLT, Nat.reduceAdd, Nat.reduceSub, Nat.reduceMul, Nat.reduceEqDiff, Nat.reduceLeDiff, Nat.reduceBEq, reduceIte, reduceCtorEq]
    refine call_w (sclone_c x.o ho) [] (by simp (maxSteps := 4000000) only [push_cast, Int.reduceEq, Int.reduceBNe, Int.reduceBEq, Int.reduceAdd, Int.reduceSub, Int.reduceMul, Int.reduceNeg, Int.reduceLT, Int.reduceLE, Int.reduceToNat, Nat.reduceLT, Nat.reduceAdd, Nat.reduceSub, Nat.reduceMul, Nat.reduceEqDiff, Nat.reduceLeDiff, Nat.reduceBEq, reduceIte, reduceCtorEq]) ?_
    rintro sv post ⟨rfl, rfl⟩
    simp (maxSteps := 4000000) only [push_cast, Int.reduceEq, Int.reduceBNe, Int.reduceBEq, Int.reduceAdd, Int.reduceSub, Int.reduceMul, Int.reduceNeg, Int.reduceLT, Int.reduceLE, Int.reduceToNat, Nat.reduceLT, Nat.reduceAdd, Nat.reduceSub, Nat.reduceMul, Nat.reduceEqDiff, Nat.reduceLeDiff, Nat.reduceBEq, reduceIte, reduceCtorEq]
    refine call_w (sclone_c x.i hi) [] (by simp (maxSteps := 4000000) only [push_cast, Int.reduceEq, Int.reduceBNe, Int.reduceBEq, Int.reduceAdd, Int.reduceSub, Int.reduceMul, Int.reduceNeg, Int.reduceLT, Int.reduceLE, Int.reduceToNat, Nat.reduceLT, Nat.reduceAdd, Nat.reduceSub, Nat.reduceMul, Nat.reduceEqDiff, Nat.reduceLeDiff, Nat.reduceBEq, reduceIte, reduceCtorEq]) ?_
    rintro sv post ⟨rfl, rfl⟩
    simp (maxSteps := 4000000) only [push_cast, Int.reduceEq, Int.reduceBNe, Int.reduceBEq, Int.reduceAdd, Int.reduceSub, Int.reduceMul, Int.reduceNeg, Int.reduceLT, Int.reduceLE, Int.reduceToNat, Nat.reduceLT, Nat.reduceAdd, Nat.reduceSub, Nat.reduceMul, Nat.reduceEqDiff, Nat.reduceLeDiff, Nat.reduceBEq, reduceIte, reduceCtorEq]
    refine call_w (sclone_c x.k hk) [] (by simp (maxSteps := 4000000) only [push_cast, Int.reduceEq, Int.reduceBNe, Int.reduceBEq, Int.reduceAdd, Int.reduceSub, Int.reduceMul, Int.reduceNeg, Int.reduceLT, Int.reduceLE, Int.reduceToNat, Nat.reduceLT, Nat.reduceAdd, Nat.reduceSub, Nat.reduceMul, Nat.reduceEqDiff, Nat.reduceLeDiff, Nat.reduceBEq, reduceIte, reduceCtorEq]) ?_
    rintro sv post ⟨rfl, rfl⟩
    simp (maxSteps := 4000000) only [push_cast, Int.reduceEq, Int.reduceBNe, Int.reduceBEq, Int.reduceAdd, Int.reduceSub, Int.reduceMul, Int.reduceNeg, Int.reduceLT, Int.reduceLE, Int.reduceToNat, Nat.reduceLT, Nat.reduceAdd, Nat.reduceSub, Nat.reduceMul, Nat.reduceEqDiff, Nat.reduceLeDiff, Nat.reduceBEq, reduceIte, reduceCtorEq, rg11]
    exact Fin.nil rfl (psv := .tup [x.sv .new, .i .i64 51]) (by simp (maxSteps := 4000000) only [push_cast, Int.reduceEq, Int.reduceBNe, Int.reduceBEq, Int.reduceAdd, Int.reduceSub, Int.reduceMul, Int.reduceNeg, Int.reduceLT, Int.reduceLE, Int.reduceToNat, Nat.reduceLT, Nat.reduceAdd, Nat.reduceSub, Nat.reduceMul, Nat.reduceEqDiff, Nat.reduceLeDiff, Nat.reduceBEq, reduceIte, reduceCtorEq, St.sv, St.cells]) ⟨rfl, rfl⟩
  all_goals
    have hm : x.May := by
      by_cases hm : x.May
      · exact hm
      · rw [if_neg hm] at h; omega
    simp only [if_pos hm]
  · rw [if_pos h1]
    refine (region_plan rfl Γok mixed (.pure 0 (.pure 1 (.pure 3 (.pure 4 (.pure 6 (.pure 7 (.eff (.cons 2 [4, 7] (.pure 9 (.eff (.cons 5 [7] (.eff (.cons 8 [] (.eff (.cons 10 [] (.pure 11 (.eff (.cons 12 [] (.pure 13 (.eff (.cons 14 [] .done .nil))) .nil))) .nil)) .nil)) .nil))) .nil)))))))) 35 rfl (by kernel_rfl) ?_)
    simp (maxSteps := 4000000) only [push_cast, Int.reduceEq, Int.reduceBNe, Int.reduceBEq, Int.reduceAdd, Int.reduceSub, Int.reduceMul, Int.reduceNeg, Int.reduceLT, Int.reduceLE, Int.reduceToNat, Nat.reduceLT, Nat.reduceAdd, Nat.reduceSub, Nat.reduceMul, Nat.reduceEqDiff, Nat.reduceLeDiff, Nat.reduceBEq, reduceIte, reduceCtorEq]
    refine call_w (sclone_c x.o ho) [] (by simp (maxSteps := 4000000) only [push_cast, Int.reduceEq, Int.reduceBNe, Int.reduceBEq, Int.reduceAdd, Int.reduceSub, Int.reduceMul, Int.reduceNeg, Int.reduceLT, Int.reduceLE, Int.reduceToNat, Nat.reduceLT, Nat.reduceAdd, Nat.reduceSub, Nat.reduceMul, Nat.reduceEqDiff, Nat.reduceLeDiff, Nat.reduceBEq, reduceIte, reduceCtorEq]) ?_
    rintro sv post ⟨rfl, rfl⟩
    simp (maxSteps := 4000000) only [push_cast, Int.reduceEq, Int.reduceBNe, Int.reduceBEq, Int.reduceAdd, Int.reduceSub, Int.reduceMul, Int.reduceNeg, Int.reduceLT, Int.reduceLE, Int.reduceToNat, Nat.reduceLT, Nat.reduceAdd, Nat.reduceSub, Nat.reduceMul, Nat.reduceEqDiff, Nat.reduceLeDiff, Nat.reduceBEq, reduceIte, reduceCtorEq]
    refine call_w (sclone_c x.i hi) [] (by simp (maxSteps := 4000000) only [push_cast, Int.reduceEq, Int.reduceBNe, Int.reduceBEq, Int.reduceAdd, Int.reduceSub, Int.reduceMul, Int.reduceNeg, Int.reduceLT, Int.reduceLE, Int.reduceToNat, Nat.reduceLT, Nat.reduceAdd, Nat.reduceSub, Nat.reduceMul, Nat.reduceEqDiff, Nat.reduceLeDiff, Nat.reduceBEq, reduceIte, reduceCtorEq]) ?_
    rintro sv post ⟨rfl, rfl⟩
    simp (maxSteps := 4000000) only [push_cast, Int.reduceEq, Int.reduceBNe, Int.reduceBEq, Int.reduceAdd, Int.reduceSub, Int.reduceMul, Int.reduceNeg, Int.reduceLT, Int.reduceLE, Int.reduceToNat, Nat.reduceLT, Nat.reduceAdd, Nat.reduceSub, Nat.reduceMul, Nat.reduceEqDiff, Nat.reduceLeDiff, Nat.reduceBEq, reduceIte, reduceCtorEq]
    refine call_w (sclone_c x.k hk) [] (by simp (maxSteps := 4000000) only [push_cast, Int.reduceEq, Int.reduceBNe, Int.reduceBEq, Int.reduceAdd, Int.reduceSub, Int.reduceMul, Int.reduceNeg, Int.reduceLT, Int.reduceLE, Int.reduceToNat, Nat.reduceLT, Nat.reduceAdd, Nat.reduceSub, Nat.reduceMul, Nat.reduceEqDiff, Nat.reduceLeDiff, Nat.reduceBEq, reduceIte, reduceCtorEq]) ?_
    rintro sv post ⟨rfl, rfl⟩
    simp (maxSteps := 4000000) only [push_cast, Int.reduceEq, Int.reduceBNe, Int.reduceBEq, Int.reduceAdd, Int.reduceSub, Int.reduceMul, Int.reduceNeg, Int.reduceLT, Int.reduceLE, Int.reduceToNat, Nat.reduceLT, Nat.reduceAdd, Nat.reduceSub, Nat.reduceMul, Nat.reduceEqDiff, Nat.reduceLeDiff, Nat.reduceBEq, reduceIte, reduceCtorEq, rg11]
    exact Fin.nil rfl (psv := .tup [x.sv .new, .i .i64 113]) (by simp (maxSteps := 4000000) only [push_cast, Int.reduceEq, Int.reduceBNe, Int.reduceBEq, Int.reduceAdd, Int.reduceSub, Int.reduceMul, Int.reduceNeg, Int.reduceLT, Int.reduceLE, Int.reduceToNat, Nat.reduceLT, Nat.reduceAdd, Nat.reduceSub, Nat.reduceMul, Nat.reduceEqDiff, Nat.reduceLeDiff, Nat.reduceBEq, reduceIte, reduceCtorEq, St.sv, St.cells]) ⟨rfl, rfl⟩
  · rw [if_neg (by simp [h1])]
    refine (region_plan rfl Γok mixed (.pure 0 (.pure 1 (.pure 3 (.pure 4 (.pure 6 (.pure 7 (.eff (.cons 2 [4, 7] (.pure 9 (.eff (.cons 5 [7] (.eff (.cons 8 [] (.eff (.cons 10 [] (.pure 11 (.eff (.cons 12 [] (.pure 13 (.eff (.cons 14 [] .done .nil))) .nil))) .nil)) .nil)) .nil))) .nil)))))))) 35 rfl (by kernel_rfl) ?_)
    simp (maxSteps := 4000000) only [push_cast, Int.reduceEq, Int.reduceBNe, Int.reduceBEq, Int.reduceAdd, Int.reduceSub, Int.reduceMul, Int.reduceNeg, Int.reduceLT, Int.reduceLE, Int.reduceToNat, Nat.reduceLT, Nat.reduceAdd, Nat.reduceSub, Nat.reduceMul, Nat.reduceEqDiff, Nat.reduceLeDiff, Nat.reduceBEq, reduceIte, reduceCtorEq]
    refine call_w (sclone_c x.o ho) [] (by simp (maxSteps := 4000000) only [push_cast, Int.reduceEq, Int.reduceBNe, Int.reduceBEq, Int.reduceAdd, Int.reduceSub, Int.reduceMul, Int.reduceNeg, Int.reduceLT, Int.reduceLE, Int.reduceToNat, Nat.reduceLT, Nat.reduceAdd, Nat.reduceSub, Nat.reduceMul, Nat.reduceEqDiff, Nat.reduceLeDiff, Nat.reduceBEq, reduceIte, reduceCtorEq]) ?_
    rintro sv post ⟨rfl, rfl⟩
    simp (maxSteps := 4000000) only [push_cast, Int.reduceEq, Int.reduceBNe, Int.reduceBEq, Int.reduceAdd, Int.reduceSub, Int.reduceMul, Int.reduceNeg, Int.reduceLT, Int.reduceLE, Int.reduceToNat, Nat.reduceLT, Nat.reduceAdd, Nat.reduceSub, Nat.reduceMul, Nat.reduceEqDiff, Nat.reduceLeDiff, Nat.reduceBEq, reduceIte, reduceCtorEq]
    refine call_w (sclone_c x.i hi) [] (by simp (maxSteps := 4000000) only [push_cast, Int.reduceEq, Int.reduceBNe, Int.reduceBEq, Int.reduceAdd, Int.reduceSub, Int.reduceMul, Int.reduceNeg, Int.reduceLT, Int.reduceLE, Int.reduceToNat, Nat.reduceLT, Nat.reduceAdd, Nat.reduceSub, Nat.reduceMul, Nat.reduceEqDiff, Nat.reduceLeDiff, Nat.reduceBEq, reduceIte, reduceCtorEq]) ?_
    rintro sv post ⟨rfl, rfl⟩
    simp (maxSteps := 4000000) only [push_cast, Int.reduceEq, Int.reduceBNe, Int.reduceBEq, Int.reduceAdd, Int.reduceSub, Int.reduceMul, Int.reduceNeg, Int.reduceLT, Int.reduceLE, Int.reduceToNat, Nat.reduceLT, Nat.reduceAdd, Nat.reduceSub, Nat.reduceMul, Nat.reduceEqDiff, Nat.reduceLeDiff, Nat.reduceBEq, reduceIte, reduceCtorEq]
    refine call_w (sclone_c x.k hk) [] (by simp (maxSteps := 4000000) only [push_cast, Int.reduceEq, Int.reduceBNe, Int.reduceBEq, Int.reduceAdd, Int.reduceSub, Int.reduceMul, Int.reduceNeg, Int.reduceLT, Int.reduceLE, Int.reduceToNat, Nat.reduceLT, Nat.reduceAdd, Nat.reduceSub, Nat.reduceMul, Nat.reduceEqDiff, Nat.reduceLeDiff, Nat.reduceBEq, reduceIte, reduceCtorEq]) ?_
    rintro sv post ⟨rfl, rfl⟩
    simp (maxSteps := 4000000) only [push_cast, Int.reduceEq, Int.reduceBNe, Int.reduceBEq, Int.reduceAdd, Int.reduceSub, Int.reduceMul, Int.reduceNeg, Int.reduceLT, Int.reduceLE, Int.reduceToNat, Nat.reduceLT, Nat.reduceAdd, Nat.reduceSub, Nat.reduceMul, Nat.reduceEqDiff, Nat.reduceLeDiff, Nat.reduceBEq, reduceIte, reduceCtorEq, rg11]
    exact Fin.nil rfl (psv := .tup [x.sv .new, .i .i64 wrong]) (by simp (maxSteps := 4000000) only [push_cast, Int.reduceEq, Int.reduceBNe, Int.reduceBEq, Int.reduceAdd, Int.reduceSub, Int.reduceMul, Int.reduceNeg, Int.reduceLT, Int.reduceLE, Int.reduceToNat, Nat.reduceLT, Nat.reduceAdd, Nat.reduceSub, Nat.reduceMul, Nat.reduceEqDiff, Nat.reduceLeDiff, Nat.reduceBEq, reduceIte, reduceCtorEq, St.sv, St.cells]) ⟨rfl, rfl⟩

end Go.Proofs.Ytciokebdmnaobaa
/- Lines: bytes till one stops them. -/
namespace Go.Proofs.Ytciokebdmnaobaa
open Go Go.Eng
set_option maxHeartbeats 4000000
set_option linter.unusedSimpArgs false
set_option linter.unusedVariables false
set_option maxRecDepth 100000

/-- Bytes till one, or so many. -/
def lineGo (M : RawM) (stop : Int → Bool) (limit : Int) : Nat → St → M.σ → List Int → St × M.σ × List Int × Int
  | 0, x, g, out => (x, g, out, 0)
  | f + 1, x, g, out =>
    if (out.length : Int) < limit then
      (if (x.Get M g).2.2.2 ≠ 0 then ((x.Get M g).1, (x.Get M g).2.1, out, if (x.Get M g).2.2.2 = 111 ∧ 0 < out.length then 0 else (x.Get M g).2.2.2)
       else if stop (x.Get M g).2.2.1 then ((x.Get M g).1, (x.Get M g).2.1, out ++ [(x.Get M g).2.2.1], 0)
       else lineGo M stop limit f (x.Get M g).1 (x.Get M g).2.1 (out ++ [(x.Get M g).2.2.1]))
    else (x, g, out, 0)
def lineV (M : RawM) (stop : Int → Bool) (limit : Int) (x : St) (g : M.σ) : St × M.σ × List Int × Int := lineGo M stop limit (limit.toNat + 1) x g []

theorem fill_len (M : RawM) (x : St) (g : M.σ) (h : 1 ≤ askV x.m x.s) : (x.fill M g).1.o = x.o ∧ (x.fill M g).1.k = x.k ∧ ((x.fill M g).1.i.length : Int) ≤ x.i.length + askV x.m x.s := by
  have hl := someV_len M (askV x.m x.s) h 8192 g
  have hl' : ((someV M g (askV x.m x.s)).2.1.length : Int) ≤ askV x.m x.s := hl
  unfold St.fill
  split
  · exact ⟨rfl, rfl, by dsimp only; omega⟩
  · split
    · exact ⟨rfl, rfl, by dsimp only; omega⟩
    · exact ⟨rfl, rfl, by simp only [St.noted, List.length_append]; omega⟩
theorem get_len (M : RawM) (x : St) (g : M.σ) (h : 1 ≤ askV x.m x.s) : (x.get M g).1.o = x.o ∧ (x.get M g).1.k.length ≤ x.k.length ∧ ((x.get M g).1.i.length : Int) ≤ x.i.length + askV x.m x.s := by
  obtain ⟨h1, h2, h3⟩ := fill_len M { x with d := 1 } g h
  unfold St.get
  split
  · exact ⟨rfl, Nat.le_refl _, by dsimp only; omega⟩
  · split
    · exact ⟨rfl, Nat.le_refl _, by dsimp only; omega⟩
    · split
      · exact ⟨rfl, by simp, by dsimp only; omega⟩
      · split
        · exact ⟨rfl, Nat.le_refl _, by simp only [List.length_drop]; omega⟩
        · dsimp only
          split
          · exact ⟨h1, by rw [h2]; exact Nat.le_refl _, h3⟩
          · exact ⟨h1, by rw [h2]; exact Nat.le_refl _, by simp only [List.length_drop]; simp only at h3; omega⟩
theorem Get_fits (M : RawM) (x : St) (g : M.σ) (hx : x.fits) : (x.Get M g).1.fits := by
  unfold St.Get
  split
  · exact hx
  · rename_i h
    obtain ⟨hm, hc⟩ := bErr_zero (by omega : x.bErr = 0)
    obtain ⟨b1, b2, b3, b4⟩ := May.bd hm
    obtain ⟨a1, a2⟩ := ask_rng b1
    obtain ⟨h1, h2, h3⟩ := get_len M x g a1
    exact ⟨by rw [h1]; exact hx.o, by omega, by omega⟩
theorem fill_ok (M : RawM) (hR : M.Rd) (x : St) (g : M.σ) (hg : M.ok g) (h : mayV x.m x.s = 0) : M.ok (x.fill M g).2.1 := by
  obtain ⟨a1, a2⟩ := ask_rng h
  have := M.some_ok hR (askV x.m x.s) a1 (by omega) 8192 g hg
  unfold St.fill
  split
  · exact hg
  · split <;> exact this
theorem get_ok (M : RawM) (hR : M.Rd) (x : St) (g : M.σ) (hg : M.ok g) (h : mayV x.m x.s = 0) : M.ok (x.get M g).2.1 := by
  have := fill_ok M hR { x with d := 1 } g hg h
  unfold St.get
  split
  · exact hg
  · split
    · exact hg
    · split
      · exact hg
      · split
        · exact hg
        · dsimp only
          split <;> exact this
theorem Get_ok (M : RawM) (hR : M.Rd) (x : St) (g : M.σ) (hg : M.ok g) : M.ok (x.Get M g).2.1 := by
  unfold St.Get
  split
  · exact hg
  · rename_i h
    obtain ⟨hm, hc⟩ := bErr_zero (by omega : x.bErr = 0)
    exact get_ok M hR x g hg (May.bd hm).1

/-- How bytes up to one end; block 0: what the closure holds. -/
def isL (M : RawM) (d : Int) (r : St × M.σ × List Int × Int) (sv : SV) (post : SS) : Prop :=
  sv = .tup [r.1.sv .new, .ints .u8 .new r.2.2.1, .i .i64 r.2.2.2] ∧ post = ⟨[], [(0, 5, [.i .u8 d])], [], [(1, M.res r.2.1)], 2, 2, []⟩

end Go.Proofs.Ytciokebdmnaobaa
/- Lines: up to a byte; a line. -/
namespace Go.Proofs.Ytciokebdmnaobaa
open Go Go.Eng
set_option maxHeartbeats 4000000
set_option linter.unusedSimpArgs false
set_option linter.unusedVariables false
set_option maxRecDepth 100000

/-- Bytes up to one. -/
def St.Until (M : RawM) (x : St) (g : M.σ) (d limit : Int) : St × M.σ × List Int × Int :=
  if x.aErr (if limit < 1 ∨ 65536 < limit then 4 else 0) ≠ 0 then (x, g, [], x.aErr (if limit < 1 ∨ 65536 < limit then 4 else 0))
  else lineV M (fun c => c == d) limit x g
def isU (M : RawM) (r : St × M.σ × List Int × Int) (sv : SV) (post : SS) : Prop := sv = .tup [r.1.sv .new, .ints .u8 .new r.2.2.1, .i .i64 r.2.2.2] ∧ post = preR (M.res r.2.1)

theorem aErr_zero {x : St} {e : Int} (h : x.aErr e = 0) : x.May ∧ x.cl = false ∧ e = 0 := by
  unfold St.aErr at h
  split at h
  · rename_i hm
    split at h
    · omega
    · rename_i hc; exact ⟨hm, by simpa using hc, h⟩
  · omega

theorem bool_ite {p : Prop} [Decidable p] (b : Bool) (h : b = decide p) (e : Int) : (if b = true then e else 0) = if p then e else 0 := by
  subst h; by_cases hp : p <;> simp [hp]

end Go.Proofs.Ytciokebdmnaobaa
/- What is got off a stream over a Raw that feeds it: what is left, byte by byte. -/
namespace Go.Proofs.Ytciokebdmnaobaa
open Go Go.Eng
set_option maxHeartbeats 4000000
set_option linter.unusedSimpArgs false
set_option linter.unusedVariables false

/-- Reads tell what is left, bit by bit. -/
structure Feeds (M : RawM) (rest : M.σ → List Int) : Prop where
  run : ∀ g n, M.ok g → 1 ≤ n → n ≤ 65536 → (someV M g n).2.2 = 0 ∧ (someV M g n).2.1 ++ rest (someV M g n).1 = rest g ∧ ((someV M g n).2.1 = [] → rest g = [])

/-- A stream that reads, nothing pushed back. -/
structure Reads (M : RawM) (rest : M.σ → List Int) (x : St) (g : M.σ) : Prop where
  may : x.May
  r : x.r = true
  cl : x.cl = false
  d : x.d ≠ 2
  k : x.k = []
  o : x.o = []
  en : x.en = true → rest g = []
  ok : M.ok g
/-- All that is left. -/
def left (M : RawM) (rest : M.σ → List Int) (x : St) (g : M.σ) : List Int := x.i ++ rest g

theorem Reads.bErr {M : RawM} {rest : M.σ → List Int} {x : St} {g : M.σ} (h : Reads M rest x g) : x.bErr = 0 := by
  unfold St.bErr; rw [if_pos h.may, if_neg (by simp [h.cl])]
theorem Reads.fits {M : RawM} {rest : M.σ → List Int} {x : St} {g : M.σ} (h : Reads M rest x g) : x.fits := by
  obtain ⟨b1, b2, b3, b4⟩ := May.bd h.may
  exact ⟨by omega, by omega, by omega⟩

theorem may_got {r w : Bool} {m s d : Int} {i k i' k' : List Int} {en bad cl en' bad' : Bool} (h : St.May ⟨r, w, m, s, [], i, k, d, en, bad, cl⟩) (hr : r = true) (hc : cl = false) (hi : i'.length ≤ 65536) (hk : k'.length ≤ 8) : St.May ⟨r, w, m, s, [], i', k', 1, en', bad', cl⟩ := by
  obtain ⟨h1, h2, h3, h4, h5, h6, h7⟩ := h
  exact ⟨h1, h2, h3, hi, hk, .inl hc, .inr (.inl ⟨rfl, hr, rfl⟩)⟩

/-- A byte more is got, or the end is told. -/
theorem get_feeds {M : RawM} (hR : M.Rd) {rest : M.σ → List Int} (hF : Feeds M rest) {x : St} {g : M.σ} (h : Reads M rest x g) :
    Reads M rest (x.Get M g).1 (x.Get M g).2.1 ∧
      (match left M rest x g with
      | [] => (x.Get M g).2.2 = (0, 111) ∧ left M rest (x.Get M g).1 (x.Get M g).2.1 = [] ∧ (x.Get M g).1.en = true ∧ (x.Get M g).1.bad = x.bad
      | c :: l => (x.Get M g).2.2 = (c, 0) ∧ left M rest (x.Get M g).1 (x.Get M g).2.1 = l ∧ (x.Get M g).1.bad = x.bad) := by
  have hb := h.bErr
  have hok := Get_ok M hR x g h.ok
  obtain ⟨r, w, m, s, o, i, k, d, en, bad, cl⟩ := x
  obtain ⟨h1, h2, h3, h4, h5, h6, h7, h8⟩ := h
  simp only at h2 h3 h4 h5 h6 h7
  subst h2 h3 h5 h6
  obtain ⟨b1, b2, b3, b4⟩ := May.bd h1
  simp only at b1 b3
  obtain ⟨a1, a2⟩ := ask_rng b1
  unfold St.Get at hok ⊢
  rw [if_neg (by rw [hb]; simp)] at hok ⊢
  cases i with
  | cons c l =>
    have hg : St.get M ⟨true, w, m, s, [], c :: l, [], d, en, bad, false⟩ g = (⟨true, w, m, s, [], l, [], 1, en, bad, false⟩, g, c, 0) := by
      simp [St.get, h4]
    rw [hg] at hok ⊢
    simp only [left, List.cons_append]
    exact ⟨⟨may_got h1 rfl rfl (by simp at b3 ⊢; omega) (by simp), rfl, rfl, by simp, rfl, rfl, h7, h8⟩, by simp⟩
  | nil =>
    by_cases hen : en = true
    · subst hen
      have hr := h7 rfl
      have hg : St.get M ⟨true, w, m, s, [], [], [], d, true, bad, false⟩ g = (⟨true, w, m, s, [], [], [], 1, true, bad, false⟩, g, 0, 111) := by
        simp [St.get, St.fill, h4]
      rw [hg] at hok ⊢
      simp only [left, List.nil_append, hr]
      exact ⟨⟨may_got h1 rfl rfl (by simp) (by simp), rfl, rfl, by simp, rfl, rfl, h7, h8⟩, by simp⟩
    · have hen : en = false := by simpa using hen
      subst hen
      obtain ⟨f1, f2, f3⟩ := hF.run g (askV m s) h8 a1 a2
      have hl : ((someV M g (askV m s)).2.1.length : Int) ≤ askV m s := someV_len M (askV m s) a1 8192 g
      obtain ⟨g', b, e, hq⟩ : ∃ g' b e, someV M g (askV m s) = (g', b, e) := ⟨_, _, _, rfl⟩
      rw [hq] at f1 f2 f3 hl
      simp only at f1 f2 f3 hl
      subst f1
      cases b with
      | nil =>
        have hr := f3 rfl
        have hr' : rest g' = [] := by rw [hr] at f2; simpa using f2
        have hg : St.get M ⟨true, w, m, s, [], [], [], d, false, bad, false⟩ g = (⟨true, w, m, s, [], [], [], 1, true, bad, false⟩, g', 0, 111) := by
          simp [St.get, St.fill, h4, hq]
        rw [hg] at hok ⊢
        simp only [left, List.nil_append, hr]
        exact ⟨⟨may_got h1 rfl rfl (by simp) (by simp), rfl, rfl, by simp, rfl, rfl, fun _ => hr', hok⟩, by simp [hr']⟩
      | cons c l =>
        have hg : St.get M ⟨true, w, m, s, [], [], [], d, false, bad, false⟩ g = (⟨true, w, m, s, [], l, [], 1, false, bad, false⟩, g', c, 0) := by
          simp [St.get, St.fill, St.noted, h4, hq]
        rw [hg] at hok ⊢
        simp only [left, List.nil_append]
        rw [← f2]
        simp only [List.cons_append]
        exact ⟨⟨may_got h1 rfl rfl (by simp at hl ⊢; omega) (by simp), rfl, rfl, by simp, rfl, rfl, fun he => by simp at he, hok⟩, by simp⟩

/-- Bytes up to one: what they are. -/
structure Line (d limit : Int) (all out rest : List Int) : Prop where
  app : out ++ rest = all
  len : (out.length : Int) ≤ limit
  inner : ∀ c, c ∈ out.dropLast → c ≠ d
  why : out.getLast? = some d ∨ (out.length : Int) = limit ∨ rest = []
theorem lineGo_feeds {M : RawM} (hR : M.Rd) {rest : M.σ → List Int} (hF : Feeds M rest) (d limit : Int) : ∀ (f : Nat) (x : St) (g : M.σ) (out : List Int), Reads M rest x g → (out.length : Int) ≤ limit → limit < f + out.length → (∀ c, c ∈ out → c ≠ d) →
    (let r := lineGo M (fun c => c == d) limit f x g out
     Reads M rest r.1 r.2.1 ∧ r.1.bad = x.bad ∧
       ((r.2.2.2 = 0 ∧ Line d limit (out ++ left M rest x g) r.2.2.1 (left M rest r.1 r.2.1) ∧ (r.2.2.1 ≠ [] ∨ limit = 0)) ∨
        (r.2.2.2 = 111 ∧ r.2.2.1 = [] ∧ out = [] ∧ left M rest x g = [] ∧ left M rest r.1 r.2.1 = [])))
  | 0, x, g, out, h, h1, h2, h3 => by omega
  | f + 1, x, g, out, h, h1, h2, h3 => by
    obtain ⟨k1, k2⟩ := get_feeds hR hF h
    dsimp only
    unfold lineGo
    by_cases hlt : (out.length : Int) < limit
    · rw [if_pos hlt]
      cases hl : left M rest x g with
      | nil =>
        rw [hl] at k2
        obtain ⟨e1, e2, e3, e4⟩ := k2
        rw [show (x.Get M g).2.2.2 = 111 by rw [e1]]
        rw [if_pos (by simp)]
        refine ⟨k1, e4, ?_⟩
        by_cases ho : 0 < out.length
        · refine .inl ⟨by simp [ho], ⟨by simp [e2], h1, fun c hc => h3 c (List.dropLast_subset _ hc), .inr (.inr e2)⟩, .inl (List.length_pos_iff.1 ho)⟩
        · have : out = [] := by
            have : out.length = 0 := by omega
            simpa using this
          subst this
          exact .inr ⟨by simp, rfl, rfl, rfl, e2⟩
      | cons c l =>
        rw [hl] at k2
        obtain ⟨e1, e2, e3⟩ := k2
        rw [show (x.Get M g).2.2.2 = 0 by rw [e1], show (x.Get M g).2.2.1 = c by rw [e1]]
        rw [if_neg (by simp)]
        by_cases hc : c = d
        · subst hc
          rw [if_pos (by simp)]
          exact ⟨k1, e3, .inl ⟨rfl, ⟨by simp [e2], by simp; omega, fun c' hc' => h3 c' (by simpa using hc'), .inl (by simp)⟩, .inl (by simp)⟩⟩
        · rw [if_neg (by simpa using hc)]
          have ih := lineGo_feeds hR hF d limit f (x.Get M g).1 (x.Get M g).2.1 (out ++ [c]) k1 (by simp; omega) (by simp; omega) (fun c' hc' => by
            rcases List.mem_append.1 hc' with h | h
            · exact h3 c' h
            · rw [List.mem_singleton] at h; rw [h]; exact hc)
          dsimp only at ih
          obtain ⟨i1, i2, i3⟩ := ih
          refine ⟨i1, i2.trans e3, ?_⟩
          rcases i3 with ⟨j1, j2, j3⟩ | ⟨j1, j2, j3, _⟩
          · refine .inl ⟨j1, ?_, j3⟩
            rw [e2] at j2
            simpa using j2
          · simp at j3
    · rw [if_neg hlt]
      refine ⟨h, rfl, .inl ⟨rfl, ⟨rfl, h1, fun c hc => h3 c (List.dropLast_subset _ hc), .inr (.inl (by dsimp only; omega))⟩, ?_⟩⟩
      by_cases ho : out = []
      · right; subst ho; simp at h1 hlt; omega
      · exact .inl ho

/-- A line, or the end. -/
theorem until_feeds {M : RawM} (hR : M.Rd) {rest : M.σ → List Int} (hF : Feeds M rest) (d limit : Int) (hl1 : 1 ≤ limit) (hl2 : limit ≤ 65536) {x : St} {g : M.σ} (h : Reads M rest x g) :
    (let r := x.Until M g d limit
     Reads M rest r.1 r.2.1 ∧ r.1.bad = x.bad ∧
       ((r.2.2.2 = 0 ∧ Line d limit (left M rest x g) r.2.2.1 (left M rest r.1 r.2.1) ∧ r.2.2.1 ≠ []) ∨
        (r.2.2.2 = 111 ∧ r.2.2.1 = [] ∧ left M rest x g = [] ∧ left M rest r.1 r.2.1 = []))) := by
  have e : x.Until M g d limit = lineV M (fun c => c == d) limit x g := by
    unfold St.Until
    rw [if_neg]
    rw [if_neg (by omega)]
    unfold St.aErr
    rw [if_pos h.may, if_neg (by simp [h.cl])]
    simp
  have key := lineGo_feeds hR hF d limit (limit.toNat + 1) x g [] h (by simp; omega) (by simp; omega) (by simp)
  rw [e]
  unfold lineV
  dsimp only at key ⊢
  obtain ⟨k1, k2, k3⟩ := key
  refine ⟨k1, k2, ?_⟩
  rcases k3 with ⟨j1, j2, j3⟩ | ⟨j1, j2, _, j3, j4⟩
  · refine .inl ⟨j1, by simpa using j2, ?_⟩
    rcases j3 with h | h
    · exact h
    · omega
  · exact .inr ⟨j1, j2, j3, j4⟩
end Go.Proofs.Ytciokebdmnaobaa
/- Lines: the law's small functions. -/
namespace Go.Proofs.Ytciokebdmnaobaa
open Go Go.Eng
set_option maxHeartbeats 4000000
set_option linter.unusedSimpArgs false
set_option linter.unusedVariables false
set_option maxRecDepth 100000

theorem sameBytes_c (l m : List Int) : Contract Try.prog 22 nilSS [.ints .u8 .old l, .ints .u8 .old m] (fun sv post => sv = .b (l == m) ∧ post = nilSS) := by
  refine contract_len 0 rfl fun hlen => ?_
  refine contract_ev Γok Try.func22 rfl rfl [] ?_
  simp (maxSteps := 4000000) only [push_cast, Int.reduceEq, Int.reduceBNe, Int.reduceBEq, Int.reduceAdd, Int.reduceSub, Int.reduceMul, Int.reduceNeg, Int.reduceLT, Int.reduceLE, Int.reduceToNat, Nat.reduceLT, Nat.reduceAdd, Nat.reduceSub, Nat.reduceMul, Nat.reduceEqDiff, Nat.reduceLeDiff, Nat.reduceBEq, reduceIte, reduceCtorEq, Try.f22]
  have no : ∀ (S : SS), S.k = 0 → l ≠ m → Fin (fun sv post => sv = .b (l == m) ∧ post = nilSS) (.b false) S := fun S hS h => Fin.nil hS (psv := .b false) rfl ⟨by rw [beq_eq_false_iff_ne.2 h], rfl⟩
  refine ⟨fun h1 => no _ rfl (by rintro rfl; exact h1 rfl), fun h1 => ?_⟩
  have hl : l.length = m.length := by omega
  refine loop_ok (ι := {i : Nat // i ≤ l.length ∧ l.take i = m.take i}) (fun i => ⟨[.ints .u8 .old l, .ints .u8 .old m, .any, .any, .any, .i .i64 i.1] ++ List.replicate 20 .any, [], [], [], 0, 0, []⟩) (fun i => l.length - i.1) ⟨0, by simp, by simp⟩ ?_ ?_
  · refine Sub.w [] ?_
    simp (maxSteps := 4000000) only [push_cast, Int.reduceEq, Int.reduceBNe, Int.reduceBEq, Int.reduceAdd, Int.reduceSub, Int.reduceMul, Int.reduceNeg, Int.reduceLT, Int.reduceLE, Int.reduceToNat, Nat.reduceLT, Nat.reduceAdd, Nat.reduceSub, Nat.reduceMul, Nat.reduceEqDiff, Nat.reduceLeDiff, Nat.reduceBEq, reduceIte, reduceCtorEq]
  · rintro ⟨i, hi, hp⟩
    refine evCode_sound Γok _ _ _ ?_
    simp (maxSteps := 4000000) only [push_cast, Int.reduceEq, Int.reduceBNe, Int.reduceBEq, Int.reduceAdd, Int.reduceSub, Int.reduceMul, Int.reduceNeg, Int.reduceLT, Int.reduceLE, Int.reduceToNat, Nat.reduceLT, Nat.reduceAdd, Nat.reduceSub, Nat.reduceMul, Nat.reduceEqDiff, Nat.reduceLeDiff, Nat.reduceBEq, reduceIte, reduceCtorEq]
    refine ⟨fun h2 => ?_, fun h2 => ?_⟩
    · have hi2 : i < l.length := by omega
      refine (region_plan rfl Γok mixed (.pure 0 (.pure 1 (.pure 2 (.pure 3 (.pure 4 (.pure 5 (.pure 6 (.pure 7 (.pure 8 .done))))))))) 26 rfl (by kernel_rfl) ?_)
      simp (maxSteps := 4000000) only [push_cast, Int.reduceEq, Int.reduceBNe, Int.reduceBEq, Int.reduceAdd, Int.reduceSub, Int.reduceMul, Int.reduceNeg, Int.reduceLT, Int.reduceLE, Int.reduceToNat, Nat.reduceLT, Nat.reduceAdd, Nat.reduceSub, Nat.reduceMul, Nat.reduceEqDiff, Nat.reduceLeDiff, Nat.reduceBEq, reduceIte, reduceCtorEq]
      have e1 : l.getD (i : Int).toNat 0 = l[i] := by simp [List.getD, hi2]
      have e2 : m.getD (i : Int).toNat 0 = m[i] := by simp [List.getD, hl ▸ hi2]
      rw [e1, e2]
      refine ⟨by omega, by omega, fun h3 => no _ rfl (by rintro rfl; exact h3 rfl), fun h3 => ⟨⟨i + 1, hi2, ?_⟩, ?_, Sub.w [] ?_⟩⟩
      · rw [List.take_succ_eq_append_getElem hi2, List.take_succ_eq_append_getElem (hl ▸ hi2), hp, h3]
      · simp only; omega
      · simp (maxSteps := 4000000) only [push_cast, Int.reduceEq, Int.reduceBNe, Int.reduceBEq, Int.reduceAdd, Int.reduceSub, Int.reduceMul, Int.reduceNeg, Int.reduceLT, Int.reduceLE, Int.reduceToNat, Nat.reduceLT, Nat.reduceAdd, Nat.reduceSub, Nat.reduceMul, Nat.reduceEqDiff, Nat.reduceLeDiff, Nat.reduceBEq, reduceIte, reduceCtorEq]
        rw [wrap64 (by omega) (by omega)]
    · have hi2 : i = l.length := by omega
      refine Fin.nil rfl (psv := .b true) rfl ⟨?_, rfl⟩
      subst hi2
      rw [List.take_length, hl, List.take_length] at hp
      simp [hp]

theorem newSt_ok (r w : Bool) {m s : Int} (h : mayV m s = 0) : newSt r w m s = ⟨r, w, m, s, [], [], [], 0, false, false, false⟩ := if_pos h
theorem newSt_may (r w : Bool) {m s : Int} (h : mayV m s = 0) : (newSt r w m s).May := by
  obtain ⟨h1, h2, h3, h4⟩ := may_zero' h
  rw [newSt_ok r w h]
  exact ⟨h, by simp; omega, .inr rfl, by simp, by simp, .inl rfl, .inl ⟨rfl, rfl, rfl, rfl⟩⟩
theorem newSt_fits (r w : Bool) (m s : Int) : (newSt r w m s).fits := by
  unfold newSt
  split <;> exact ⟨by simp, by simp, by simp⟩

/-- A reader feeds a stream. -/
theorem reader_feeds (data : List Int) (b : Nat) : Feeds (readerM data b) (fun p => data.drop p.toNat) := by
  refine ⟨fun (p : Int) n ⟨h0, h0'⟩ h1 h2 => ?_⟩
  have hl := readV_len data p n h0 h0' (by omega)
  have e : someV (readerM data b) p n = (p + (readV data p n).length, readV data p n, 0) := by
    unfold someV
    refine (RawM.some.eq_2 (readerM data b) n p 8191).trans ?_
    rw [if_neg (by simp [readerM]), if_neg (by simp [readerM]), if_neg (by simp only [readerM]; omega)]
    rfl
  rw [e]
  refine ⟨rfl, ?_, fun h => ?_⟩
  · show readV data p n ++ data.drop (p + (readV data p n).length).toNat = data.drop p.toNat
    have : (p + (readV data p n).length).toNat = p.toNat + (readV data p n).length := by omega
    rw [this, ← List.drop_drop]
    unfold readV
    rw [List.length_take]
    by_cases hc : n.toNat ≤ (data.drop p.toNat).length
    · rw [Nat.min_eq_left hc]; exact List.take_append_drop _ _
    · rw [Nat.min_eq_right (by omega), List.take_of_length_le (by omega), List.drop_length, List.append_nil]
  · have h' : readV data p n = [] := h
    unfold readV at h'
    rw [List.take_eq_nil_iff] at h'
    rcases h' with h' | h'
    · omega
    · exact h'
theorem new_reads (data : List Int) (b : Nat) (w : Bool) {m s : Int} (h : mayV m s = 0) : Reads (readerM data b) (fun p => data.drop p.toNat) (newSt true w m s) (0 : Int) := by
  have e := newSt_ok true w h
  exact ⟨newSt_may true w h, by rw [e], by rw [e], by rw [e]; simp, by rw [e], by rw [e], by rw [e]; simp, ⟨by simp, by simp⟩⟩

/-- Where the examples lead. -/
def exSt (i : List Int) (en : Bool) : St := ⟨true, false, 3, 4, [], i, [], 1, en, false, false⟩
theorem ex1 (b : Nat) : (newSt true false 3 4).Until (readerM [97, 98, 10, 99, 100] b) (0 : Int) 10 9 = (exSt [99] false, (4 : Int), [97, 98, 10], 0) := by kernel_rfl
theorem ex2 (b : Nat) : (exSt [99] false).Until (readerM [97, 98, 10, 99, 100] b) (4 : Int) 10 1 = (exSt [] false, (4 : Int), [99], 0) := by kernel_rfl
theorem ex3 (b : Nat) : (exSt [] false).Until (readerM [97, 98, 10, 99, 100] b) (4 : Int) 10 9 = (exSt [] true, (5 : Int), [100], 0) := by kernel_rfl
theorem ex4 (b : Nat) : (exSt [] true).Until (readerM [97, 98, 10, 99, 100] b) (5 : Int) 10 9 = (exSt [] true, (5 : Int), [], 111) := by kernel_rfl
end Go.Proofs.Ytciokebdmnaobaa
/- A Counter as a Raw: one that is written, one that is read. -/
namespace Go.Proofs.Ytciokebdmnaobaa
open Go Go.Eng
set_option maxHeartbeats 4000000
set_option linter.unusedSimpArgs false
set_option linter.unusedVariables false
set_option maxRecDepth 100000

theorem nilOK_of {P : Program} {t : TypeId} {name : String} {f : FuncId} (h : methodB P t name f = true) (y : Value) : NilOK P name (.ifc t (.raw y)) := by
  intro E v hv
  simp only [Den] at hv
  obtain ⟨y', rfl, rfl⟩ := hv
  refine ⟨t, _, rfl, fun w => ?_⟩
  unfold methodB at h
  rw [Bool.and_eq_true] at h
  obtain ⟨h1, h2⟩ := h
  split at h1
  · rename_i i hi
    split at h1
    · rename_i m hm
      rw [Bool.and_eq_true] at h1
      obtain ⟨h3, h4⟩ := h1
      split at h4
      · rename_i g hg
        have hp : m.path.toList = [] := by simpa using h3
        rw [show P.types.size + Made.depth = (P.types.size + (Made.depth - 1)) + 1 by unfold Made.depth; omega]
        simp only [Go.nilAhead, Sem.run_bind]
        have h5 : (typeInfo t).run P w = .ok i w := by simp [typeInfo, hi]
        rw [h5]
        simp only [Result.andThen_ok, hm, Sem.run_bind, hp, Go.followBlind, Sem.run_pure, hg]
      · cases h4
    · cases h1
  · cases h1

/-- One that is written: what it has taken, in how many writes. -/
def counterS (B : List Int) (n : Int) : SS := ⟨[], [(0, 33, [.ints .u8 (.tok 1 false) B, .i .i64 0, .i .i64 0, .i .i64 n])], [1], [], 2, 1, []⟩

theorem counterWrite_c (B l : List Int) (n : Int) (h : B.length + l.length ≤ 140737488355328) : Contract Try.prog 149 (counterS B n) [.ptr 0 0, .ints .u8 .old l]
    (fun sv post => sv = .tup [.i .i64 l.length, .i .i64 0] ∧ post = counterS (B ++ l) (IntKind.i64.wrap (n + 1))) := by
  refine contract_ev Γok Try.func149 rfl rfl [] ?_
  simp (maxSteps := 4000000) only [push_cast, Int.reduceEq, Int.reduceBNe, Int.reduceBEq, Int.reduceAdd, Int.reduceSub, Int.reduceMul, Int.reduceNeg, Int.reduceLT, Int.reduceLE, Int.reduceToNat, Nat.reduceLT, Nat.reduceAdd, Nat.reduceSub, Nat.reduceMul, Nat.reduceEqDiff, Nat.reduceLeDiff, Nat.reduceBEq, reduceIte, reduceCtorEq, Try.f149, counterS]
  refine ⟨by omega, Fin.w [0, 2] (.tup [.i .i64 l.length, .i .i64 0]) _ (by simp (maxSteps := 4000000) only [push_cast, Int.reduceEq, Int.reduceBNe, Int.reduceBEq, Int.reduceAdd, Int.reduceSub, Int.reduceMul, Int.reduceNeg, Int.reduceLT, Int.reduceLE, Int.reduceToNat, Nat.reduceLT, Nat.reduceAdd, Nat.reduceSub, Nat.reduceMul, Nat.reduceEqDiff, Nat.reduceLeDiff, Nat.reduceBEq, reduceIte, reduceCtorEq, counterS]) ⟨rfl, rfl⟩⟩

theorem counterWriteM : MethodIs Try.prog 31 "Write" 149 := methodIs_of (by kernel_rfl)
def counterM (b : Nat) : RawM where
  σ := List Int × Int
  t := 31
  y := .pointer (some ⟨b, 0, none⟩)
  res s := (counterS s.1 s.2).res b
  ok _ := True
  rd s n := (s, [], 65)
  wr s l := ((s.1 ++ l, IntKind.i64.wrap (s.2 + 1)), l.length, 0)
  sk s o w := (s, 0, 66)
  rm s := 70368744177664 - s.1.length
theorem counterM_wr (b : Nat) : (counterM b).Wr := by
  refine ⟨?_, fun (s : List Int × Int) l _ h1 h2 h3 => ⟨trivial, ?_⟩, fun (s : List Int × Int) l _ h1 h2 h3 => ?_⟩
  · exact nilOK_of (f := 149) (by kernel_rfl) _
  · have e : ((counterM b).wr s l).2.2 = 0 ∧ ((counterM b).wr s l).2.1 ≤ l.length := ⟨rfl, Int.le_refl _⟩
    rw [if_pos e]
    simp only [counterM, List.length_append, Int.toNat_natCast]
    omega
  · have h1' := List.length_pos_iff.2 h1
    have h3' : l.length ≤ 70368744177664 - s.1.length := h3
    refine invC_of counterWriteM (contract_res b (by simp [counterS]) (by simp [counterS]) (counterWrite_c s.1 l s.2 (by omega)) (by simp [NNL, NN, NNT]) ?_)
    rintro sv post ⟨rfl, rfl⟩
    exact ⟨counterS (s.1 ++ l) (IntKind.i64.wrap (s.2 + 1)), [0, 1], _, by simp (maxSteps := 4000000) only [push_cast, Int.reduceEq, Int.reduceBNe, Int.reduceBEq, Int.reduceAdd, Int.reduceSub, Int.reduceMul, Int.reduceNeg, Int.reduceLT, Int.reduceLE, Int.reduceToNat, Nat.reduceLT, Nat.reduceAdd, Nat.reduceSub, Nat.reduceMul, Nat.reduceEqDiff, Nat.reduceLeDiff, Nat.reduceBEq, reduceIte, reduceCtorEq, counterS], rfl, (by simp (maxSteps := 4000000) only [push_cast, Int.reduceEq, Int.reduceBNe, Int.reduceBEq, Int.reduceAdd, Int.reduceSub, Int.reduceMul, Int.reduceNeg, Int.reduceLT, Int.reduceLE, Int.reduceToNat, Nat.reduceLT, Nat.reduceAdd, Nat.reduceSub, Nat.reduceMul, Nat.reduceEqDiff, Nat.reduceLeDiff, Nat.reduceBEq, reduceIte, reduceCtorEq] : W false (fun n => n) (.tup [.i .i64 l.length, .i .i64 0]) _), by simp [NN, NNL, NNT], rfl, rfl⟩

/-- One that is read: where it is, in how many reads. -/
def counterRS (data : List Int) (p n : Int) : SS := ⟨[], [(0, 33, [.ints .u8 .old data, .i .i64 p, .i .i64 n, .i .i64 0])], [], [], 1, 1, []⟩
theorem counterRead_c (data : List Int) (p n k : Int) (hp : 0 ≤ p) (hp2 : p ≤ data.length) (hd : data.length ≤ 140737488355328) (h1 : 0 ≤ n) (h2 : n ≤ 1048576) : Contract Try.prog 147 (counterRS data p k) [.ptr 0 0, .i .i64 n]
    (fun sv post => sv = .tup [.ints .u8 .old (readV data p n), .i .i64 0] ∧ post = counterRS data (p + (readV data p n).length) (IntKind.i64.wrap (k + 1))) := by
  refine contract_ev Γok Try.func147 rfl rfl [] ?_
  simp (maxSteps := 4000000) only [push_cast, Int.reduceEq, Int.reduceBNe, Int.reduceBEq, Int.reduceAdd, Int.reduceSub, Int.reduceMul, Int.reduceNeg, Int.reduceLT, Int.reduceLE, Int.reduceToNat, Nat.reduceLT, Nat.reduceAdd, Nat.reduceSub, Nat.reduceMul, Nat.reduceEqDiff, Nat.reduceLeDiff, Nat.reduceBEq, reduceIte, reduceCtorEq, Try.f147, counterRS]
  refine (region_plan rfl Γok mixed (.pure 0 (.pure 1 (.pure 2 (.pure 3 (.pure 4 (.pure 5 (.pure 6 (.pure 7 (.pure 8 (.pure 9 (.pure 10 (.pure 11 (.pure 12 .done))))))))))))) 50 rfl (by kernel_rfl) ?_)
  simp (maxSteps := 4000000) only [push_cast, Int.reduceEq, Int.reduceBNe, Int.reduceBEq, Int.reduceAdd, Int.reduceSub, Int.reduceMul, Int.reduceNeg, Int.reduceLT, Int.reduceLE, Int.reduceToNat, Nat.reduceLT, Nat.reduceAdd, Nat.reduceSub, Nat.reduceMul, Nat.reduceEqDiff, Nat.reduceLeDiff, Nat.reduceBEq, reduceIte, reduceCtorEq]
  refine (region_plan rfl Γok mixed (.pure 0 (.pure 1 (.pure 2 (.pure 3 (.pure 4 (.pure 5 (.pure 6 (.pure 7 (.pure 8 (.pure 9 (.pure 10 (.pure 11 (.pure 12 (.pure 13 (.pure 14 (.pure 15 (.pure 16 .done))))))))))))))))) 50 rfl (by kernel_rfl) ?_)
  simp (maxSteps := 4000000) only [push_cast, Int.reduceEq, Int.reduceBNe, Int.reduceBEq, Int.reduceAdd, Int.reduceSub, Int.reduceMul, Int.reduceNeg, Int.reduceLT, Int.reduceLE, Int.reduceToNat, Nat.reduceLT, Nat.reduceAdd, Nat.reduceSub, Nat.reduceMul, Nat.reduceEqDiff, Nat.reduceLeDiff, Nat.reduceBEq, reduceIte, reduceCtorEq]
  have e1 : IntKind.i64.wrap ((data.length : Int) - p) = data.length - p := wrap64 (by omega) (by omega)
  have e2 : minI n ((data.length : Int) - p) = ((readV data p n).length : Nat) := by
    unfold readV minI
    rw [List.length_take, List.length_drop]
    split <;> omega
  have e3 := readV_len data p n hp hp2 h1
  rw [e1, e2, wrap64 (n := p + _) (by omega) (by omega), wrap64 (n := p + _ - _) (by omega) (by omega), Int.add_sub_cancel]
  have e4 : (data.take (p + (readV data p n).length).toNat).drop p.toNat = readV data p n := by
    rw [List.drop_take, show (p + (readV data p n).length).toNat - p.toNat = (readV data p n).length by omega]
    unfold readV
    rw [List.length_take]
    by_cases hc : n.toNat ≤ (data.drop p.toNat).length
    · rw [Nat.min_eq_left hc]
    · rw [Nat.min_eq_right (by omega), List.take_length, List.take_of_length_le (by omega)]
  rw [e4]
  exact ⟨⟨by omega, by omega, by omega⟩, Fin.w [0] (.tup [.ints .u8 .old (readV data p n), .i .i64 0]) _ (by simp (maxSteps := 4000000) only [push_cast, Int.reduceEq, Int.reduceBNe, Int.reduceBEq, Int.reduceAdd, Int.reduceSub, Int.reduceMul, Int.reduceNeg, Int.reduceLT, Int.reduceLE, Int.reduceToNat, Nat.reduceLT, Nat.reduceAdd, Nat.reduceSub, Nat.reduceMul, Nat.reduceEqDiff, Nat.reduceLeDiff, Nat.reduceBEq, reduceIte, reduceCtorEq]) ⟨rfl, rfl⟩⟩

theorem counterReadM : MethodIs Try.prog 31 "Read" 147 := methodIs_of (by kernel_rfl)
def counterRM (data : List Int) (b : Nat) : RawM where
  σ := Int × Int
  t := 31
  y := .pointer (some ⟨b, 0, none⟩)
  res s := (counterRS data s.1 s.2).res b
  ok s := 0 ≤ s.1 ∧ s.1 ≤ data.length
  rd s n := ((s.1 + (readV data s.1 n).length, IntKind.i64.wrap (s.2 + 1)), readV data s.1 n, 0)
  wr s l := (s, 0, 65)
  sk s o w := (s, 0, 66)
theorem counterRM_rd (data : List Int) (b : Nat) (hd : data.length ≤ 140737488355328) : (counterRM data b).Rd := by
  refine ⟨fun (s : Int × Int) n ⟨h0, h0'⟩ h1 h2 => ?_, fun (s : Int × Int) n ⟨h0, h0'⟩ h1 h2 => ?_⟩
  · have := readV_len data s.1 n h0 h0' (by omega)
    simp only [counterRM]
    omega
  · refine invC_of counterReadM (contract_res b (by simp [counterRS]) (by simp [counterRS]) (counterRead_c data s.1 n s.2 h0 h0' hd (by omega) h2) (by simp [NNL, NN]) ?_)
    rintro sv post ⟨rfl, rfl⟩
    exact ⟨counterRS data (s.1 + (readV data s.1 n).length) (IntKind.i64.wrap (s.2 + 1)), [0], _, by simp (maxSteps := 4000000) only [push_cast, Int.reduceEq, Int.reduceBNe, Int.reduceBEq, Int.reduceAdd, Int.reduceSub, Int.reduceMul, Int.reduceNeg, Int.reduceLT, Int.reduceLE, Int.reduceToNat, Nat.reduceLT, Nat.reduceAdd, Nat.reduceSub, Nat.reduceMul, Nat.reduceEqDiff, Nat.reduceLeDiff, Nat.reduceBEq, reduceIte, reduceCtorEq, counterRS], rfl, (by simp (maxSteps := 4000000) only [push_cast, Int.reduceEq, Int.reduceBNe, Int.reduceBEq, Int.reduceAdd, Int.reduceSub, Int.reduceMul, Int.reduceNeg, Int.reduceLT, Int.reduceLE, Int.reduceToNat, Nat.reduceLT, Nat.reduceAdd, Nat.reduceSub, Nat.reduceMul, Nat.reduceEqDiff, Nat.reduceLeDiff, Nat.reduceBEq, reduceIte, reduceCtorEq] : W false (fun n => n) (.tup [.ints .u8 .old (readV data s.1 n), .i .i64 0]) _), by simp [NN, NNL, NNT], rfl, rfl⟩
end Go.Proofs.Ytciokebdmnaobaa
