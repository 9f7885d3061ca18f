/- Parts of proofs: lemmas, joined. -/
import Derived.Test.YtakmapoompffgaaGreatDoorP79cb4f85
import Derived.Shelf.Strings.BuilderF
import Derived.Test.YtakmapoompffgaaGreatDoorProg
import Derived.ProofKit
set_option linter.unusedVariables false
set_option linter.unusedSimpArgs false
set_option linter.unusedSectionVars false
namespace Go.Proofs.YtakmapoompffgaaGreatDoor.AM
open Go
inductive Nl:Prop
  | nl
structure Cj (a b:Prop):Prop where
  l:a
  r:b
inductive Tl:Prop→Prop
  | nl:Tl Nl
  | cj {a b:Prop}:Tl b→Tl (Cj a b)
structure Bx (a:Prop):Prop where
  o:a
theorem Aj {a b:Prop} (x:a) (y:b):a∧b:=⟨x,y⟩
theorem W_x {X G R:Prop} (hx:X) (h:R) (w:X→Bx R→G:=by
    intro h8 h9
    (repeat' first
    | (show WpE _ _ _ _ _ _
       first
       | refine we_and ?_
       | refine we_or ?_
       | refine we_op (o:=.e _) ?_
       | refine we_ef ?_
       | ((apply we_pure); focus ((try simp (disch:=first | omega | (simp only [AH.nn_push,AH.nn_set,AH.nn_kill]; omega) | (simp only [AH.nn_push,AH.nn_set,AH.nn_kill]; done) | fail) only [push_cast,Nat.reduceEqDiff, ↓reduceIte,reduceCtorEq,Nat.reduceAdd,Nat.reduceMul,Nat.reduceLeDiff,Int.reduceAdd,Int.reduceSub,Int.reduceMul,Int.reduceToNat,AH.get_push_eq,AH.get_push_ne,AH.get_set_eq,AH.get_set_ne,AH.push_n,AH.set_n,h8]); rfl))
       | refine we_op ?_
       | refine we_cons ?_
       | fail)
    | (show WpO _ _ _ _ _ _
       first
       | ((first | apply wo_p | apply wo_r | apply wo_callA | apply wo_callvA | apply wo_e); focus ((try simp (disch:=first | omega | (simp only [AH.nn_push,AH.nn_set,AH.nn_kill]; omega) | (simp only [AH.nn_push,AH.nn_set,AH.nn_kill]; done) | fail) only [push_cast,Nat.reduceEqDiff, ↓reduceIte,reduceCtorEq,Nat.reduceAdd,Nat.reduceMul,Nat.reduceLeDiff,Int.reduceAdd,Int.reduceSub,Int.reduceMul,Int.reduceToNat,AH.get_push_eq,AH.get_push_ne,AH.get_set_eq,AH.get_set_ne,AH.push_n,AH.set_n,h8]); rfl))
       | fail)
    | (show WpS _ _ _ _ _ _ _
       first
       | refine ws_set ?_
       | refine ws_tmp ?_
       | refine ws_run ?_
       | refine ws_at ?_
       | (apply ws_end; focus ((try simp (disch:=first | omega | (simp only [AH.nn_push,AH.nn_set,AH.nn_kill]; omega) | (simp only [AH.nn_push,AH.nn_set,AH.nn_kill]; done) | fail) only [push_cast,Nat.reduceEqDiff, ↓reduceIte,reduceCtorEq,Nat.reduceAdd,Nat.reduceMul,Nat.reduceLeDiff,Int.reduceAdd,Int.reduceSub,Int.reduceMul,Int.reduceToNat,AH.get_push_eq,AH.get_push_ne,AH.get_set_eq,AH.get_set_ne,AH.push_n,AH.set_n,h8]); rfl))
       | fail)
    | (show Wp _ _ _ _ _ _
       first
       | refine wp_seq ?_
       | refine wp_R rfl ?_
       | refine wp_cond_t rfl ?_
       | refine wp_cond_f rfl ?_
       | refine wp_ret ?_
       | refine wp_skip ?_
       | refine wp_exit ?_
       | refine wp_block ?_
       | fail)
    | refine thenQ_norm ?_
    | (refine setK_fork (fun q9=>?_) (fun q9=>?_) <;> try (exfalso; omega))
    | (refine setK_forkN (fun q9=>?_) (fun q9=>?_) <;> try (exfalso; omega))
    | refine setK_one ?_
    | refine opK_one ?_
    | refine efK_one ?_
    | refine consK_one ?_
    | refine andK_t ?_
    | refine andK_f ?_
    | refine orK_t ?_
    | refine orK_f ?_
    | (refine andK_fork (fun q9=>?_) (fun q9=>?_) <;> try (exfalso; omega))
    | (refine andK_forkN (fun q9=>?_) (fun q9=>?_) <;> try (exfalso; omega))
    | (refine orK_fork (fun q9=>?_) (fun q9=>?_) <;> try (exfalso; omega))
    | (refine orK_forkN (fun q9=>?_) (fun q9=>?_) <;> try (exfalso; omega))
    | (refine oneK_fork (fun q9=>?_) (fun q9=>?_) <;> try (exfalso; omega))
    | (refine oneK_forkN (fun q9=>?_) (fun q9=>?_) <;> try (exfalso; omega))
    | refine oneK_one ?_
    | refine thenQ_ret ?_
    | refine thenQ_exit ?_
    | refine blockQ_norm ?_
    | refine blockQ_ret ?_
    | refine blockQ_same ?_
    | refine blockQ_ne rfl ?_
    | refine loopQ_norm ?_
    | refine loopQ_ret ?_
    | refine loopQ_exit ?_
    | ((first | apply retQ_ret | apply retQ_norm | apply wpc_of); focus ((try simp (disch:=first | omega | (simp only [AH.nn_push,AH.nn_set,AH.nn_kill]; omega) | (simp only [AH.nn_push,AH.nn_set,AH.nn_kill]; done) | fail) only [push_cast,Nat.reduceEqDiff, ↓reduceIte,reduceCtorEq,Nat.reduceAdd,Nat.reduceMul,Nat.reduceLeDiff,Int.reduceAdd,Int.reduceSub,Int.reduceMul,Int.reduceToNat,AH.get_push_eq,AH.get_push_ne,AH.get_set_eq,AH.get_set_ne,AH.push_n,AH.set_n,h8]); rfl))
    | fail)
    all_goals (repeat revert q9)
    all_goals with_reducible first | apply Cj.l (Bx.o h9) | apply Cj.l (Cj.r (Bx.o h9)) | apply Cj.l (Cj.r (Cj.r (Bx.o h9))) | apply Cj.l (Cj.r (Cj.r (Cj.r (Bx.o h9)))) | apply Cj.l (Cj.r (Cj.r (Cj.r (Cj.r (Bx.o h9))))) | apply Cj.l (Cj.r (Cj.r (Cj.r (Cj.r (Cj.r (Bx.o h9)))))) | apply Cj.l (Cj.r (Cj.r (Cj.r (Cj.r (Cj.r (Cj.r (Bx.o h9))))))) | apply Cj.l (Cj.r (Cj.r (Cj.r (Cj.r (Cj.r (Cj.r (Cj.r (Bx.o h9)))))))) | apply Cj.l (Cj.r (Cj.r (Cj.r (Cj.r (Cj.r (Cj.r (Cj.r (Cj.r (Bx.o h9))))))))) | apply Cj.l (Cj.r (Cj.r (Cj.r (Cj.r (Cj.r (Cj.r (Cj.r (Cj.r (Cj.r (Bx.o h9)))))))))) | apply Cj.l (Cj.r (Cj.r (Cj.r (Cj.r (Cj.r (Cj.r (Cj.r (Cj.r (Cj.r (Cj.r (Bx.o h9))))))))))) | apply Cj.l (Cj.r (Cj.r (Cj.r (Cj.r (Cj.r (Cj.r (Cj.r (Cj.r (Cj.r (Cj.r (Cj.r (Bx.o h9)))))))))))) | apply Cj.l (Cj.r (Cj.r (Cj.r (Cj.r (Cj.r (Cj.r (Cj.r (Cj.r (Cj.r (Cj.r (Cj.r (Cj.r (Bx.o h9))))))))))))) | apply Cj.l (Cj.r (Cj.r (Cj.r (Cj.r (Cj.r (Cj.r (Cj.r (Cj.r (Cj.r (Cj.r (Cj.r (Cj.r (Cj.r (Bx.o h9)))))))))))))) | apply Cj.l (Cj.r (Cj.r (Cj.r (Cj.r (Cj.r (Cj.r (Cj.r (Cj.r (Cj.r (Cj.r (Cj.r (Cj.r (Cj.r (Cj.r (Bx.o h9))))))))))))))) | apply Cj.l (Cj.r (Cj.r (Cj.r (Cj.r (Cj.r (Cj.r (Cj.r (Cj.r (Cj.r (Cj.r (Cj.r (Cj.r (Cj.r (Cj.r (Cj.r (Bx.o h9)))))))))))))))) | apply Cj.l (Cj.r (Cj.r (Cj.r (Cj.r (Cj.r (Cj.r (Cj.r (Cj.r (Cj.r (Cj.r (Cj.r (Cj.r (Cj.r (Cj.r (Cj.r (Cj.r (Bx.o h9))))))))))))))))) | apply Cj.l (Cj.r (Cj.r (Cj.r (Cj.r (Cj.r (Cj.r (Cj.r (Cj.r (Cj.r (Cj.r (Cj.r (Cj.r (Cj.r (Cj.r (Cj.r (Cj.r (Cj.r (Bx.o h9)))))))))))))))))) | apply Cj.l (Cj.r (Cj.r (Cj.r (Cj.r (Cj.r (Cj.r (Cj.r (Cj.r (Cj.r (Cj.r (Cj.r (Cj.r (Cj.r (Cj.r (Cj.r (Cj.r (Cj.r (Cj.r (Bx.o h9))))))))))))))))))) | apply Cj.l (Cj.r (Cj.r (Cj.r (Cj.r (Cj.r (Cj.r (Cj.r (Cj.r (Cj.r (Cj.r (Cj.r (Cj.r (Cj.r (Cj.r (Cj.r (Cj.r (Cj.r (Cj.r (Cj.r (Bx.o h9)))))))))))))))))))) | apply Cj.l (Cj.r (Cj.r (Cj.r (Cj.r (Cj.r (Cj.r (Cj.r (Cj.r (Cj.r (Cj.r (Cj.r (Cj.r (Cj.r (Cj.r (Cj.r (Cj.r (Cj.r (Cj.r (Cj.r (Cj.r (Bx.o h9))))))))))))))))))))) | apply Cj.l (Cj.r (Cj.r (Cj.r (Cj.r (Cj.r (Cj.r (Cj.r (Cj.r (Cj.r (Cj.r (Cj.r (Cj.r (Cj.r (Cj.r (Cj.r (Cj.r (Cj.r (Cj.r (Cj.r (Cj.r (Cj.r (Bx.o h9)))))))))))))))))))))) | apply Cj.l (Cj.r (Cj.r (Cj.r (Cj.r (Cj.r (Cj.r (Cj.r (Cj.r (Cj.r (Cj.r (Cj.r (Cj.r (Cj.r (Cj.r (Cj.r (Cj.r (Cj.r (Cj.r (Cj.r (Cj.r (Cj.r (Cj.r (Bx.o h9))))))))))))))))))))))) | apply Cj.l (Cj.r (Cj.r (Cj.r (Cj.r (Cj.r (Cj.r (Cj.r (Cj.r (Cj.r (Cj.r (Cj.r (Cj.r (Cj.r (Cj.r (Cj.r (Cj.r (Cj.r (Cj.r (Cj.r (Cj.r (Cj.r (Cj.r (Cj.r (Bx.o h9))))))))))))))))))))))))
    all_goals exact Nl) (_e:Tl R:=by repeat' first | exact Tl.nl | apply Tl.cj):G:=w hx ⟨h⟩
theorem W_y {X G R:Prop} (hx:X) (h:R) (w:X→Bx R→G:=by
    intro h8 h9
    (repeat' first
    | (show WpE _ _ _ _ _ _
       first
       | refine we_and ?_
       | refine we_or ?_
       | refine we_op (o:=.e _) ?_
       | refine we_ef ?_
       | ((apply we_pure); focus ((try simp (disch:=first | omega | (simp only [AH.nn_push,AH.nn_set,AH.nn_kill]; omega) | (simp only [AH.nn_push,AH.nn_set,AH.nn_kill]; done) | fail) only [push_cast,Nat.reduceEqDiff, ↓reduceIte,reduceCtorEq,Nat.reduceAdd,Nat.reduceMul,Nat.reduceLeDiff,Int.reduceAdd,Int.reduceSub,Int.reduceMul,Int.reduceToNat,AH.get_push_eq,AH.get_push_ne,AH.get_set_eq,AH.get_set_ne,AH.push_n,AH.set_n,h8]); rfl))
       | refine we_op ?_
       | refine we_cons ?_
       | fail)
    | (show WpO _ _ _ _ _ _
       first
       | ((first | apply wo_p | apply wo_r | apply wo_callA | apply wo_callvA | apply wo_e); focus ((try simp (disch:=first | omega | (simp only [AH.nn_push,AH.nn_set,AH.nn_kill]; omega) | (simp only [AH.nn_push,AH.nn_set,AH.nn_kill]; done) | fail) only [push_cast,Nat.reduceEqDiff, ↓reduceIte,reduceCtorEq,Nat.reduceAdd,Nat.reduceMul,Nat.reduceLeDiff,Int.reduceAdd,Int.reduceSub,Int.reduceMul,Int.reduceToNat,AH.get_push_eq,AH.get_push_ne,AH.get_set_eq,AH.get_set_ne,AH.push_n,AH.set_n,h8]); rfl))
       | fail)
    | (show WpS _ _ _ _ _ _ _
       first
       | refine ws_set ?_
       | refine ws_tmp ?_
       | refine ws_run ?_
       | refine ws_at ?_
       | (apply ws_end; focus ((try simp (disch:=first | omega | (simp only [AH.nn_push,AH.nn_set,AH.nn_kill]; omega) | (simp only [AH.nn_push,AH.nn_set,AH.nn_kill]; done) | fail) only [push_cast,Nat.reduceEqDiff, ↓reduceIte,reduceCtorEq,Nat.reduceAdd,Nat.reduceMul,Nat.reduceLeDiff,Int.reduceAdd,Int.reduceSub,Int.reduceMul,Int.reduceToNat,AH.get_push_eq,AH.get_push_ne,AH.get_set_eq,AH.get_set_ne,AH.push_n,AH.set_n,h8]); rfl))
       | fail)
    | (show Wp _ _ _ _ _ _
       first
       | refine wp_seq ?_
       | refine wp_R rfl ?_
       | refine wp_cond_t rfl ?_
       | refine wp_cond_f rfl ?_
       | refine wp_ret ?_
       | refine wp_skip ?_
       | refine wp_exit ?_
       | refine wp_block ?_
       | fail)
    | (show WpR _ _ _ _ _ _ _ _ _
       first
       | refine wpr_drop ?_
       | refine wpr_p (o:=.mv _) (by simp only [ev_mv,opd_s,opd_c,fget,Nat.reduceEqDiff,Nat.one_ne_zero,Nat.zero_ne_one,reduceCtorEq, ↓reduceIte]; rfl) ?_
       | (refine wpr_fork (fun q9=>?_) (fun q9=>?_) <;> try (exfalso; omega))
       | (refine wpr_forkN (fun q9=>?_) (fun q9=>?_) <;> try (exfalso; omega))
       | refine wpr_run rfl ?_
       | refine wpr_pass rfl rfl ?_
       | refine wpr_passS rfl ?_
       | ((first | apply wpr_p | apply wpr_r | apply wpr_callA | apply wpr_callA0 | apply wpr_callvA | apply wpr_e0 | apply wpr_e | apply wpr_end0); focus ((try simp (disch:=first | omega | (simp only [AH.nn_push,AH.nn_set,AH.nn_kill]; omega) | (simp only [AH.nn_push,AH.nn_set,AH.nn_kill]; done) | fail) only [push_cast,Nat.reduceEqDiff, ↓reduceIte,reduceCtorEq,Nat.reduceAdd,Nat.reduceMul,Nat.reduceLeDiff,Int.reduceAdd,Int.reduceSub,Int.reduceMul,Int.reduceToNat,AH.get_push_eq,AH.get_push_ne,AH.get_set_eq,AH.get_set_ne,AH.push_n,AH.set_n,h8]); rfl))
       | refine wpr_pass0 rfl rfl ?_
       | refine wpr_pass0S rfl ?_
       | (apply wpr_end; (focus ((try simp (disch:=first | omega | (simp only [AH.nn_push,AH.nn_set,AH.nn_kill]; omega) | (simp only [AH.nn_push,AH.nn_set,AH.nn_kill]; done) | fail) only [push_cast,Nat.reduceEqDiff, ↓reduceIte,reduceCtorEq,Nat.reduceAdd,Nat.reduceMul,Nat.reduceLeDiff,Int.reduceAdd,Int.reduceSub,Int.reduceMul,Int.reduceToNat,AH.get_push_eq,AH.get_push_ne,AH.get_set_eq,AH.get_set_ne,AH.push_n,AH.set_n,h8]); rfl)); (focus ((repeat' (first | exact chkT_nil | (refine chkT_cons ?_ ?_; focus (apply chk1_of rfl rfl rfl; focus ((try simp (disch:=first | omega | (simp only [AH.nn_push,AH.nn_set,AH.nn_kill]; omega) | (simp only [AH.nn_push,AH.nn_set,AH.nn_kill]; done) | fail) only [push_cast,Nat.reduceEqDiff, ↓reduceIte,reduceCtorEq,Nat.reduceAdd,Nat.reduceMul,Nat.reduceLeDiff,Int.reduceAdd,Int.reduceSub,Int.reduceMul,Int.reduceToNat,AH.get_push_eq,AH.get_push_ne,AH.get_set_eq,AH.get_set_ne,AH.push_n,AH.set_n,h8]); rfl); focus ((try simp (disch:=first | omega | (simp only [AH.nn_push,AH.nn_set,AH.nn_kill]; omega) | (simp only [AH.nn_push,AH.nn_set,AH.nn_kill]; done) | fail) only [push_cast,Nat.reduceEqDiff, ↓reduceIte,reduceCtorEq,Nat.reduceAdd,Nat.reduceMul,Nat.reduceLeDiff,Int.reduceAdd,Int.reduceSub,Int.reduceMul,Int.reduceToNat,AH.get_push_eq,AH.get_push_ne,AH.get_set_eq,AH.get_set_ne,AH.push_n,AH.set_n,h8]); rfl); focus (simp (disch:=first | omega | (simp only [AH.nn_push,AH.nn_set,AH.nn_kill]; omega) | (simp only [AH.nn_push,AH.nn_set,AH.nn_kill]; done) | fail) only [push_cast,Nat.reduceEqDiff, ↓reduceIte,reduceCtorEq,Nat.reduceAdd,Nat.reduceMul,Nat.reduceLeDiff,Int.reduceAdd,Int.reduceSub,Int.reduceMul,Int.reduceToNat,AH.get_push_eq,AH.get_push_ne,AH.get_set_eq,AH.get_set_ne,AH.push_n,AH.set_n,h8]; done))) | fail)); done)))
       | (apply wpr_end; (focus ((try simp (disch:=first | omega | (simp only [AH.nn_push,AH.nn_set,AH.nn_kill]; omega) | (simp only [AH.nn_push,AH.nn_set,AH.nn_kill]; done) | fail) only [push_cast,Nat.reduceEqDiff, ↓reduceIte,reduceCtorEq,Nat.reduceAdd,Nat.reduceMul,Nat.reduceLeDiff,Int.reduceAdd,Int.reduceSub,Int.reduceMul,Int.reduceToNat,AH.get_push_eq,AH.get_push_ne,AH.get_set_eq,AH.get_set_ne,AH.push_n,AH.set_n,h8]); rfl)); (focus (simp (disch:=first | omega | (simp only [AH.nn_push,AH.nn_set,AH.nn_kill]; omega) | (simp only [AH.nn_push,AH.nn_set,AH.nn_kill]; done) | fail) only [push_cast,Nat.reduceEqDiff, ↓reduceIte,reduceCtorEq,Nat.reduceAdd,Nat.reduceMul,Nat.reduceLeDiff,Int.reduceAdd,Int.reduceSub,Int.reduceMul,Int.reduceToNat,AH.get_push_eq,AH.get_push_ne,AH.get_set_eq,AH.get_set_ne,AH.push_n,AH.set_n,h8]; done)))
       | fail)
    | (show Wp _ _ _ _ _ _
       first
       | refine wp_region0 ?_
       | refine wp_region ?_
       | fail)
    | refine thenQ_norm ?_
    | (refine setK_fork (fun q9=>?_) (fun q9=>?_) <;> try (exfalso; omega))
    | (refine setK_forkN (fun q9=>?_) (fun q9=>?_) <;> try (exfalso; omega))
    | refine setK_one ?_
    | refine opK_one ?_
    | refine efK_one ?_
    | refine consK_one ?_
    | refine andK_t ?_
    | refine andK_f ?_
    | refine orK_t ?_
    | refine orK_f ?_
    | (refine andK_fork (fun q9=>?_) (fun q9=>?_) <;> try (exfalso; omega))
    | (refine andK_forkN (fun q9=>?_) (fun q9=>?_) <;> try (exfalso; omega))
    | (refine orK_fork (fun q9=>?_) (fun q9=>?_) <;> try (exfalso; omega))
    | (refine orK_forkN (fun q9=>?_) (fun q9=>?_) <;> try (exfalso; omega))
    | (refine oneK_fork (fun q9=>?_) (fun q9=>?_) <;> try (exfalso; omega))
    | (refine oneK_forkN (fun q9=>?_) (fun q9=>?_) <;> try (exfalso; omega))
    | refine oneK_one ?_
    | refine thenQ_ret ?_
    | refine thenQ_exit ?_
    | refine blockQ_norm ?_
    | refine blockQ_ret ?_
    | refine blockQ_same ?_
    | refine blockQ_ne rfl ?_
    | refine loopQ_norm ?_
    | refine loopQ_ret ?_
    | refine loopQ_exit ?_
    | ((first | apply retQ_ret | apply retQ_norm | apply wpc_of); focus ((try simp (disch:=first | omega | (simp only [AH.nn_push,AH.nn_set,AH.nn_kill]; omega) | (simp only [AH.nn_push,AH.nn_set,AH.nn_kill]; done) | fail) only [push_cast,Nat.reduceEqDiff, ↓reduceIte,reduceCtorEq,Nat.reduceAdd,Nat.reduceMul,Nat.reduceLeDiff,Int.reduceAdd,Int.reduceSub,Int.reduceMul,Int.reduceToNat,AH.get_push_eq,AH.get_push_ne,AH.get_set_eq,AH.get_set_ne,AH.push_n,AH.set_n,h8]); rfl))
    | fail)
    all_goals (repeat revert q9)
    all_goals with_reducible first | apply Cj.l (Bx.o h9) | apply Cj.l (Cj.r (Bx.o h9)) | apply Cj.l (Cj.r (Cj.r (Bx.o h9))) | apply Cj.l (Cj.r (Cj.r (Cj.r (Bx.o h9)))) | apply Cj.l (Cj.r (Cj.r (Cj.r (Cj.r (Bx.o h9))))) | apply Cj.l (Cj.r (Cj.r (Cj.r (Cj.r (Cj.r (Bx.o h9)))))) | apply Cj.l (Cj.r (Cj.r (Cj.r (Cj.r (Cj.r (Cj.r (Bx.o h9))))))) | apply Cj.l (Cj.r (Cj.r (Cj.r (Cj.r (Cj.r (Cj.r (Cj.r (Bx.o h9)))))))) | apply Cj.l (Cj.r (Cj.r (Cj.r (Cj.r (Cj.r (Cj.r (Cj.r (Cj.r (Bx.o h9))))))))) | apply Cj.l (Cj.r (Cj.r (Cj.r (Cj.r (Cj.r (Cj.r (Cj.r (Cj.r (Cj.r (Bx.o h9)))))))))) | apply Cj.l (Cj.r (Cj.r (Cj.r (Cj.r (Cj.r (Cj.r (Cj.r (Cj.r (Cj.r (Cj.r (Bx.o h9))))))))))) | apply Cj.l (Cj.r (Cj.r (Cj.r (Cj.r (Cj.r (Cj.r (Cj.r (Cj.r (Cj.r (Cj.r (Cj.r (Bx.o h9)))))))))))) | apply Cj.l (Cj.r (Cj.r (Cj.r (Cj.r (Cj.r (Cj.r (Cj.r (Cj.r (Cj.r (Cj.r (Cj.r (Cj.r (Bx.o h9))))))))))))) | apply Cj.l (Cj.r (Cj.r (Cj.r (Cj.r (Cj.r (Cj.r (Cj.r (Cj.r (Cj.r (Cj.r (Cj.r (Cj.r (Cj.r (Bx.o h9)))))))))))))) | apply Cj.l (Cj.r (Cj.r (Cj.r (Cj.r (Cj.r (Cj.r (Cj.r (Cj.r (Cj.r (Cj.r (Cj.r (Cj.r (Cj.r (Cj.r (Bx.o h9))))))))))))))) | apply Cj.l (Cj.r (Cj.r (Cj.r (Cj.r (Cj.r (Cj.r (Cj.r (Cj.r (Cj.r (Cj.r (Cj.r (Cj.r (Cj.r (Cj.r (Cj.r (Bx.o h9)))))))))))))))) | apply Cj.l (Cj.r (Cj.r (Cj.r (Cj.r (Cj.r (Cj.r (Cj.r (Cj.r (Cj.r (Cj.r (Cj.r (Cj.r (Cj.r (Cj.r (Cj.r (Cj.r (Bx.o h9))))))))))))))))) | apply Cj.l (Cj.r (Cj.r (Cj.r (Cj.r (Cj.r (Cj.r (Cj.r (Cj.r (Cj.r (Cj.r (Cj.r (Cj.r (Cj.r (Cj.r (Cj.r (Cj.r (Cj.r (Bx.o h9)))))))))))))))))) | apply Cj.l (Cj.r (Cj.r (Cj.r (Cj.r (Cj.r (Cj.r (Cj.r (Cj.r (Cj.r (Cj.r (Cj.r (Cj.r (Cj.r (Cj.r (Cj.r (Cj.r (Cj.r (Cj.r (Bx.o h9))))))))))))))))))) | apply Cj.l (Cj.r (Cj.r (Cj.r (Cj.r (Cj.r (Cj.r (Cj.r (Cj.r (Cj.r (Cj.r (Cj.r (Cj.r (Cj.r (Cj.r (Cj.r (Cj.r (Cj.r (Cj.r (Cj.r (Bx.o h9)))))))))))))))))))) | apply Cj.l (Cj.r (Cj.r (Cj.r (Cj.r (Cj.r (Cj.r (Cj.r (Cj.r (Cj.r (Cj.r (Cj.r (Cj.r (Cj.r (Cj.r (Cj.r (Cj.r (Cj.r (Cj.r (Cj.r (Cj.r (Bx.o h9))))))))))))))))))))) | apply Cj.l (Cj.r (Cj.r (Cj.r (Cj.r (Cj.r (Cj.r (Cj.r (Cj.r (Cj.r (Cj.r (Cj.r (Cj.r (Cj.r (Cj.r (Cj.r (Cj.r (Cj.r (Cj.r (Cj.r (Cj.r (Cj.r (Bx.o h9)))))))))))))))))))))) | apply Cj.l (Cj.r (Cj.r (Cj.r (Cj.r (Cj.r (Cj.r (Cj.r (Cj.r (Cj.r (Cj.r (Cj.r (Cj.r (Cj.r (Cj.r (Cj.r (Cj.r (Cj.r (Cj.r (Cj.r (Cj.r (Cj.r (Cj.r (Bx.o h9))))))))))))))))))))))) | apply Cj.l (Cj.r (Cj.r (Cj.r (Cj.r (Cj.r (Cj.r (Cj.r (Cj.r (Cj.r (Cj.r (Cj.r (Cj.r (Cj.r (Cj.r (Cj.r (Cj.r (Cj.r (Cj.r (Cj.r (Cj.r (Cj.r (Cj.r (Cj.r (Bx.o h9))))))))))))))))))))))))
    all_goals exact Nl) (_e:Tl R:=by repeat' first | exact Tl.nl | apply Tl.cj):G:=w hx ⟨h⟩
theorem W_g {X G R:Prop} (hx:X) (h:R) (w:X→Bx R→G:=by
    intro h8 h9
    (repeat' first
    | (show WpR _ _ _ _ _ _ _ _ _
       first
       | refine wpr_drop ?_
       | refine wpr_p (o:=.mv _) (by simp only [ev_mv,opd_s,opd_c,fget,Nat.reduceEqDiff,Nat.one_ne_zero,Nat.zero_ne_one,reduceCtorEq, ↓reduceIte]; rfl) ?_
       | (refine wpr_fork (fun q9=>?_) (fun q9=>?_) <;> try (exfalso; omega))
       | (refine wpr_forkN (fun q9=>?_) (fun q9=>?_) <;> try (exfalso; omega))
       | refine wpr_run rfl ?_
       | refine wpr_pass rfl rfl ?_
       | refine wpr_passS rfl ?_
       | ((first | apply wpr_p | apply wpr_r | apply wpr_callA | apply wpr_callA0 | apply wpr_e0 | apply wpr_e | apply wpr_end0); focus ((try simp (disch:=omega) only [push_cast,Nat.reduceEqDiff, ↓reduceIte,reduceCtorEq,Nat.reduceAdd,Nat.reduceMul,Nat.reduceLeDiff,h8]); rfl))
       | refine wpr_pass0 rfl rfl ?_
       | refine wpr_pass0S rfl ?_
       | (apply wpr_end; (focus ((try simp (disch:=omega) only [push_cast,Nat.reduceEqDiff, ↓reduceIte,reduceCtorEq,Nat.reduceAdd,Nat.reduceMul,Nat.reduceLeDiff,h8]); rfl)); (focus (simp (disch:=omega) only [push_cast,Nat.reduceEqDiff, ↓reduceIte,reduceCtorEq,Nat.reduceAdd,Nat.reduceMul,Nat.reduceLeDiff,h8]; done)))
       | fail)
    | (show Wp _ _ _ _ _ _
       first
       | refine wp_seq ?_
       | refine wp_region0 ?_
       | refine wp_region ?_
       | refine wp_cond_t rfl ?_
       | refine wp_cond_f rfl ?_
       | refine wp_ret ?_
       | refine wp_skip ?_
       | refine wp_exit ?_
       | refine wp_block ?_
       | fail)
    | refine thenQ_norm ?_
    | refine thenQ_ret ?_
    | refine thenQ_exit ?_
    | refine blockQ_norm ?_
    | refine blockQ_ret ?_
    | refine blockQ_same ?_
    | refine blockQ_ne rfl ?_
    | refine loopQ_norm ?_
    | refine loopQ_ret ?_
    | refine loopQ_exit ?_
    | ((first | apply retQ_ret | apply retQ_norm | apply wpc_of); focus ((try simp (disch:=omega) only [push_cast,Nat.reduceEqDiff, ↓reduceIte,reduceCtorEq,Nat.reduceAdd,Nat.reduceMul,Nat.reduceLeDiff,h8]); rfl))
    | fail)
    all_goals (repeat revert q9)
    all_goals with_reducible first | apply Cj.l (Bx.o h9) | apply Cj.l (Cj.r (Bx.o h9)) | apply Cj.l (Cj.r (Cj.r (Bx.o h9))) | apply Cj.l (Cj.r (Cj.r (Cj.r (Bx.o h9)))) | apply Cj.l (Cj.r (Cj.r (Cj.r (Cj.r (Bx.o h9))))) | apply Cj.l (Cj.r (Cj.r (Cj.r (Cj.r (Cj.r (Bx.o h9)))))) | apply Cj.l (Cj.r (Cj.r (Cj.r (Cj.r (Cj.r (Cj.r (Bx.o h9))))))) | apply Cj.l (Cj.r (Cj.r (Cj.r (Cj.r (Cj.r (Cj.r (Cj.r (Bx.o h9)))))))) | apply Cj.l (Cj.r (Cj.r (Cj.r (Cj.r (Cj.r (Cj.r (Cj.r (Cj.r (Bx.o h9))))))))) | apply Cj.l (Cj.r (Cj.r (Cj.r (Cj.r (Cj.r (Cj.r (Cj.r (Cj.r (Cj.r (Bx.o h9)))))))))) | apply Cj.l (Cj.r (Cj.r (Cj.r (Cj.r (Cj.r (Cj.r (Cj.r (Cj.r (Cj.r (Cj.r (Bx.o h9))))))))))) | apply Cj.l (Cj.r (Cj.r (Cj.r (Cj.r (Cj.r (Cj.r (Cj.r (Cj.r (Cj.r (Cj.r (Cj.r (Bx.o h9)))))))))))) | apply Cj.l (Cj.r (Cj.r (Cj.r (Cj.r (Cj.r (Cj.r (Cj.r (Cj.r (Cj.r (Cj.r (Cj.r (Cj.r (Bx.o h9))))))))))))) | apply Cj.l (Cj.r (Cj.r (Cj.r (Cj.r (Cj.r (Cj.r (Cj.r (Cj.r (Cj.r (Cj.r (Cj.r (Cj.r (Cj.r (Bx.o h9)))))))))))))) | apply Cj.l (Cj.r (Cj.r (Cj.r (Cj.r (Cj.r (Cj.r (Cj.r (Cj.r (Cj.r (Cj.r (Cj.r (Cj.r (Cj.r (Cj.r (Bx.o h9))))))))))))))) | apply Cj.l (Cj.r (Cj.r (Cj.r (Cj.r (Cj.r (Cj.r (Cj.r (Cj.r (Cj.r (Cj.r (Cj.r (Cj.r (Cj.r (Cj.r (Cj.r (Bx.o h9)))))))))))))))) | apply Cj.l (Cj.r (Cj.r (Cj.r (Cj.r (Cj.r (Cj.r (Cj.r (Cj.r (Cj.r (Cj.r (Cj.r (Cj.r (Cj.r (Cj.r (Cj.r (Cj.r (Bx.o h9))))))))))))))))) | apply Cj.l (Cj.r (Cj.r (Cj.r (Cj.r (Cj.r (Cj.r (Cj.r (Cj.r (Cj.r (Cj.r (Cj.r (Cj.r (Cj.r (Cj.r (Cj.r (Cj.r (Cj.r (Bx.o h9)))))))))))))))))) | apply Cj.l (Cj.r (Cj.r (Cj.r (Cj.r (Cj.r (Cj.r (Cj.r (Cj.r (Cj.r (Cj.r (Cj.r (Cj.r (Cj.r (Cj.r (Cj.r (Cj.r (Cj.r (Cj.r (Bx.o h9))))))))))))))))))) | apply Cj.l (Cj.r (Cj.r (Cj.r (Cj.r (Cj.r (Cj.r (Cj.r (Cj.r (Cj.r (Cj.r (Cj.r (Cj.r (Cj.r (Cj.r (Cj.r (Cj.r (Cj.r (Cj.r (Cj.r (Bx.o h9)))))))))))))))))))) | apply Cj.l (Cj.r (Cj.r (Cj.r (Cj.r (Cj.r (Cj.r (Cj.r (Cj.r (Cj.r (Cj.r (Cj.r (Cj.r (Cj.r (Cj.r (Cj.r (Cj.r (Cj.r (Cj.r (Cj.r (Cj.r (Bx.o h9))))))))))))))))))))) | apply Cj.l (Cj.r (Cj.r (Cj.r (Cj.r (Cj.r (Cj.r (Cj.r (Cj.r (Cj.r (Cj.r (Cj.r (Cj.r (Cj.r (Cj.r (Cj.r (Cj.r (Cj.r (Cj.r (Cj.r (Cj.r (Cj.r (Bx.o h9)))))))))))))))))))))) | apply Cj.l (Cj.r (Cj.r (Cj.r (Cj.r (Cj.r (Cj.r (Cj.r (Cj.r (Cj.r (Cj.r (Cj.r (Cj.r (Cj.r (Cj.r (Cj.r (Cj.r (Cj.r (Cj.r (Cj.r (Cj.r (Cj.r (Cj.r (Bx.o h9))))))))))))))))))))))) | apply Cj.l (Cj.r (Cj.r (Cj.r (Cj.r (Cj.r (Cj.r (Cj.r (Cj.r (Cj.r (Cj.r (Cj.r (Cj.r (Cj.r (Cj.r (Cj.r (Cj.r (Cj.r (Cj.r (Cj.r (Cj.r (Cj.r (Cj.r (Cj.r (Bx.o h9))))))))))))))))))))))))
    all_goals exact Nl) (_e:Tl R:=by repeat' first | exact Tl.nl | apply Tl.cj):G:=w hx ⟨h⟩
end Go.Proofs.YtakmapoompffgaaGreatDoor.AM
namespace Go.Proofs.YtakmapoompffgaaGreatDoor.AM
open Go
variable {p:Prg} {fr:Fr} {lc:Lc} {h:AH} {Q:Post}
def SeqP {α:Type} (p:Prg) (fv:Value) (xs:List α) (enc:α→List Value) (D:AH→Prop):Prop :=
  ∀ (yv:Value) (I:Nat→AH→Prop) (E:AH→Prop) (h:AH),IsF yv→vsame yv yv = true →
    (∀ (i:Nat) (hi:i < xs.length) h,I i h→WpV p yv (enc xs[i]) h fun v h'=>(v = .bool true∧I (i + 1) h')∨(v = .bool false∧E h')) →
    (∀ i h,I i h→D h)→I 0 h→WpV p fv [yv] h fun _ h'=>I xs.length h'∨E h'
structure Same (l:Nat) (h h':AH):Prop where
  n:h'.n = h.n
  get:∀ b,b≠l→h'.get b = h.get b
theorem Same.set (l:Nat) (h:AH) (o:AObj):Same l h (h.set l o):=⟨rfl,fun b hb=>AH.get_set_ne _ hb⟩
theorem Same.kill (l:Nat) (h:AH):Same l h (h.kill l):=⟨rfl,fun b hb=>AH.get_kill_ne hb⟩
theorem Same.reads {l:Nat} {h h':AH} (k:Same l h h') {e:Nat} {s:Sl} {xss:List (List Value)} (r:Reads h e s xss) (hb:s.blk≠some l):Reads h' e s xss:=by
  refine ⟨r.1,r.2.1, ?_⟩
  have:=r.2.2
  cases s with
  | nil=>trivial
  | «at» b o n=>exact this.imp id fun ⟨ro,pre,post,h1,h2⟩=>⟨ro,pre,post,by rw [k.get b (fun e=>hb (by rw [e]; rfl))]; exact h1,h2⟩
theorem Same.own {l:Nat} {h h':AH} (k:Same l h h') {e:Nat} {s:Sl} {xss:List (List Value)} (r:Own h e s xss) (hb:s.blk≠some l):Own h' e s xss:=by
  refine ⟨r.1,r.2.1, ?_⟩
  have:=r.2.2
  cases s with
  | nil=>trivial
  | «at» b o n=>obtain ⟨pre,h1,h2⟩:=this; exact ⟨pre,by rw [k.get b (fun e=>hb (by rw [e]; rfl))]; exact h1,h2⟩
theorem Own.keep {h h':AH} {e:Nat} {s:Sl} {xss:List (List Value)} (r:Own h e s xss) (hk:∀ b,s.blk = some b→h'.get b = h.get b):Own h' e s xss:=by
  refine ⟨r.1,r.2.1, ?_⟩
  have:=r.2.2
  cases s with
  | nil=>trivial
  | «at» b o n=>obtain ⟨pre,h1,h2⟩:=this; exact ⟨pre,by rw [hk b rfl]; exact h1,h2⟩
theorem Reads.keep {h h':AH} {e:Nat} {s:Sl} {xss:List (List Value)} (r:Reads h e s xss) (hk:∀ b,s.blk = some b→h'.get b = h.get b):Reads h' e s xss:=by
  refine ⟨r.1,r.2.1, ?_⟩
  have:=r.2.2
  cases s with
  | nil=>trivial
  | «at» b o n=>exact this.imp id fun ⟨ro,pre,post,h1,h2⟩=>⟨ro,pre,post,by rw [hk b rfl]; exact h1,h2⟩
theorem Own.lt {h:AH} {e:Nat} {s:Sl} {xss:List (List Value)} (r:Own h e s xss) {b:Nat} (hb:s.blk = some b):b < h.n:=by
  cases s with
  | nil=>cases hb
  | «at» c o n=>injection hb with hb; subst hb; obtain ⟨pre,h1,_⟩:=r.2.2; exact AH.get_lt h1
theorem wp_rangeP {α:Type} {xs:List α} {enc:α→List Value} {D:AH→Prop} {fo:Opd} {params:List Nat} {assign body:LCode} {g:FuncId} {ca cb:Array Value} (hf:opd fr fo = .func (.func g) ca cb)
    (hs:SeqP p (.func (.func g) ca cb) xs enc D) (hn:∀ x,(enc x).length = params.length)
    (F:Nat→AH→Prop) (G:Ex→AH→Prop) (A:α→Fr) (L:α→Lc)
    (stF:∀ i h1 h2,F i h1→Same h.n h1 h2→F i h2) (stG:∀ ex h1 h2,G ex h1→Same h.n h1 h2→G ex h2)
    (hD:∀ i h1,F i h1→D h1)
    (asg:∀ x h1,Wp p assign ((params.zip (enc x)).reverse ++ okFr fr) [] h1 fun ex fr1 lc1 h2=>ex = .norm∧h2 = h1∧fr1 = A x∧lc1 = L x)
    (init:∀ o,F 0 (h.push o))
    (step:∀ (i:Nat) (hi:i < xs.length) h1 o,F i h1→h1.get h.n = some o →
      Wp p body (A xs[i]) (L xs[i]) h1 fun ex _ _ h3=>h3.get h.n = some o∧match ex with
        | .norm=>F (i + 1) h3
        | ex=>G ex h3)
    (fin:∀ h1,F xs.length h1→Q .norm fr lc h1)
    (early:∀ ex h1,ex ≠ .norm→G ex h1→Q ex fr lc h1):Wp p (.rangeF fo params assign body) fr lc h Q:=by
  obtain ⟨R,hR⟩:∃ R:LRec,R = { state:=.ready,pend:=none,fr:=okFr fr,params,assign,body }:=⟨_,rfl⟩
  have hc:=hs (.func (.yield h.n) #[] #[])
    (fun i h1=>F i h1∧h1.get h.n = some (.loop R))
    (fun h1 => ∃ ex,ex ≠ .norm∧G ex h1∧h1.get h.n = some (.loop (endRec R ex).2))
    (h.push (.loop R)) ⟨_,_,_,rfl⟩ (by simp [vsame,vsame1,vsameL]) ?_ (fun i h1 hi=>hD i h1 hi.1) ⟨init _,AH.get_push_same _ _⟩
  · obtain ⟨v,h',e1,hor⟩:=hc
    have ht:execO p (.rangeF fo params assign body) fr ⟨lc,h⟩ = runRange (callO p) (.func (.func g) ca cb) params assign body fr ⟨lc,h⟩:=by rw [execO_rangeF,hf]
    have e2:callO p g (ca.toList ++ [.func (.yield h.n) #[] #[]] ++ cb.toList) (h.push (.loop { state:=.ready,pend:=none,fr:=okFr fr,params,assign,body })) = some (v,h'):=by
      rw [← hR]; exact e1
    rcases hor with ⟨a1,a4⟩ | ⟨ex,a0,a1,a4⟩
    · refine ⟨.norm,fr,lc,h'.kill h.n, ?_,fin _ (stF _ _ _ a1 (Same.kill _ _))⟩
      rw [ht]
      unfold runRange
      simp only [e2,a4]
      rw [hR]
    · refine ⟨ex,fr,lc,h'.kill h.n, ?_,early ex _ a0 (stG _ _ _ a1 (Same.kill _ _))⟩
      rw [ht]
      unfold runRange
      simp only [e2,a4]
      cases ex with
      | norm=>exact absurd rfl a0
      | ret=>rfl
      | exit id=>rfl
  · rintro i hi h1 ⟨b1,b4⟩
    have b3:=AH.get_lt b4
    obtain ⟨ex0,fr1,lc1,h2,c1,rfl,rfl,rfl,rfl⟩:=(asg xs[i] h1).out
    have b1':=stF _ _ _ b1 (Same.set h.n h2 (.loop { R with state:=.busy }))
    obtain ⟨ex,fr2,lc2,h3,d1,d2,d5⟩:=(step i hi _ _ b1' (AH.get_set_same _ b3)).out
    have hy:=yieldO_run (p:=p) (args:=enc xs[i]) (r:=R) (r1:=R) (ex:=ex) (fr1:=A xs[i]) (lc1:=L xs[i]) (h1:=h2) (fr2:=fr2) (m2:=⟨lc2,h3⟩) (r2:={ R with state:=.busy }) b4
      (by rw [hR]; exact hn _) (by rw [hR]; exact c1) b4 (by rw [hR]) (by rw [hR]; rw [hR] at d1; exact d1) d2 rfl
    have hln:=AH.get_lt d2
    refine ⟨_,_,hy, ?_⟩
    cases ex with
    | norm=>exact .inl ⟨rfl,stF _ _ _ d5 (Same.set _ _ _),by rw [AH.get_set_same _ hln,hR]; rfl⟩
    | ret=>exact .inr ⟨rfl,.ret,by simp,stG _ _ _ d5 (Same.set _ _ _),by rw [AH.get_set_same _ hln]; rfl⟩
    | exit id=>exact .inr ⟨rfl,.exit id,by simp,stG _ _ _ d5 (Same.set _ _ _),by rw [AH.get_set_same _ hln]; rfl⟩
def callvR (fr:Fr) (f:Opd) (xs:List Opd):Option (FuncId × List Value) :=
  match opd fr f with
  | .func (.func g) a b=>if (opds fr xs).all okV = true then some (g,a.toList ++ opds fr xs ++ b.toList) else none
  | _=>none
section
variable {p:Prg} {fr:Fr} {lc:Lc} {h:AH}
variable {T:List (Fr × Mem)→Prop} {keep:List Nat} {r:List LInstr} {tr:List (Fr × Mem)} {K:Fr→Lc→AH→Prop} {d:Nat}
theorem wpr_callvA {f:Opd} {xs:List Opd} {g:FuncId} {vs:List Value} (ha:callvR fr f xs = some (g,vs)) (hq:WpC p g vs h fun v h'=>WpR p T keep r ((d,v) :: fr) lc h' ((fr,⟨lc,h⟩) :: tr) K) :
    WpR p T keep (⟨some d,.e (.callv f xs),none⟩ :: r) fr lc h tr K:=by
  unfold callvR at ha
  split at ha
  · rename_i g' a b hf
    split at ha
    · rename_i hok
      injection ha with ha
      injection ha with e1 e2
      subst e1 e2
      exact wpr_callv hf rfl hok hq
    · cases ha
  · cases ha
end
attribute [push_cast] callvR
theorem AH.get_push_eq {h:AH} {j:Nat} {o:AObj} (hj:j = h.n):(h.push o).get j = some o:=by rw [hj]; exact AH.get_push_same h o
theorem AH.get_set_eq {h:AH} {b j:Nat} {o:AObj} (hj:j = b) (hb:b < h.n):(h.set b o).get j = some o:=by rw [hj]; exact AH.get_set_same o hb
theorem AH.nn_push {h:AH} {o:AObj}:(h.push o).n = h.n + 1:=by cases h; exact Eq.refl _
theorem AH.nn_set {h:AH} {b:Nat} {o:AObj}:(h.set b o).n = h.n:=by cases h; exact Eq.refl _
theorem AH.nn_kill {h:AH} {b:Nat}:(h.kill b).n = h.n:=by cases h; exact Eq.refl _
end Go.Proofs.YtakmapoompffgaaGreatDoor.AM
namespace Go.Proofs.YtakmapoompffgaaGreatDoor.AM
open Go
def Opd.mp (xs:List Opd):Opd→Opd
  | .s n=>xs.getD n (.c undef)
  | .c v=>.c v
def partsMp (xs:List Opd) (ps:List (Nat × Nat × Opd)):List (Nat × Nat × Opd):=ps.map fun p=>(p.1,p.2.1,p.2.2.mp xs)
def POp.mp (xs:List Opd):POp→POp
  | .mv x=>.mv (x.mp xs)
  | .pick c a b=>.pick (c.mp xs) (a.mp xs) (b.mp xs)
  | .bin op x y=>.bin op (x.mp xs) (y.mp xs)
  | .un op x=>.un op (x.mp xs)
  | .conv k x=>.conv k (x.mp xs)
  | .i2s x=>.i2s (x.mp xs)
  | .build z ps=>.build z (partsMp xs ps)
  | .nilck x=>.nilck (x.mp xs)
  | .slS x lo hi=>.slS (x.mp xs) (lo.map (Opd.mp xs)) (hi.map (Opd.mp xs))
  | .sl e x lo hi mx=>.sl e (x.mp xs) (lo.map (Opd.mp xs)) (hi.map (Opd.mp xs)) (mx.map (Opd.mp xs))
  | .faddr o x=>.faddr o (x.mp xs)
  | .fld o n x=>.fld o n (x.mp xs)
  | .iaddr e x i=>.iaddr e (x.mp xs) (i.mp xs)
  | .iaddrA l e x i=>.iaddrA l e (x.mp xs) (i.mp xs)
  | .idxS x i=>.idxS (x.mp xs) (i.mp xs)
  | .idxA l e n x i=>.idxA l e n (x.mp xs) (i.mp xs)
  | .ext i x=>.ext i (x.mp xs)
  | .idxB x c=>.idxB (x.mp xs) (c.mp xs)
  | .len x=>.len (x.mp xs)
  | .slen x=>.slen (x.mp xs)
  | .mm b ys=>.mm b (ys.map (Opd.mp xs))
  | .mkfn f a b=>.mkfn f (a.map (Opd.mp xs)) (b.map (Opd.mp xs))
  | .mkif t x=>.mkif t (x.mp xs)
  | .eqA n ks x y=>.eqA n ks (x.mp xs) (y.mp xs)
  | .eqk n k x y=>.eqk n k (x.mp xs) (y.mp xs)
def ROp.mp (xs:List Opd):ROp→ROp
  | .load n x=>.load n (x.mp xs)
  | .b2s x=>.b2s (x.mp xs)
  | .r2s x=>.r2s (x.mp xs)
  | .maplen x=>.maplen (x.mp xs)
  | .lookup kk z ok x k=>.lookup kk z ok (x.mp xs) (k.mp xs)
def EOp.mp (xs:List Opd):EOp→EOp
  | .newL t z=>.newL t z
  | .newH z=>.newH z
  | .boxL t n x=>.boxL t n (x.mp xs)
  | .boxH n x=>.boxH n (x.mp xs)
  | .litL t n e z ps=>.litL t n e z (partsMp xs ps)
  | .litH n e z ps=>.litH n e z (partsMp xs ps)
  | .store n a x=>.store n (a.mp xs) (x.mp xs)
  | .s2b x=>.s2b (x.mp xs)
  | .s2r x=>.s2r (x.mp xs)
  | .rngS t x=>.rngS t (x.mp xs)
  | .nxtS x=>.nxtS (x.mp xs)
  | .call f ys=>.call f (ys.map (Opd.mp xs))
  | .callv f ys=>.callv (f.mp xs) (ys.map (Opd.mp xs))
  | .append e b x y=>.append e b (x.mp xs) (y.mp xs)
  | .newT t z=>.newT t z
  | .appendT t e b x y=>.appendT t e b (x.mp xs) (y.mp xs)
  | .copy e x y=>.copy e (x.mp xs) (y.mp xs)
  | .mks e b z l c=>.mks e b z (l.mp xs) (c.mp xs)
  | .mkmap=>.mkmap
  | .mapup kk m k x=>.mapup kk (m.mp xs) (k.mp xs) (x.mp xs)
  | .mapent kk z m k=>.mapent kk z (m.mp xs) (k.mp xs)
  | .mapst m i x=>.mapst (m.mp xs) (i.mp xs) (x.mp xs)
def LOp.mp (xs:List Opd):LOp→LOp
  | .p o=>.p (o.mp xs)
  | .r o=>.r (o.mp xs)
  | .e o=>.e (o.mp xs)
theorem fget_argFr:∀ (vs:List Value) (i n:Nat),fget (argFr i vs) n = if n < i then undef else vs.getD (n - i) undef
  | [],i,n=>by simp [argFr,fget]
  | v :: r,i,n=>by
    simp only [argFr,fget,fget_argFr r]
    by_cases h:n = i
    · subst h; simp
    · rw [if_neg h]
      by_cases h2:n < i
      · rw [if_pos h2,if_pos (by omega)]
      · rw [if_neg h2,if_neg (by omega),show n - i = (n - (i + 1)) + 1 by omega,List.getD_cons_succ]
theorem opd_mp {fr:Fr} {xs:List Opd} (x:Opd):opd fr (x.mp xs) = opd (argFr 0 (opds fr xs)) x:=by
  cases x with
  | c v=>rfl
  | s n =>
    show opd fr (xs.getD n (.c undef)) = fget (argFr 0 (opds fr xs)) n
    rw [fget_argFr,if_neg (Nat.not_lt_zero _),Nat.sub_zero]
    unfold opds
    rw [List.getD_eq_getElem?_getD,List.getD_eq_getElem?_getD,List.getElem?_map]
    cases xs[n]? <;> rfl
theorem opds_mp {fr:Fr} {xs:List Opd} (ys:List Opd):opds fr (ys.map (Opd.mp xs)) = opds (argFr 0 (opds fr xs)) ys:=by
  unfold opds
  rw [List.map_map]
  exact List.map_congr_left fun x _=>opd_mp x
theorem parts_mp {fr:Fr} {xs:List Opd} (ps:List (Nat × Nat × Opd)):evParts fr (partsMp xs ps) = evParts (argFr 0 (opds fr xs)) ps:=by
  unfold evParts partsMp
  rw [List.map_map]
  exact List.map_congr_left fun p _=>by simp only [Function.comp,opd_mp]
theorem optInt_mp {fr:Fr} {xs:List Opd} (o:Option Opd) (d:Int):optInt fr (o.map (Opd.mp xs)) d = optInt (argFr 0 (opds fr xs)) o d:=by
  cases o with
  | none=>rfl
  | some x=>simp only [Option.map_some,optInt,opd_mp]
theorem POp.ev_mp {fr:Fr} {xs:List Opd} (o:POp):(o.mp xs).ev fr = o.ev (argFr 0 (opds fr xs)):=by
  cases o <;> simp only [POp.mp,POp.ev,opd_mp,opds_mp,parts_mp,optInt_mp]
theorem ROp.ev_mp {fr:Fr} {m:Mem} {xs:List Opd} (o:ROp):(o.mp xs).ev fr m = o.ev (argFr 0 (opds fr xs)) m:=by
  cases o with
  | load n x=>cases n <;> simp only [ROp.mp,ROp.ev,opd_mp]
  | b2s x=>simp only [ROp.mp,ROp.ev,opd_mp]
  | r2s x=>simp only [ROp.mp,ROp.ev,opd_mp]
  | maplen x=>simp only [ROp.mp,ROp.ev,opd_mp]
  | lookup kk z ok x k=>simp only [ROp.mp,ROp.ev,opd_mp]
theorem EOp.ev_mp {call:CallF} {yld:YieldF} {fr:Fr} {m:Mem} {xs:List Opd} (o:EOp):(o.mp xs).ev call yld fr m = o.ev call yld (argFr 0 (opds fr xs)) m:=by
  cases o <;> simp only [EOp.mp,EOp.ev,opd_mp,opds_mp,parts_mp]
inductive X where
  | sl (n:Nat)
  | cv (v:Value)
  | va (n:Nat)
  | nil
  | cons (a b:X)
  | op (o:LOp) (a:X)
  | ef (o:EOp) (a:X)
  | lz (t:Bool) (a b:X)
def X.and (a b:X):X:=.lz true a b
def X.or (a b:X):X:=.lz false a b
def pickL (t:Bool) (g:Nat) (y:Opd):POp:=if t then .pick (.s g) y (.c (.bool false)) else .pick (.s g) (.c (.bool true)) y
def X.fl:X→Nat→Option (Nat × Bool)→List LInstr × List Opd × Nat
  | .sl m,n,_=>([],[.s m],n)
  | .cv v,n,_=>([],[.c v],n)
  | .va m,n,g=>([⟨some n,.p (.mv (.s m)),g⟩],[.s n],n + 1)
  | .nil,n,_=>([],[],n)
  | .cons a b,n,g=>((a.fl n g).1 ++ (b.fl (a.fl n g).2.2 g).1,(a.fl n g).2.1 ++ (b.fl (a.fl n g).2.2 g).2.1,(b.fl (a.fl n g).2.2 g).2.2)
  | .op o a,n,g=>((a.fl n g).1 ++ [⟨some (a.fl n g).2.2,o.mp (a.fl n g).2.1,g⟩],[.s (a.fl n g).2.2],(a.fl n g).2.2 + 1)
  | .ef o a,n,g=>((a.fl n g).1 ++ [⟨none,.e (o.mp (a.fl n g).2.1),g⟩],[],(a.fl n g).2.2)
  | .lz t a b,n,g=>((a.fl n g).1 ++ ⟨some (a.fl n g).2.2,.p (.mv ((a.fl n g).2.1.getD 0 (.c undef))),g⟩ :: (b.fl ((a.fl n g).2.2 + 1) (some ((a.fl n g).2.2,t))).1 ++
      [⟨some (b.fl ((a.fl n g).2.2 + 1) (some ((a.fl n g).2.2,t))).2.2,.p (pickL t (a.fl n g).2.2 ((b.fl ((a.fl n g).2.2 + 1) (some ((a.fl n g).2.2,t))).2.1.getD 0 (.c undef))),g⟩],
      [.s (b.fl ((a.fl n g).2.2 + 1) (some ((a.fl n g).2.2,t))).2.2],(b.fl ((a.fl n g).2.2 + 1) (some ((a.fl n g).2.2,t))).2.2 + 1)
def LOp.ev (call:CallF) (yld:YieldF) (o:LOp) (fr:Fr) (m:Mem):Option (Value × Mem) :=
  match o with
  | .p o=>(o.ev fr).map fun v=>(v,m)
  | .r o=>(o.ev fr m).map fun v=>(v,m)
  | .e o=>o.ev call yld fr m
def X.ev (call:CallF) (yld:YieldF) (fr:Fr):X→Mem→Option (List Value × Mem)
  | .sl n,m=>some ([fget fr n],m)
  | .cv v,m=>some ([v],m)
  | .va n,m=>some ([fget fr n],m)
  | .nil,m=>some ([],m)
  | .cons a b,m=>match a.ev call yld fr m with
    | some (xs,m1)=>match b.ev call yld fr m1 with
      | some (ys,m2)=>some (xs ++ ys,m2)
      | none=>none
    | none=>none
  | .op o a,m=>match a.ev call yld fr m with
    | some (xs,m1)=>(o.ev call yld (argFr 0 xs) m1).map fun r=>([r.1],r.2)
    | none=>none
  | .ef o a,m=>match a.ev call yld fr m with
    | some (xs,m1)=>(o.ev call yld (argFr 0 xs) m1).map fun r=>([],r.2)
    | none=>none
  | .lz t a b,m=>match a.ev call yld fr m with
    | some ([.bool u],m1)=>if (u == t) = true then
        match b.ev call yld fr m1 with
        | some ([y],m2)=>some ([y],m2)
        | _=>none
      else some ([.bool u],m1)
    | _=>none
def X.slots:X→List Nat
  | .sl n=>[n]
  | .va n=>[n]
  | .cv _=>[]
  | .nil=>[]
  | .cons a b=>a.slots ++ b.slots
  | .op _ a=>a.slots
  | .ef _ a=>a.slots
  | .lz _ a b=>a.slots ++ b.slots
theorem runOps_append {call:CallF} {yld:YieldF}:∀ (a b:List LInstr) (fr:Fr) (m:Mem),runOps call yld (a ++ b) fr m = match runOps call yld a fr m with
    | some (fr',m')=>runOps call yld b fr' m'
    | none=>none
  | [],b,fr,m=>rfl
  | i :: a,b,fr,m=>by
    simp only [List.cons_append,runOps]
    cases i.step call yld fr m with
    | none=>rfl
    | some r=>exact runOps_append a b _ _
theorem X.fl_le:∀ (e:X) (n:Nat) (g:Option (Nat × Bool)),n≤(e.fl n g).2.2
  | .sl _,n,g=>Nat.le_refl _
  | .cv _,n,g=>Nat.le_refl _
  | .va _,n,g=>Nat.le_succ _
  | .nil,n,g=>Nat.le_refl _
  | .cons a b,n,g=>Nat.le_trans (X.fl_le a n g) (X.fl_le b _ g)
  | .op _ a,n,g=>Nat.le_succ_of_le (X.fl_le a n g)
  | .ef _ a,n,g=>X.fl_le a n g
  | .lz t a b,n,g=>by
    have h1:=X.fl_le a n g
    have h2:=X.fl_le b ((a.fl n g).2.2 + 1) (some ((a.fl n g).2.2,t))
    simp only [X.fl]
    omega
def Opd.of (l:List Nat) (n n':Nat):Opd→Prop
  | .s k=>k∈l∨(n≤k∧k < n')
  | .c _=>True
theorem X.fl_res:∀ (e:X) (n:Nat) (g:Option (Nat × Bool)),∀ x∈(e.fl n g).2.1,x.of e.slots n (e.fl n g).2.2
  | .sl m,n,g,x,hx=>by rw [List.mem_singleton.1 hx]; exact .inl (by simp [X.slots])
  | .cv _,n,g,x,hx=>by rw [List.mem_singleton.1 hx]; trivial
  | .va m,n,g,x,hx=>by rw [List.mem_singleton.1 hx]; exact .inr ⟨Nat.le_refl _,Nat.lt_succ_self _⟩
  | .nil,n,g,x,hx=>by cases hx
  | .cons a b,n,g,x,hx=>by
    have h1:=X.fl_le a n g
    have h2:=X.fl_le b (a.fl n g).2.2 g
    rcases List.mem_append.1 hx with hx | hx
    · have:=X.fl_res a n g x hx
      cases x with
      | c v=>trivial
      | s k=>exact this.imp (fun h=>by simp only [X.slots,List.mem_append]; exact .inl h) fun h=>⟨h.1,Nat.lt_of_lt_of_le h.2 h2⟩
    · have:=X.fl_res b _ g x hx
      cases x with
      | c v=>trivial
      | s k=>exact this.imp (fun h=>by simp only [X.slots,List.mem_append]; exact .inr h) fun h=>⟨Nat.le_trans h1 h.1,h.2⟩
  | .op o a,n,g,x,hx=>by rw [List.mem_singleton.1 hx]; exact .inr ⟨X.fl_le a n g,Nat.lt_succ_self _⟩
  | .ef o a,n,g,x,hx=>by cases hx
  | .lz t a b,n,g,x,hx=>by
    have h1:=X.fl_le a n g
    have h2:=X.fl_le b ((a.fl n g).2.2 + 1) (some ((a.fl n g).2.2,t))
    rw [List.mem_singleton.1 hx]
    exact .inr ⟨by omega,Nat.lt_succ_self _⟩
def Agr (n n':Nat) (fr fr':Fr):Prop:=∀ k,k < n∨n'≤k→fget fr' k = fget fr k
theorem Agr.refl (n n':Nat) (fr:Fr):Agr n n' fr fr:=fun _ _=>rfl
theorem Agr.trans {n n1 n':Nat} {a b c:Fr} (h:Agr n n1 a b) (h':Agr n1 n' b c) (h1:n≤n1) (h2:n1≤n'):Agr n n' a c:=fun k hk=>(h' k (by omega)).trans (h k (by omega))
theorem Agr.cons {s:Nat} {fr:Fr} {v:Value}:Agr s (s + 1) fr ((s,v) :: fr):=fun k hk=>by simp only [fget]; rw [if_neg (by omega)]
def gOut (n n':Nat):Option (Nat × Bool)→Prop
  | none=>True
  | some (s,_)=>s < n∨n'≤s
theorem Agr.wanted {n n':Nat} {fr fr':Fr} (h:Agr n n' fr fr') {g:Option (Nat × Bool)} (hg:gOut n n' g):wantedA fr' g = wantedA fr g:=by
  cases g with
  | none=>rfl
  | some p=>simp only [wantedA,h p.1 hg]
theorem gOut.sub {n n' m m':Nat} {g:Option (Nat × Bool)} (hg:gOut n n' g) (h:n≤m) (h':m'≤n'):gOut m m' g:=by
  cases g with
  | none=>trivial
  | some p=>exact hg.imp (fun x=>by omega) (fun x=>by omega)
section
variable {call:CallF} {yld:YieldF}
theorem step_on {i:LInstr} {fr:Fr} {m:Mem} (h:wantedA fr i.guard = some true):i.step call yld fr m = i.op.ev call yld fr m:=by
  simp only [LInstr.step,h,LInstr.ev,LOp.ev]; cases i.op <;> rfl
theorem step_off {i:LInstr} {fr:Fr} {m:Mem} (h:wantedA fr i.guard = some false):i.step call yld fr m = some (skV,m):=by
  simp only [LInstr.step,h]
theorem LOp.ev_mp {fr:Fr} {m:Mem} {xs:List Opd} (o:LOp):(o.mp xs).ev call yld fr m = o.ev call yld (argFr 0 (opds fr xs)) m:=by
  cases o with
  | p o=>simp only [LOp.mp,LOp.ev,POp.ev_mp]
  | r o=>simp only [LOp.mp,LOp.ev,ROp.ev_mp]
  | e o=>simp only [LOp.mp,LOp.ev,EOp.ev_mp]
theorem opds_one {fr:Fr} {l:List Opd} {v:Value} (h:opds fr l = [v]):∃ x,l = [x]∧opd fr x = v:=by
  match l,h with
  | [x],h=>simp only [opds,List.map_cons,List.map_nil,List.cons.injEq,and_true] at h; exact ⟨x,rfl,h⟩
theorem X.fl_off:∀ (e:X) (n:Nat) (g:Option (Nat × Bool)) (fr:Fr) (m:Mem),gOut n (e.fl n g).2.2 g→wantedA fr g = some false →
    ∃ fr',runOps call yld (e.fl n g).1 fr m = some (fr',m)∧Agr n (e.fl n g).2.2 fr fr'
  | .sl _,n,g,fr,m,_,_=>⟨fr,rfl,Agr.refl _ _ _⟩
  | .cv _,n,g,fr,m,_,_=>⟨fr,rfl,Agr.refl _ _ _⟩
  | .va k,n,g,fr,m,_,hw=>⟨(n,skV) :: fr,by simp only [X.fl,runOps]; rw [step_off hw]; rfl,Agr.cons⟩
  | .nil,n,g,fr,m,_,_=>⟨fr,rfl,Agr.refl _ _ _⟩
  | .cons a b,n,g,fr,m,hg,hw=>by
    have a1:=X.fl_le a n g
    have b1:=X.fl_le b (a.fl n g).2.2 g
    obtain ⟨f1,e1,r1⟩:=X.fl_off a n g fr m (hg.sub (Nat.le_refl _) b1) hw
    obtain ⟨f2,e2,r2⟩:=X.fl_off b (a.fl n g).2.2 g f1 m (hg.sub a1 (Nat.le_refl _)) (by rw [r1.wanted (hg.sub (Nat.le_refl _) b1)]; exact hw)
    exact ⟨f2,by simp only [X.fl,runOps_append,e1,e2],r1.trans r2 a1 b1⟩
  | .op o a,n,g,fr,m,hg,hw=>by
    have hg1:=hg.sub (Nat.le_refl n) (Nat.le_succ (a.fl n g).2.2)
    obtain ⟨f1,e1,r1⟩:=X.fl_off a n g fr m hg1 hw
    refine ⟨((a.fl n g).2.2,skV) :: f1, ?_,r1.trans Agr.cons (X.fl_le a n g) (Nat.le_succ _)⟩
    simp only [X.fl,runOps_append,e1,runOps]
    rw [step_off (by rw [r1.wanted hg1]; exact hw)]
    rfl
  | .ef o a,n,g,fr,m,hg,hw=>by
    obtain ⟨f1,e1,r1⟩:=X.fl_off a n g fr m hg hw
    refine ⟨f1, ?_,r1⟩
    simp only [X.fl,runOps_append,e1,runOps]
    rw [step_off (by rw [r1.wanted hg]; exact hw)]
    rfl
  | .lz t a b,n,g,fr,m,hg,hw=>by
    have a1:=X.fl_le a n g
    have b1:=X.fl_le b ((a.fl n g).2.2 + 1) (some ((a.fl n g).2.2,t))
    have hg1:gOut n (a.fl n g).2.2 g:=hg.sub (Nat.le_refl _) (by simp only [X.fl]; omega)
    have hg2:gOut n (b.fl ((a.fl n g).2.2 + 1) (some ((a.fl n g).2.2,t))).2.2 g:=hg.sub (Nat.le_refl _) (Nat.le_succ _)
    obtain ⟨f1,e1,r1⟩:=X.fl_off a n g fr m hg1 hw
    obtain ⟨f2,e2,r2⟩:=X.fl_off b ((a.fl n g).2.2 + 1) (some ((a.fl n g).2.2,t)) (((a.fl n g).2.2,skV) :: f1) m (.inl (Nat.lt_succ_self _)) (by simp only [wantedA,fget,if_true,skV])
    have r3:=(r1.trans Agr.cons a1 (Nat.le_succ _)).trans r2 (by omega) b1
    refine ⟨((b.fl ((a.fl n g).2.2 + 1) (some ((a.fl n g).2.2,t))).2.2,skV) :: f2, ?_,r3.trans Agr.cons (by omega) (Nat.le_succ _)⟩
    simp only [X.fl,runOps_append,List.append_assoc,List.cons_append,e1,runOps]
    rw [step_off (by rw [r1.wanted hg1]; exact hw)]
    simp only [pushD,runOps_append,e2,runOps]
    rw [step_off (by rw [r3.wanted hg2]; exact hw)]
theorem X.fl_on:∀ (e:X) (n:Nat) (g:Option (Nat × Bool)) (fr f0:Fr) (m m':Mem) (vs:List Value),(∀ k∈e.slots,(k < n∨(e.fl n g).2.2≤k)∧fget f0 k = fget fr k)→gOut n (e.fl n g).2.2 g→wantedA f0 g = some true →
    e.ev call yld fr m = some (vs,m')→∃ f1,runOps call yld (e.fl n g).1 f0 m = some (f1,m')∧opds f1 (e.fl n g).2.1 = vs∧Agr n (e.fl n g).2.2 f0 f1
  | .sl k,n,g,fr,f0,m,m',vs,hs,hg,hw,he=>by
    simp only [X.ev,Option.some.injEq,Prod.mk.injEq] at he
    obtain ⟨rfl,rfl⟩:=he
    exact ⟨f0,rfl,by simp only [X.fl,opds,List.map_cons,List.map_nil,opd,(hs k (by simp [X.slots])).2],Agr.refl _ _ _⟩
  | .cv v,n,g,fr,f0,m,m',vs,hs,hg,hw,he=>by
    simp only [X.ev,Option.some.injEq,Prod.mk.injEq] at he
    obtain ⟨rfl,rfl⟩:=he
    exact ⟨f0,rfl,rfl,Agr.refl _ _ _⟩
  | .va k,n,g,fr,f0,m,m',vs,hs,hg,hw,he=>by
    simp only [X.ev,Option.some.injEq,Prod.mk.injEq] at he
    obtain ⟨rfl,rfl⟩:=he
    refine ⟨(n,fget f0 k) :: f0, ?_, ?_,Agr.cons⟩
    · simp only [X.fl,runOps]; rw [step_on hw]; rfl
    · simp only [X.fl,opds,List.map_cons,List.map_nil,opd,fget,if_true,(hs k (by simp [X.slots])).2]
  | .nil,n,g,fr,f0,m,m',vs,hs,hg,hw,he=>by
    simp only [X.ev,Option.some.injEq,Prod.mk.injEq] at he
    obtain ⟨rfl,rfl⟩:=he
    exact ⟨f0,rfl,rfl,Agr.refl _ _ _⟩
  | .cons a b,n,g,fr,f0,m,m',vs,hs,hg,hw,he=>by
    simp only [X.ev] at he
    split at he
    · rename_i xs m1 ea
      split at he
      · rename_i ys m2 eb
        simp only [Option.some.injEq,Prod.mk.injEq] at he
        obtain ⟨rfl,rfl⟩:=he
        have a1:=X.fl_le a n g
        have b1:=X.fl_le b (a.fl n g).2.2 g
        have hs':∀ k∈a.slots ++ b.slots,(k < n∨(b.fl (a.fl n g).2.2 g).2.2≤k)∧fget f0 k = fget fr k:=hs
        have ha:=fun k hk=>hs' k (List.mem_append_left _ hk)
        have hb:=fun k hk=>hs' k (List.mem_append_right _ hk)
        have hg1:=hg.sub (Nat.le_refl n) b1
        obtain ⟨f1,e1,o1,r1⟩:=X.fl_on a n g fr f0 m m1 xs (fun k hk=>⟨by have:=(ha k hk).1; omega,(ha k hk).2⟩) hg1 hw ea
        obtain ⟨f2,e2,o2,r2⟩:=X.fl_on b (a.fl n g).2.2 g fr f1 m1 m2 ys (fun k hk=>⟨by have:=(hb k hk).1; omega,by rw [r1 k (by have:=(hb k hk).1; omega)]; exact (hb k hk).2⟩) (hg.sub a1 (Nat.le_refl _))
          (by rw [r1.wanted hg1]; exact hw) eb
        refine ⟨f2,by simp only [X.fl,runOps_append,e1,e2], ?_,r1.trans r2 a1 b1⟩
        have:opds f2 (a.fl n g).2.1 = xs:=by
          rw [← o1]
          refine List.map_congr_left fun x hx=>?_
          have:=X.fl_res a n g x hx
          cases x with
          | c v=>rfl
          | s k=>exact r2 k (by rcases this with h | h; have:=(ha k h).1; omega; omega)
        simp only [X.fl]
        unfold opds at this o2 ⊢
        rw [List.map_append,this,o2]
      · cases he
    · cases he
  | .op o a,n,g,fr,f0,m,m',vs,hs,hg,hw,he=>by
    simp only [X.ev] at he
    split at he
    · rename_i xs m1 ea
      cases eo:o.ev call yld (argFr 0 xs) m1 with
      | none=>rw [eo] at he; cases he
      | some r =>
        rw [eo] at he
        simp only [Option.map_some,Option.some.injEq,Prod.mk.injEq] at he
        obtain ⟨rfl,rfl⟩:=he
        have hg1:=hg.sub (Nat.le_refl n) (Nat.le_succ (a.fl n g).2.2)
        obtain ⟨f1,e1,o1,r1⟩:=X.fl_on a n g fr f0 m m1 xs (fun k hk=>⟨by have:=(hs k hk).1; simp only [X.fl] at this; omega,(hs k hk).2⟩) hg1 hw ea
        refine ⟨((a.fl n g).2.2,r.1) :: f1, ?_,by simp only [X.fl,opds,List.map_cons,List.map_nil,opd,fget,if_true],r1.trans Agr.cons (X.fl_le a n g) (Nat.le_succ _)⟩
        simp only [X.fl,runOps_append,e1,runOps]
        rw [step_on (by rw [r1.wanted hg1]; exact hw)]
        simp only [LOp.ev_mp,o1,eo]
        rfl
    · cases he
  | .ef o a,n,g,fr,f0,m,m',vs,hs,hg,hw,he=>by
    simp only [X.ev] at he
    split at he
    · rename_i xs m1 ea
      cases eo:o.ev call yld (argFr 0 xs) m1 with
      | none=>rw [eo] at he; cases he
      | some r =>
        rw [eo] at he
        simp only [Option.map_some,Option.some.injEq,Prod.mk.injEq] at he
        obtain ⟨rfl,rfl⟩:=he
        obtain ⟨f1,e1,o1,r1⟩:=X.fl_on a n g fr f0 m m1 xs hs hg hw ea
        refine ⟨f1, ?_,rfl,r1⟩
        simp only [X.fl,runOps_append,e1,runOps]
        rw [step_on (by rw [r1.wanted hg]; exact hw)]
        simp only [LOp.ev,EOp.ev_mp,o1,eo]
        rfl
    · cases he
  | .lz t a b,n,g,fr,f0,m,m',vs,hs,hg,hw,he=>by
    have a1:=X.fl_le a n g
    have b1:=X.fl_le b ((a.fl n g).2.2 + 1) (some ((a.fl n g).2.2,t))
    have hs':∀ k∈a.slots ++ b.slots,(k < n∨(b.fl ((a.fl n g).2.2 + 1) (some ((a.fl n g).2.2,t))).2.2 + 1≤k)∧fget f0 k = fget fr k:=hs
    have ha:=fun k hk=>hs' k (List.mem_append_left _ hk)
    have hb:=fun k hk=>hs' k (List.mem_append_right _ hk)
    have hg1:gOut n (a.fl n g).2.2 g:=hg.sub (Nat.le_refl _) (by simp only [X.fl]; omega)
    have hg2:gOut n (b.fl ((a.fl n g).2.2 + 1) (some ((a.fl n g).2.2,t))).2.2 g:=hg.sub (Nat.le_refl _) (Nat.le_succ _)
    simp only [X.ev] at he
    split at he
    · rename_i u m1 ea
      obtain ⟨f1,e1,o1,r1⟩:=X.fl_on a n g fr f0 m m1 _ (fun k hk=>⟨by have:=(ha k hk).1; omega,(ha k hk).2⟩) hg1 hw ea
      obtain ⟨x,hx,o1⟩:=opds_one o1
      have r1':Agr n ((a.fl n g).2.2 + 1) f0 (((a.fl n g).2.2,.bool u) :: f1):=r1.trans Agr.cons a1 (Nat.le_succ _)
      split at he
      · rename_i hu
        have hu:=eq_of_beq hu
        subst hu
        split at he
        · rename_i y m2 eb
          simp only [Option.some.injEq,Prod.mk.injEq] at he
          obtain ⟨rfl,rfl⟩:=he
          obtain ⟨f2,e2,o2,r2⟩:=X.fl_on b ((a.fl n g).2.2 + 1) (some ((a.fl n g).2.2,u)) fr (((a.fl n g).2.2,.bool u) :: f1) m1 m2 [y] (fun k hk=>⟨by have:=(hb k hk).1; omega,by rw [r1' k (by have:=(hb k hk).1; omega)]; exact (hb k hk).2⟩)
            (.inl (Nat.lt_succ_self _)) (by simp only [wantedA,fget,if_true,beq_self_eq_true]) eb
          obtain ⟨z,hz,o3⟩:=opds_one o2
          have r3:=r1'.trans r2 (by omega) b1
          have hgt:fget f2 (a.fl n g).2.2 = .bool u:=by rw [r2 _ (.inl (Nat.lt_succ_self _))]; simp only [fget,if_true]
          refine ⟨((b.fl ((a.fl n g).2.2 + 1) (some ((a.fl n g).2.2,u))).2.2,y) :: f2, ?_,by simp only [X.fl,opds,List.map_cons,List.map_nil,opd,fget,if_true],r3.trans Agr.cons (by omega) (Nat.le_succ _)⟩
          simp only [X.fl,runOps_append,List.append_assoc,List.cons_append,e1,runOps]
          rw [step_on (by rw [r1.wanted hg1]; exact hw)]
          simp only [hx,List.getD_cons_zero,LOp.ev,POp.ev,o1,Option.map_some,pushD,runOps_append,e2,runOps]
          rw [step_on (by rw [r3.wanted hg2]; exact hw)]
          (cases u <;> simp only [hz,List.getD_cons_zero,pickL,if_true,Bool.false_eq_true,if_false,LOp.ev,POp.ev,opd_s,opd_c,hgt,Option.map_some,pushD]) <;> simp [o3]
        · cases he
      · rename_i hu
        simp only [Option.some.injEq,Prod.mk.injEq] at he
        obtain ⟨rfl,rfl⟩:=he
        obtain ⟨f2,e2,r2⟩:=X.fl_off (call:=call) (yld:=yld) b ((a.fl n g).2.2 + 1) (some ((a.fl n g).2.2,t)) (((a.fl n g).2.2,.bool u) :: f1) m1 (.inl (Nat.lt_succ_self _))
          (by simp only [wantedA,fget,if_true,Option.some.injEq]; exact Bool.eq_false_iff.2 hu)
        have r3:=r1'.trans r2 (by omega) b1
        have hgt:fget f2 (a.fl n g).2.2 = .bool u:=by rw [r2 _ (.inl (Nat.lt_succ_self _))]; simp only [fget,if_true]
        refine ⟨((b.fl ((a.fl n g).2.2 + 1) (some ((a.fl n g).2.2,t))).2.2,.bool u) :: f2, ?_,by simp only [X.fl,opds,List.map_cons,List.map_nil,opd,fget,if_true],r3.trans Agr.cons (by omega) (Nat.le_succ _)⟩
        simp only [X.fl,runOps_append,List.append_assoc,List.cons_append,e1,runOps]
        rw [step_on (by rw [r1.wanted hg1]; exact hw)]
        simp only [hx,List.getD_cons_zero,LOp.ev,POp.ev,o1,Option.map_some,pushD,runOps_append,e2,runOps]
        rw [step_on (by rw [r3.wanted hg2]; exact hw)]
        cases t <;> cases u <;> first | exact absurd rfl hu | ((simp only [pickL,if_true,Bool.false_eq_true,if_false,LOp.ev,POp.ev,opd_s,opd_c,hgt,Option.map_some,pushD]) <;> rfl)
    · cases he
end
inductive St where
  | set (d:Nat) (e:X)
  | tmp (d:Nat) (e:X)
  | run (e:X)
  | at (n:Nat)
def flat:Nat→List St→List LInstr
  | _,[]=>[]
  | n,.set d e :: r=>(e.fl n none).1 ++ ⟨some d,.p (.mv ((e.fl n none).2.1.getD 0 (.c undef))),none⟩ :: flat (e.fl n none).2.2 r
  | n,.tmp d e :: r=>(e.fl n none).1 ++ flat (e.fl n none).2.2 r
  | n,.run e :: r=>(e.fl n none).1 ++ flat (e.fl n none).2.2 r
  | _,.at k :: r=>flat k r
def R (n:Nat) (keep:List Nat) (sts:List St):LCode:=.region (flat n sts) keep []
def isS (d:Nat):List Opd→Bool
  | [.s k]=>k == d
  | _=>false
def okE (dom:List Nat) (n:Nat) (e:X):Bool:=dom.all (fun k=>decide (k < n) || decide ((e.fl n none).2.2≤k)) && e.slots.all (fun k=>dom.contains k)
def okS (keep:List Nat):List Nat→Nat→List St→Bool
  | dom,_,[]=>keep.all fun k=>dom.contains k
  | dom,n,.set d e :: r=>okE dom n e && okS keep (d :: dom) (e.fl n none).2.2 r
  | dom,n,.tmp d e :: r=>okE dom n e && isS d (e.fl n none).2.1 && okS keep (d :: dom) (e.fl n none).2.2 r
  | dom,n,.run e :: r=>okE dom n e && okS keep dom (e.fl n none).2.2 r
  | dom,_,.at k :: r=>okS keep dom k r
def runS (call:CallF) (yld:YieldF):List St→Fr→Mem→Option (Fr × Mem)
  | [],fr,m=>some (fr,m)
  | .set d e :: r,fr,m=>match e.ev call yld fr m with
    | some ([v],m')=>runS call yld r ((d,v) :: fr) m'
    | _=>none
  | .tmp d e :: r,fr,m=>match e.ev call yld fr m with
    | some ([v],m')=>runS call yld r ((d,v) :: fr) m'
    | _=>none
  | .run e :: r,fr,m=>match e.ev call yld fr m with
    | some (_,m')=>runS call yld r fr m'
    | none=>none
  | .at _ :: r,fr,m=>runS call yld r fr m
theorem okE_on {call:CallF} {yld:YieldF} {e:X} {dom:List Nat} {n:Nat} {fr f0:Fr} {m m':Mem} {vs:List Value} (hk:okE dom n e = true) (hag:∀ k∈dom,fget f0 k = fget fr k) (ev:e.ev call yld fr m = some (vs,m')) :
    ∃ f1,runOps call yld (e.fl n none).1 f0 m = some (f1,m')∧opds f1 (e.fl n none).2.1 = vs∧∀ k∈dom,fget f1 k = fget fr k:=by
  simp only [okE,Bool.and_eq_true,Bool.or_eq_true,List.all_eq_true,List.contains_iff_mem,decide_eq_true_eq] at hk
  obtain ⟨f1,e1,o1,r1⟩:=X.fl_on e n none fr f0 m m' vs (fun k h=>⟨hk.1 k (hk.2 k h),hag k (hk.2 k h)⟩) trivial rfl ev
  exact ⟨f1,e1,o1,fun k h=>by rw [r1 k (hk.1 k h)]; exact hag k h⟩
theorem flat_run {call:CallF} {yld:YieldF} {keep:List Nat}:∀ (sts:List St) (dom:List Nat) (n:Nat) (fr f0 fr':Fr) (m m':Mem),okS keep dom n sts = true→(∀ k∈dom,fget f0 k = fget fr k)→runS call yld sts fr m = some (fr',m') →
    ∃ f1,runOps call yld (flat n sts) f0 m = some (f1,m')∧∀ k∈keep,fget f1 k = fget fr' k
  | [],dom,n,fr,f0,fr',m,m',hk,hag,hr=>by
    simp only [runS,Option.some.injEq,Prod.mk.injEq] at hr
    obtain ⟨rfl,rfl⟩:=hr
    refine ⟨f0,rfl,fun k hm=>hag k ?_⟩
    simp only [okS,List.all_eq_true,List.contains_iff_mem] at hk
    exact hk k hm
  | .at k :: r,dom,n,fr,f0,fr',m,m',hk,hag,hr=>flat_run r dom k fr f0 fr' m m' hk hag hr
  | .run e :: r,dom,n,fr,f0,fr',m,m',hk,hag,hr=>by
    simp only [okS,Bool.and_eq_true] at hk
    simp only [runS] at hr
    split at hr
    · rename_i vs m1 ev
      obtain ⟨f1,e1,o1,r1⟩:=okE_on hk.1 hag ev
      obtain ⟨f2,e2,k2⟩:=flat_run r dom _ fr f1 fr' m1 m' hk.2 r1 hr
      exact ⟨f2,by simp only [flat,runOps_append,e1,e2],k2⟩
    · cases hr
  | .set d e :: r,dom,n,fr,f0,fr',m,m',hk,hag,hr=>by
    simp only [okS,Bool.and_eq_true] at hk
    simp only [runS] at hr
    split at hr
    · rename_i v m1 ev
      obtain ⟨f1,e1,o1,r1⟩:=okE_on hk.1 hag ev
      obtain ⟨x,hx,o1⟩:=opds_one o1
      obtain ⟨f2,e2,k2⟩:=flat_run r (d :: dom) _ ((d,v) :: fr) ((d,v) :: f1) fr' m1 m' hk.2 (fun k hk=>by
        simp only [fget]
        by_cases hd:k = d
        · rw [if_pos hd,if_pos hd]
        · rw [if_neg hd,if_neg hd]
          exact r1 k ((List.mem_cons.1 hk).resolve_left hd)) hr
      refine ⟨f2, ?_,k2⟩
      simp only [flat,runOps_append,e1,runOps,hx,List.getD_cons_zero]
      rw [step_on rfl]
      simp only [LOp.ev,POp.ev,o1,Option.map_some,pushD,e2]
    · cases hr
  | .tmp d e :: r,dom,n,fr,f0,fr',m,m',hk,hag,hr=>by
    simp only [okS,Bool.and_eq_true] at hk
    simp only [runS] at hr
    split at hr
    · rename_i v m1 ev
      obtain ⟨f1,e1,o1,r1⟩:=okE_on hk.1.1 hag ev
      have hx:(e.fl n none).2.1 = [.s d]:=by
        have h3:=hk.1.2
        unfold isS at h3
        split at h3
        · rename_i k hc; rw [hc,eq_of_beq h3]
        · cases h3
      rw [hx] at o1
      simp only [opds,List.map_cons,List.map_nil,List.cons.injEq,and_true,opd_s] at o1
      obtain ⟨f2,e2,k2⟩:=flat_run r (d :: dom) _ ((d,v) :: fr) f1 fr' m1 m' hk.2 (fun k hk=>by
        simp only [fget]
        by_cases hd:k = d
        · rw [if_pos hd,hd]; exact o1
        · rw [if_neg hd]
          exact r1 k ((List.mem_cons.1 hk).resolve_left hd)) hr
      exact ⟨f2,by simp only [flat,runOps_append,e1,e2],k2⟩
    · cases hr
theorem keepFr_congr {f0 f1:Fr}:∀ {keep:List Nat},(∀ k∈keep,fget f1 k = fget f0 k)→keepFr f1 keep = keepFr f0 keep
  | [],_=>rfl
  | s :: r,h=>by simp only [keepFr,h s (by simp),keepFr_congr fun k hk=>h k (List.mem_cons_of_mem _ hk)]
theorem keepLc_congr {f0 f1:Fr} {lc:List (Nat × AObj)}:∀ {keep:List Nat},(∀ k∈keep,fget f1 k = fget f0 k)→keepLc f1 lc keep = keepLc f0 lc keep
  | [],_=>rfl
  | s :: r,h=>by simp only [keepLc,h s (by simp),keepLc_congr fun k hk=>h k (List.mem_cons_of_mem _ hk)]
structure WpS (p:Prg) (keep:List Nat) (sts:List St) (fr:Fr) (lc:Lc) (h:AH) (K:Fr→Lc→AH→Prop):Prop where
  out:∃ fr1 lc1 h1 fr2,runS (callO p) (yieldO p) sts fr ⟨lc,h⟩ = some (fr1,⟨lc1,h1⟩)∧keepFr fr1 keep = some fr2∧K fr2 (keepLc fr1 lc1 keep) h1
structure WpE (p:Prg) (e:X) (fr:Fr) (lc:Lc) (h:AH) (K:List Value→Lc→AH→Prop):Prop where
  out:∃ vs lc1 h1,e.ev (callO p) (yieldO p) fr ⟨lc,h⟩ = some (vs,⟨lc1,h1⟩)∧K vs lc1 h1
structure WpO (p:Prg) (o:LOp) (vs:List Value) (lc:Lc) (h:AH) (K:Value→Lc→AH→Prop):Prop where
  out:∃ v lc1 h1,o.ev (callO p) (yieldO p) (argFr 0 vs) ⟨lc,h⟩ = some (v,⟨lc1,h1⟩)∧K v lc1 h1
structure setK (p:Prg) (keep:List Nat) (d:Nat) (r:List St) (fr:Fr) (K:Fr→Lc→AH→Prop) (vs:List Value) (lc:Lc) (h:AH):Prop where
  out:∃ v,vs = [v]∧WpS p keep r ((d,v) :: fr) lc h K
structure consK (p:Prg) (b:X) (fr:Fr) (K:List Value→Lc→AH→Prop) (vs:List Value) (lc:Lc) (h:AH):Prop where
  out:WpE p b fr lc h fun ws=>K (vs ++ ws)
structure opK (p:Prg) (o:LOp) (K:List Value→Lc→AH→Prop) (vs:List Value) (lc:Lc) (h:AH):Prop where
  out:WpO p o vs lc h fun v=>K [v]
structure efK (p:Prg) (o:EOp) (K:List Value→Lc→AH→Prop) (vs:List Value) (lc:Lc) (h:AH):Prop where
  out:WpO p (.e o) vs lc h fun _=>K []
structure oneK (K:List Value→Lc→AH→Prop) (vs:List Value) (lc:Lc) (h:AH):Prop where
  out:∃ v,vs = [v]∧K [v] lc h
structure andK (p:Prg) (b:X) (fr:Fr) (K:List Value→Lc→AH→Prop) (vs:List Value) (lc:Lc) (h:AH):Prop where
  out:∃ t,vs = [.bool t]∧if t = true then WpE p b fr lc h (oneK K) else K [.bool false] lc h
structure orK (p:Prg) (b:X) (fr:Fr) (K:List Value→Lc→AH→Prop) (vs:List Value) (lc:Lc) (h:AH):Prop where
  out:∃ t,vs = [.bool t]∧if t = true then K [.bool true] lc h else WpE p b fr lc h (oneK K)
section
variable {p:Prg} {fr:Fr} {lc:Lc} {h:AH} {Q:Post} {keep:List Nat} {r:List St} {K:Fr→Lc→AH→Prop} {J:List Value→Lc→AH→Prop} {d n:Nat} {v:Value} {vs:List Value}
def needS (keep:List Nat) (sts:List St) (k:Nat):Bool:=keep.contains k || sts.any fun s=>match s with
  | .set _ e=>e.slots.contains k
  | .tmp _ e=>e.slots.contains k
  | .run e=>e.slots.contains k
  | .at _=>false
theorem wp_R {sts:List St} (hk:okS keep ((fr.map (·.1)).filter (needS keep sts)) n sts = true) (hq:WpS p keep sts fr lc h (Q .norm)):Wp p (R n keep sts) fr lc h Q:=by
  obtain ⟨fr1,lc1,h1,fr2,e1,e2,e3⟩:=hq
  obtain ⟨f1,g1,g2⟩:=flat_run sts _ n fr fr fr1 _ _ hk (fun _ _=>rfl) e1
  exact wp_region0 ⟨f1,lc1,h1,fr2,g1,trivial,by rw [keepFr_congr g2]; exact e2,by rw [keepLc_congr g2]; exact e3⟩
def AgF:Fr→Fr→Prop
  | [],_=>True
  | (k,v) :: r,fr=>fget fr k = v∧AgF r fr
theorem AgF.get:∀ {f0 fr:Fr},AgF f0 fr→∀ k∈f0.map (·.1),fget fr k = fget f0 k
  | (k0,v0) :: r,fr,h,k,hk=>by
    simp only [fget]
    by_cases he:k = k0
    · rw [if_pos he,he]; exact h.1
    · rw [if_neg he]
      exact h.2.get k ((List.mem_cons.1 hk).resolve_left he)
theorem wp_RA {sts:List St} {f0:Fr} (ha:AgF f0 fr) (hk:okS keep (f0.map (·.1)) n sts = true) (hq:WpS p keep sts f0 lc h (Q .norm)):Wp p (R n keep sts) fr lc h Q:=by
  obtain ⟨fr1,lc1,h1,fr2,e1,e2,e3⟩:=hq
  obtain ⟨f1,g1,g2⟩:=flat_run sts _ n f0 fr fr1 _ _ hk ha.get e1
  exact wp_region0 ⟨f1,lc1,h1,fr2,g1,trivial,by rw [keepFr_congr g2]; exact e2,by rw [keepLc_congr g2]; exact e3⟩
theorem ws_set {e:X} (hq:WpE p e fr lc h (setK p keep d r fr K)):WpS p keep (.set d e :: r) fr lc h K:=by
  obtain ⟨vs,lc1,h1,e1,v,rfl,fr1,lc2,h2,fr2,e2,e3,e4⟩:=hq
  exact ⟨fr1,lc2,h2,fr2,by simp only [runS,e1,e2],e3,e4⟩
theorem ws_tmp {e:X} (hq:WpE p e fr lc h (setK p keep d r fr K)):WpS p keep (.tmp d e :: r) fr lc h K:=by
  obtain ⟨vs,lc1,h1,e1,v,rfl,fr1,lc2,h2,fr2,e2,e3,e4⟩:=hq
  exact ⟨fr1,lc2,h2,fr2,by simp only [runS,e1,e2],e3,e4⟩
theorem ws_run {e:X} (hq:WpE p e fr lc h fun _ lc h=>WpS p keep r fr lc h K):WpS p keep (.run e :: r) fr lc h K:=by
  obtain ⟨vs,lc1,h1,e1,fr1,lc2,h2,fr2,e2,e3,e4⟩:=hq
  exact ⟨fr1,lc2,h2,fr2,by simp only [runS,e1,e2],e3,e4⟩
theorem ws_at (hq:WpS p keep r fr lc h K):WpS p keep (.at n :: r) fr lc h K :=
  let ⟨fr1,lc2,h2,fr2,e2,e3,e4⟩:=hq
  ⟨fr1,lc2,h2,fr2,e2,e3,e4⟩
theorem ws_end {fr2:Fr} {lc2:Lc} (hk:keepR fr lc keep = some (fr2,lc2)) (hq:K fr2 lc2 h):WpS p keep [] fr lc h K:=by
  unfold keepR at hk
  split at hk
  · rename_i f hf
    injection hk with hk
    injection hk with e1 e2
    subst e1 e2
    exact ⟨fr,lc,h,f,rfl,hf,hq⟩
  · cases hk
theorem setK_one (hq:WpS p keep r ((d,v) :: fr) lc h K):setK p keep d r fr K [v] lc h:=⟨v,rfl,hq⟩
theorem setK_fork {c:Prop} {hd:Decidable c} (h1:c→setK p keep d r fr K [.bool true] lc h) (h2 : ¬ c→setK p keep d r fr K [.bool false] lc h):setK p keep d r fr K [.bool (decide c)] lc h:=by
  by_cases hc:c
  · rw [decide_eq_true hc]; exact h1 hc
  · rw [decide_eq_false hc]; exact h2 hc
theorem setK_forkN {c:Prop} {hd:Decidable c} (h1:c→setK p keep d r fr K [.bool false] lc h) (h2 : ¬ c→setK p keep d r fr K [.bool true] lc h):setK p keep d r fr K [.bool (!decide c)] lc h:=by
  by_cases hc:c
  · rw [decide_eq_true hc]; exact h1 hc
  · rw [decide_eq_false hc]; exact h2 hc
theorem oneK_fork {c:Prop} {hd:Decidable c} (h1:c→oneK J [.bool true] lc h) (h2 : ¬ c→oneK J [.bool false] lc h):oneK J [.bool (decide c)] lc h:=by
  by_cases hc:c
  · rw [decide_eq_true hc]; exact h1 hc
  · rw [decide_eq_false hc]; exact h2 hc
theorem oneK_forkN {c:Prop} {hd:Decidable c} (h1:c→oneK J [.bool false] lc h) (h2 : ¬ c→oneK J [.bool true] lc h):oneK J [.bool (!decide c)] lc h:=by
  by_cases hc:c
  · rw [decide_eq_true hc]; exact h1 hc
  · rw [decide_eq_false hc]; exact h2 hc
theorem oneK_one (hq:J [v] lc h):oneK J [v] lc h:=⟨v,rfl,hq⟩
theorem andK_t {b:X} (hq:WpE p b fr lc h (oneK J)):andK p b fr J [.bool true] lc h:=⟨true,rfl,by rw [if_pos rfl]; exact hq⟩
theorem andK_f {b:X} (hq:J [.bool false] lc h):andK p b fr J [.bool false] lc h:=⟨false,rfl,by rw [if_neg (by decide)]; exact hq⟩
theorem orK_t {b:X} (hq:J [.bool true] lc h):orK p b fr J [.bool true] lc h:=⟨true,rfl,by rw [if_pos rfl]; exact hq⟩
theorem orK_f {b:X} (hq:WpE p b fr lc h (oneK J)):orK p b fr J [.bool false] lc h:=⟨false,rfl,by rw [if_neg (by decide)]; exact hq⟩
theorem andK_fork {b:X} {c:Prop} {hd:Decidable c} (h1:c→andK p b fr J [.bool true] lc h) (h2 : ¬ c→andK p b fr J [.bool false] lc h):andK p b fr J [.bool (decide c)] lc h:=by
  by_cases hc:c
  · rw [decide_eq_true hc]; exact h1 hc
  · rw [decide_eq_false hc]; exact h2 hc
theorem andK_forkN {b:X} {c:Prop} {hd:Decidable c} (h1:c→andK p b fr J [.bool false] lc h) (h2 : ¬ c→andK p b fr J [.bool true] lc h):andK p b fr J [.bool (!decide c)] lc h:=by
  by_cases hc:c
  · rw [decide_eq_true hc]; exact h1 hc
  · rw [decide_eq_false hc]; exact h2 hc
theorem orK_fork {b:X} {c:Prop} {hd:Decidable c} (h1:c→orK p b fr J [.bool true] lc h) (h2 : ¬ c→orK p b fr J [.bool false] lc h):orK p b fr J [.bool (decide c)] lc h:=by
  by_cases hc:c
  · rw [decide_eq_true hc]; exact h1 hc
  · rw [decide_eq_false hc]; exact h2 hc
theorem orK_forkN {b:X} {c:Prop} {hd:Decidable c} (h1:c→orK p b fr J [.bool false] lc h) (h2 : ¬ c→orK p b fr J [.bool true] lc h):orK p b fr J [.bool (!decide c)] lc h:=by
  by_cases hc:c
  · rw [decide_eq_true hc]; exact h1 hc
  · rw [decide_eq_false hc]; exact h2 hc
theorem we_cons {a b:X} (hq:WpE p a fr lc h (consK p b fr J)):WpE p (.cons a b) fr lc h J:=by
  obtain ⟨xs,lc1,h1,e1,ys,lc2,h2,e2,e3⟩:=hq
  exact ⟨_,_,_,by simp only [X.ev,e1,e2],e3⟩
theorem we_op {o:LOp} {a:X} (hq:WpE p a fr lc h (opK p o J)):WpE p (.op o a) fr lc h J:=by
  obtain ⟨xs,lc1,h1,e1,v,lc2,h2,e2,e3⟩:=hq
  exact ⟨_,_,_,by simp only [X.ev,e1,e2,Option.map_some],e3⟩
theorem we_ef {o:EOp} {a:X} (hq:WpE p a fr lc h (efK p o J)):WpE p (.ef o a) fr lc h J:=by
  obtain ⟨xs,lc1,h1,e1,v,lc2,h2,e2,e3⟩:=hq
  refine ⟨_,_,_, ?_,e3⟩
  simp only [LOp.ev] at e2
  simp only [X.ev,e1,e2,Option.map_some]
theorem we_and {a b:X} (hq:WpE p a fr lc h (andK p b fr J)):WpE p (.and a b) fr lc h J:=by
  obtain ⟨xs,lc1,h1,e1,t,rfl,e2⟩:=hq
  cases t with
  | true =>
    rw [if_pos rfl] at e2
    obtain ⟨ys,lc2,h2,e3,v,rfl,e4⟩:=e2
    exact ⟨_,_,_,by simp only [X.and,X.ev,e1,e3,beq_self_eq_true,if_true],e4⟩
  | false=>exact ⟨_,_,_,by simp only [X.and,X.ev,e1]; rfl,e2⟩
theorem we_or {a b:X} (hq:WpE p a fr lc h (orK p b fr J)):WpE p (.or a b) fr lc h J:=by
  obtain ⟨xs,lc1,h1,e1,t,rfl,e2⟩:=hq
  cases t with
  | true=>exact ⟨_,_,_,by simp only [X.or,X.ev,e1]; rfl,e2⟩
  | false =>
    rw [if_neg (by decide)] at e2
    obtain ⟨ys,lc2,h2,e3,v,rfl,e4⟩:=e2
    exact ⟨_,_,_,by simp only [X.or,X.ev,e1,e3,beq_self_eq_true,if_true],e4⟩
theorem consK_one {b:X} (hq:WpE p b fr lc h fun ws=>J (vs ++ ws)):consK p b fr J vs lc h:=⟨hq⟩
theorem opK_one {o:LOp} (hq:WpO p o vs lc h fun v=>J [v]):opK p o J vs lc h:=⟨hq⟩
theorem efK_one {o:EOp} (hq:WpO p (.e o) vs lc h fun _=>J []):efK p o J vs lc h:=⟨hq⟩
def X.pv (fr:Fr) (m:Mem):X→Option (List Value)
  | .sl n=>some [fget fr n]
  | .cv v=>some [v]
  | .va n=>some [fget fr n]
  | .nil=>some []
  | .cons a b=>match a.pv fr m,b.pv fr m with
    | some xs,some ys=>some (xs ++ ys)
    | _,_=>none
  | .op (.p o) a=>match a.pv fr m with
    | some xs=>(o.ev (argFr 0 xs)).map fun v=>[v]
    | none=>none
  | .op (.r o) a=>match a.pv fr m with
    | some xs=>(o.ev (argFr 0 xs) m).map fun v=>[v]
    | none=>none
  | _=>none
theorem X.pv_ev {call:CallF} {yld:YieldF} {m:Mem}:∀ {e:X} {vs:List Value},e.pv fr m = some vs→e.ev call yld fr m = some (vs,m)
  | .sl n,vs,he=>by simp only [X.pv,Option.some.injEq] at he; subst he; rfl
  | .cv v,vs,he=>by simp only [X.pv,Option.some.injEq] at he; subst he; rfl
  | .va n,vs,he=>by simp only [X.pv,Option.some.injEq] at he; subst he; rfl
  | .nil,vs,he=>by simp only [X.pv,Option.some.injEq] at he; subst he; rfl
  | .cons a b,vs,he=>by
    simp only [X.pv] at he
    split at he
    · rename_i xs ys ea eb
      simp only [Option.some.injEq] at he
      subst he
      simp only [X.ev,X.pv_ev ea,X.pv_ev eb]
    · cases he
  | .op (.p o) a,vs,he=>by
    simp only [X.pv] at he
    split at he
    · rename_i xs ea
      simp only [X.ev,X.pv_ev ea,LOp.ev]
      cases ho:o.ev (argFr 0 xs) with
      | none=>rw [ho] at he; cases he
      | some v=>rw [ho] at he; simp only [Option.map_some,Option.some.injEq] at he ⊢; rw [he]
    · cases he
  | .op (.r o) a,vs,he=>by
    simp only [X.pv] at he
    split at he
    · rename_i xs ea
      simp only [X.ev,X.pv_ev ea,LOp.ev]
      cases ho:o.ev (argFr 0 xs) m with
      | none=>rw [ho] at he; cases he
      | some v=>rw [ho] at he; simp only [Option.map_some,Option.some.injEq] at he ⊢; rw [he]
    · cases he
theorem we_pure {e:X} (he:e.pv fr ⟨lc,h⟩ = some vs) (hq:J vs lc h):WpE p e fr lc h J:=⟨vs,lc,h,X.pv_ev he,hq⟩
theorem wo_p {o:POp} {H:Value→Lc→AH→Prop} (he:o.ev (argFr 0 vs) = some v) (hq:H v lc h):WpO p (.p o) vs lc h H:=⟨v,lc,h,by simp only [LOp.ev,he,Option.map_some],hq⟩
theorem wo_r {o:ROp} {H:Value→Lc→AH→Prop} (he:o.ev (argFr 0 vs) ⟨lc,h⟩ = some v) (hq:H v lc h):WpO p (.r o) vs lc h H:=⟨v,lc,h,by simp only [LOp.ev,he,Option.map_some],hq⟩
theorem wo_e {o:EOp} {H:Value→Lc→AH→Prop} {lc':Lc} {h':AH} (he:o.ev (callO p) (yieldO p) (argFr 0 vs) ⟨lc,h⟩ = some (v,⟨lc',h'⟩)) (hq:H v lc' h'):WpO p (.e o) vs lc h H:=⟨v,lc',h',he,hq⟩
theorem wo_callA {f:FuncId} {xs:List Opd} {asx:List Value} {H:Value→Lc→AH→Prop} (ha:argsR (argFr 0 vs) xs = some asx) (hq:WpC p f asx h fun v h'=>H v lc h'):WpO p (.e (.call f xs)) vs lc h H:=by
  unfold argsR at ha
  split at ha
  · rename_i hok
    injection ha with ha
    obtain ⟨v,h',h1,h2⟩:=hq
    exact wo_e (by simp only [EOp.ev,ha,ha ▸ hok,if_true,h1,Option.map_some]) h2
  · cases ha
theorem wo_callvA {f:Opd} {xs:List Opd} {g:FuncId} {asx:List Value} {H:Value→Lc→AH→Prop} (ha:callvR (argFr 0 vs) f xs = some (g,asx)) (hq:WpC p g asx h fun v h'=>H v lc h'):WpO p (.e (.callv f xs)) vs lc h H:=by
  unfold callvR at ha
  split at ha
  · rename_i g' a b hf
    split at ha
    · rename_i hok
      injection ha with ha
      injection ha with e1 e2
      subst e1 e2
      obtain ⟨v,h',h1,h2⟩:=hq
      exact wo_e (by simp only [EOp.ev,hok,if_true,hf,h1,Option.map_some]) h2
    · cases ha
  · cases ha
theorem wo_callV {f:Opd} {xs:List Opd} {fv:Value} {asx:List Value} {H:Value→Lc→AH→Prop} (hf:opd (argFr 0 vs) f = fv) (ha:opds (argFr 0 vs) xs = asx) (hok:asx.all okV = true)
    (hq:WpV p fv asx h fun v h'=>H v lc h'):WpO p (.e (.callv f xs)) vs lc h H:=by
  obtain ⟨v,h',h1,h2⟩:=hq
  exact wo_e (ev_callV hf ha hok h1) h2
end
end Go.Proofs.YtakmapoompffgaaGreatDoor.AM
namespace Go.Proofs.YtakmapoompffgaaGreatDoor.AM
open Go
def xb (o:BinOp) (a b:X):X:=.op (.p (.bin o (.s 0) (.s 1))) (.cons a b)
def xu (o:UnOp) (a:X):X:=.op (.p (.un o (.s 0))) a
def xld (a:X):X:=.op (.r (.load none (.s 0))) a
def xln (n:Nat) (a:X):X:=.op (.r (.load (some n) (.s 0))) a
def xfa (o:Nat) (a:X):X:=.op (.p (.faddr o (.s 0))) a
def xfd (o:Nat) (a:X):X:=.op (.p (.fld o none (.s 0))) a
def xfn (o n:Nat) (a:X):X:=.op (.p (.fld o (some n) (.s 0))) a
def xia (e:Nat) (a i:X):X:=.op (.p (.iaddr e (.s 0) (.s 1))) (.cons a i)
def xlen (a:X):X:=.op (.p (.len (.s 0))) a
def xsl (a:X):X:=.op (.p (.slen (.s 0))) a
def xis (a i:X):X:=.op (.p (.idxS (.s 0) (.s 1))) (.cons a i)
def xex (i:Nat) (a:X):X:=.op (.p (.ext i (.s 0))) a
def xcn (k:IntKind) (a:X):X:=.op (.p (.conv k (.s 0))) a
def xnk (a:X):X:=.op (.p (.nilck (.s 0))) a
def xi (n:Int):X:=.cv (.int .i64 n)
def xr (n:Int):X:=.cv (.int .i32 n)
def xap (e b:Nat) (a y:X):X:=.op (.e (.append e b (.s 0) (.s 1))) (.cons a y)
def xst (n:Nat) (a x:X):X:=.ef (.store n (.s 0) (.s 1)) (.cons a x)
def xnl (t:Nat) (z:List Value):X:=.op (.e (.newL t z)) .nil
def xnh (z:List Value):X:=.op (.e (.newH z)) .nil
def xbl (t n:Nat) (a:X):X:=.op (.e (.boxL t n (.s 0))) a
def xbh (n:Nat) (a:X):X:=.op (.e (.boxH n (.s 0))) a
def xc0 (f:FuncId):X:=.op (.e (.call f [])) .nil
def xc1 (f:FuncId) (a:X):X:=.op (.e (.call f [.s 0])) a
def xc2 (f:FuncId) (a b:X):X:=.op (.e (.call f [.s 0,.s 1])) (.cons a b)
def xc3 (f:FuncId) (a b c:X):X:=.op (.e (.call f [.s 0,.s 1,.s 2])) (.cons a (.cons b c))
def xv0 (f:X):X:=.op (.e (.callv (.s 0) [])) f
def xv1 (f a:X):X:=.op (.e (.callv (.s 0) [.s 1])) (.cons f a)
def xv2 (f a b:X):X:=.op (.e (.callv (.s 0) [.s 1,.s 2])) (.cons f (.cons a b))
theorem fg0 {a:Value} {r:List Value}:fget (argFr 0 (a :: r)) 0 = a:=rfl
theorem fg1 {a b:Value} {r:List Value}:fget (argFr 0 (a :: b :: r)) 1 = b:=rfl
theorem fg2 {a b c:Value} {r:List Value}:fget (argFr 0 (a :: b :: c :: r)) 2 = c:=rfl
theorem fg3 {a b c d:Value} {r:List Value}:fget (argFr 0 (a :: b :: c :: d :: r)) 3 = d:=rfl
theorem fg4 {a b c d e:Value} {r:List Value}:fget (argFr 0 (a :: b :: c :: d :: e :: r)) 4 = e:=rfl
theorem fg5 {a b c d e f:Value} {r:List Value}:fget (argFr 0 (a :: b :: c :: d :: e :: f :: r)) 5 = f:=rfl
theorem fg6 {a b c d e f g:Value} {r:List Value}:fget (argFr 0 (a :: b :: c :: d :: e :: f :: g :: r)) 6 = g:=rfl
theorem fg7 {a b c d e f g i:Value} {r:List Value}:fget (argFr 0 (a :: b :: c :: d :: e :: f :: g :: i :: r)) 7 = i:=rfl
attribute [push_cast] X.pv xb xu xld xln xfa xfd xfn xia xlen xsl xis xex xcn xnk xi xr fg0 fg1 fg2 fg3 fg4 fg5 fg6 fg7 List.cons_append List.nil_append Option.map_some
attribute [push_cast] ev_load1 ev_loadn ev_faddr ev_fld partA_one partA_more ptrOff_mk loc_mk rd_loc rd_heap wr_loc wr_heap
theorem wrap_u8 {x:Int} (h1:0≤x) (h2:x < 256):IntKind.u8.wrap x = x:=by
  show (if (false && decide (x % 256 ≥ 128)) = true then x % 256 - 256 else x % 256) = x
  simp only [Bool.false_and,Bool.false_eq_true,if_false]
  omega
theorem wrap_u64 {x:Int} (h1:0≤x) (h2:x < 18446744073709551616):IntKind.u64.wrap x = x:=by
  show (if (false && decide (x % 18446744073709551616 ≥ 9223372036854775808)) = true then x % 18446744073709551616 - 18446744073709551616 else x % 18446744073709551616) = x
  simp only [Bool.false_and,Bool.false_eq_true,if_false]
  omega
theorem shl6 {x:Int} (h1:0≤x) (h2:x < 33554432):binA .shl (.int .i32 x) (.int .u64 6) = some (.int .i32 (x * 64)):=by
  show some (Value.int .i32 (IntKind.i32.wrap (x * 64))) = _
  rw [wrap_i32 (by omega) (by omega)]
theorem iaddr_mk {e e' n b o:Nat} {k:IntKind} {j:Int} (h0:0≤j) (h1:j < n):iaddrP e (.slice (some ⟨b,o,none⟩) n e') (.int k j) = some (.pointer (some ⟨b,o + j.toNat * e,none⟩)):=by
  simp only [iaddrP]
  rw [if_pos ⟨h0,h1,rfl⟩]
  rfl
theorem lenP_mk {a:Option Addr} {n e:Nat}:lenP (.slice a n e) = some (.int .i64 n):=rfl
theorem shr1 {x:Int} (h1:0≤x):binA .shr (.int .u64 x) (.int .u64 1) = some (.int .u64 (x / 2)):=by
  show some (Value.int .u64 (x.fdiv 2)) = _
  rw [Int.fdiv_eq_ediv_of_nonneg _ (by omega)]
attribute [push_cast] wrap_u8 wrap_u64 shl6 shr1 iaddr_mk lenP_mk
section
variable {p:Prg} {lc:Lc} {h h0:AH} {H:Value→Lc→AH→Prop}
theorem wo_app {e by':Nat} {s:Sl} {y:Value} {xss yss:List (List Value)} {k:Nat} (f:FOwn h0 h e s xss) (hk:lenV y = some k) (hy:rdSlice ⟨lc,h⟩ e y = some yss.flatten)
    (hyl:yss.length = k) (hye:∀ x∈yss,x.length = e) (k0:0 < k) (he:0 < e) (hb:0 < by') (hn:(xss.length + k) * by'≤140737488355328)
    (hq:∀ s' h',FOwn h0 h' e s' (xss ++ yss)→H (s'.val e) lc h'):WpO p (.e (.append e by' (.s 0) (.s 1))) [s.val e,y] lc h H:=by
  obtain ⟨s',h',h1,h2⟩:=f.append hk hy hyl hye k0 he hb hn
  exact wo_e (by simp only [EOp.ev,opd_s,fg0,fg1,h1]) (hq s' h' h2)
theorem wo_app1 {e by' b:Nat} {s:Sl} {xss:List (List Value)} {cs:List Value} (f:FOwn h0 h e s xss) (hl:lget lc b = some (.cells false cs)) (hc:cs.length = e) (he:0 < e) (hb:0 < by') (hn:(xss.length + 1) * by'≤140737488355328)
    (hq:∀ s' h',FOwn h0 h' e s' (xss ++ [cs])→H (s'.val e) lc h'):WpO p (.e (.append e by' (.s 0) (.s 1))) [s.val e,.slice (some ⟨b,0,some 1⟩) 1 e] lc h H:=by
  refine wo_app (yss:=[cs]) (k:=1) f rfl ?_ rfl (fun x hx=>by rw [List.mem_singleton.1 hx]; exact hc) (by decide) he hb hn hq
  simp only [rdSlice,Nat.one_ne_zero,if_false,Nat.one_mul,rd_loc,hl,List.flatten_cons,List.flatten_nil,List.append_nil]
  rw [if_pos (by omega),List.drop_zero,← hc,List.take_length]
theorem wo_appL {e by':Nat} {s t:Sl} {xss yss:List (List Value)} (f:FOwn h0 h e s xss) (rt:Reads h e t yss) (he:0 < e) (hb:0 < by') (hn:(xss.length + yss.length) * by'≤140737488355328)
    (hq:∀ s' h',FOwn h0 h' e s' (xss ++ yss)→H (s'.val e) lc h'):WpO p (.e (.append e by' (.s 0) (.s 1))) [s.val e,t.val e] lc h H:=by
  rcases Nat.eq_zero_or_pos yss.length with h0' | h0'
  · have hyn:yss = []:=List.eq_nil_of_length_eq_zero h0'
    subst hyn
    have h1:=rdSlice_reads (lc:=lc) rt
    have h2:lenV (t.val e) = some 0:=by rw [Sl.lenV_val,rt.1]; rfl
    have hs:=f.own.1
    refine wo_e (v:=s.val e) (lc':=lc) (h':=h) ?_ (hq s h (by simpa using f))
    simp only [EOp.ev,opd_s,fg0,fg1]
    generalize t.val e = y at h1 h2 ⊢
    cases s with
    | nil=>simp only [appendA,appendG,Sl.val,h1,h2,List.flatten_nil,List.length_nil,Nat.zero_mul,if_true]
    | «at» b o n=>simp only [appendA,appendG,Sl.val,h1,h2,List.flatten_nil,List.length_nil,Nat.zero_mul,if_true,Option.isNone_none,and_self]
  · exact wo_app f (by rw [Sl.lenV_val,rt.1]) (rdSlice_reads rt) rfl rt.2.1 h0' he hb hn hq
theorem wo_appT {by':Nat} {s:Sl} {x:ByteArray} {xss:List (List Value)} (f:FOwn h0 h 1 s xss) (hb:0 < by') (hn:(xss.length + x.size) * by'≤140737488355328)
    (hq:∀ s' h',FOwn h0 h' 1 s' (xss ++ x.data.toList.map fun b=>[.int .u8 b.toNat])→H (s'.val 1) lc h'):WpO p (.e (.append 1 by' (.s 0) (.s 1))) [s.val 1,.string x] lc h H:=by
  have hx:x.size = x.data.toList.length:=rfl
  rcases Nat.eq_zero_or_pos x.size with h0' | h0'
  · have hyn:x.data.toList = []:=List.eq_nil_of_length_eq_zero (by omega)
    rw [hyn,List.map_nil,List.append_nil] at hq
    refine wo_e (v:=s.val 1) (lc':=lc) (h':=h) ?_ (hq s h f)
    simp only [EOp.ev,opd_s,fg0,fg1]
    cases s with
    | nil=>simp only [appendA,appendG,Sl.val,lenV,rdSlice,hyn,h0',List.map_nil,List.length_nil,Nat.zero_mul,if_true]
    | «at» b o n=>simp only [appendA,appendG,Sl.val,lenV,rdSlice,hyn,h0',List.map_nil,List.length_nil,Nat.zero_mul,if_true,Option.isNone_none,and_self]
  · refine wo_app (k:=x.size) f rfl ?_ (by simp only [List.length_map]; exact hx.symm) (fun y hy=>?_) h0' (by decide) hb hn hq
    · simp only [rdSlice,Option.some.injEq]
      generalize x.data.toList = l
      induction l with
      | nil=>rfl
      | cons a l ih=>simp only [List.map_cons,List.flatten_cons,← ih]; rfl
    · obtain ⟨b,_,rfl⟩:=List.mem_map.1 hy; rfl
theorem wo_next_more {b k pos:Nat} {s:ByteArray} (hl:lget lc b = some (.siter s pos)) (hp:pos < s.size)
    (hq:H (.tuple (List.toArray [.bool true,.int .i64 pos,.int .i32 (Utf8.decode s pos).1])) ((b,.siter s (pos + (Utf8.decode s pos).2)) :: lc) h):WpO p (.e (.nxtS (.s 0))) [.pointer (some ⟨b,0,some k⟩)] lc h H :=
  wo_e (by simp only [EOp.ev,opd_s,fg0,Option.isSome_some,and_self,if_true,Mem.obj,hl,hp,Mem.putObj]) hq
theorem wo_next_end {b k pos:Nat} {s:ByteArray} (hl:lget lc b = some (.siter s pos)) (hp : ¬ pos < s.size) (hq:H (.tuple (List.toArray [.bool false])) lc h):WpO p (.e (.nxtS (.s 0))) [.pointer (some ⟨b,0,some k⟩)] lc h H :=
  wo_e (by simp only [EOp.ev,opd_s,fg0,Option.isSome_some,and_self,if_true,Mem.obj,hl,hp,if_false]) hq
end
end Go.Proofs.YtakmapoompffgaaGreatDoor.AM
namespace Go.Proofs.YtakmapoompffgaaGreatDoor.AM
open Go Go.Shelf Go.RowKit Go.Lib
section
variable {P:Program} {ρ:Ren}
set_option maxHeartbeats 1000000 in
set_option maxRecDepth 100000 in
theorem bld_string (L:Lays.n169 P ρ) (X:Builder.Extra P ρ) {b g cap N:Nat} {l:List UInt8} {w:World} (h0:l≠[]) (c0:w.cell? ⟨b,1,none⟩ = some (.slice (some ⟨g,0,none⟩) l.length cap)) (hcap:l.length≤cap)
    (hsh:w.shape? g = some (ρ.t 5,N)) (hN:l.length≤N) (hm:l.length≤140737488355328) (hcells:∀ j x,l[j]? = some x→w.cell? ⟨g,j,none⟩ = some (.int .u8 x.toNat)) :
    Calls P (ρ.f 169) #[.pointer (some ⟨b,0,none⟩)] w fun e w'=>e = .returned (.string ⟨l.toArray⟩)∧w' = w.drew.freeze ⟨g,0,none⟩ l.length:=by
  have hl0:l.length≠0:=by simpa using h0
  have c1:w.drew.cell? ⟨b,1,none⟩ = some (.slice (some ⟨g,0,none⟩) l.length cap):=c0
  have hSD:(Builtin.unsafeSliceData_ #[(ρ.t 37)] (ρ.t 127) #[.slice (some ⟨g,0,none⟩) l.length cap]).run P w.drew = .ok (.pointer (some ⟨g,0,none⟩)) w.drew :=
    Lib.run_unsafeSliceData_row _ _ _ _ _ _ (by omega)
  have hUS:(Builtin.unsafeString_ #[(ρ.t 127),(ρ.t 3)] (ρ.t 9) #[.pointer (some ⟨g,0,none⟩),.int .i64 l.length]).run P w.drew = .ok (.string ⟨l.toArray⟩) (w.drew.freeze ⟨g,0,none⟩ l.length) :=
    Lib.run_unsafeString_row w.drew (ρ.t 127) (ρ.t 3) (ρ.t 9) (ρ.t 5) L.t127 X.cellsByte g N hsh l h0 hN (by omega) (fun j x hx=>by
      rw [add_off _ rfl]
      show w.cell? _ = _
      simpa [ptrOff] using hcells j x hx)
  have mixed:=L.mixed
  have t72:=L.t72; have a72:=L.a72; have z72:=L.z72; have v72:=L.v72; have u72:=run_underlying L.t72
  have t70:=L.t70; have a70:=L.a70; have z70:=L.z70; have v70:=L.v70; have u70:=run_underlying L.t70
  have t37:=L.t37; have a37:=L.a37; have z37:=L.z37; have v37:=L.v37; have u37:=run_underlying L.t37
  have t127:=L.t127; have a127:=L.a127; have z127:=L.z127; have v127:=L.v127; have u127:=run_underlying L.t127
  have t3:=L.t3; have a3:=L.a3; have z3:=L.z3; have v3:=L.v3; have u3:=run_underlying L.t3
  have t9:=L.t9; have a9:=L.a9; have z9:=L.z9; have v9:=L.v9; have u9:=run_underlying L.t9
  have t5:=X.t5; have a5:=X.a5; have z5:=X.z5; have v5:=X.v5; have u5:=run_underlying X.t5
  go_enter L.f169,Body.n169_ntmps ρ
  go_wp2
  go_region_o
  all_goals (go_wp2; go_ret; exact ⟨rfl,rfl⟩)
set_option maxHeartbeats 1000000 in
set_option maxRecDepth 100000 in
theorem bld_string_nil (L:Lays.n169 P ρ) (X:Builder.Extra P ρ) {b:Nat} {w:World} (c0:w.cell? ⟨b,1,none⟩ = some (.slice none 0 0)) :
    Calls P (ρ.f 169) #[.pointer (some ⟨b,0,none⟩)] w fun e w'=>e = .returned (.string ⟨#[]⟩)∧w' = w.drew:=by
  have hUS:=Any.unsafeString_none L X
  have c1:w.drew.cell? ⟨b,1,none⟩ = some (.slice none 0 0):=c0
  have hSD:(Builtin.unsafeSliceData_ #[(ρ.t 37)] (ρ.t 127) #[.slice none 0 0]).run P w.drew = .ok (.pointer none) w.drew:=rfl
  have mixed:=L.mixed
  have t72:=L.t72; have a72:=L.a72; have z72:=L.z72; have v72:=L.v72; have u72:=run_underlying L.t72
  have t70:=L.t70; have a70:=L.a70; have z70:=L.z70; have v70:=L.v70; have u70:=run_underlying L.t70
  have t37:=L.t37; have a37:=L.a37; have z37:=L.z37; have v37:=L.v37; have u37:=run_underlying L.t37
  have t127:=L.t127; have a127:=L.a127; have z127:=L.z127; have v127:=L.v127; have u127:=run_underlying L.t127
  have t3:=L.t3; have a3:=L.a3; have z3:=L.z3; have v3:=L.v3; have u3:=run_underlying L.t3
  have t9:=L.t9; have a9:=L.a9; have z9:=L.z9; have v9:=L.v9; have u9:=run_underlying L.t9
  have t5:=X.t5; have a5:=X.a5; have z5:=X.z5; have v5:=X.v5; have u5:=run_underlying X.t5
  go_enter L.f169,Body.n169_ntmps ρ
  go_wp2
  go_region_o
  all_goals (go_wp2; go_ret; exact ⟨rfl,rfl⟩)
end
def bytesX:List Value→Option (List UInt8)
  | []=>some []
  | .int .u8 n :: r=>if 0≤n∧n < 256 then (bytesX r).map fun l=>UInt8.ofNat n.toNat :: l else none
  | _=>none
def bytesV (l:List UInt8):List Value:=l.map fun b=>.int .u8 (b.toNat:Int)
theorem bytesX_bytesV (l:List UInt8):bytesX (bytesV l) = some l:=by
  induction l with
  | nil=>rfl
  | cons b l ih =>
    have h:=b.toNat_lt
    simp only [bytesV,List.map_cons,bytesX] at ih ⊢
    rw [if_pos ⟨by omega,by omega⟩,ih]
    simp
theorem bytesX_eq:∀ {xs:List Value} {l:List UInt8},bytesX xs = some l→xs = bytesV l
  | [],l,h=>by injection h with h; subst h; rfl
  | v :: r,l,h=>by
    unfold bytesX at h
    split at h
    · rename_i e; cases e
    · rename_i n r' e
      injection e with e1 e2
      subst e1 e2
      split at h
      · rename_i hn
        obtain ⟨l',h1,h2⟩:=Option.map_eq_some_iff.1 h
        subst h2
        have:=bytesX_eq h1
        simp only [bytesV,List.map_cons,List.cons.injEq] at this ⊢
        refine ⟨?_,this⟩
        have:((UInt8.ofNat n.toNat).toNat:Int) = n:=by
          rw [UInt8.toNat_ofNat_of_lt' (by show n.toNat < 256; omega)]
          omega
        rw [this]
      · cases h
    · cases h
def cpyX (T:Nat):List Value→AH→Option (Value × AH):=fun args h =>
  match args with
  | [.pointer (some ⟨b,0,none⟩)]=>match h.get b with
    | some (.tc t [p,v])=>if t = 2 * T + 1 then
        match p with
        | .pointer none=>some (.tuple #[],h.set b (.tc t [.pointer (some ⟨b,0,none⟩),v]))
        | .pointer (some ⟨b',0,none⟩)=>if b' = b then some (.tuple #[],h) else none
        | _=>none
      else none
    | _=>none
  | _=>none
def strX (T E:Nat):List Value→AH→Option (Value × AH):=fun args h =>
  match args with
  | [.pointer (some ⟨b,0,none⟩)]=>match h.get b with
    | some (.tc t [p,v])=>if t = 2 * T + 1 then
        match v with
        | .slice none 0 0=>some (.string ⟨#[]⟩,h)
        | .slice (some ⟨g,0,none⟩) n 1=>match h.get g with
          | some (.tc t' xs)=>match bytesX xs with
            | some l=>if t' = 2 * E∧n = l.length∧0 < n∧n≤140737488355328 then some (.string ⟨l.toArray⟩,h.kill g) else none
            | none=>none
          | _=>none
        | _=>none
      else none
    | _=>none
  | _=>none
theorem odd1 (t:Nat):(2 * t + 1) % 2 = 1:=by omega
theorem half2 (t:Nat):2 * t / 2 = t:=by omega
variable {P:Program} {B:Nat} {ρ:Rho} {h:AH} {w:World}
theorem cell_at {c j:Nat} {cs:Array Value} {T:TypeId} {fz:Nat × Nat} (hb:w.heap[c]? = some (.cells cs T fz)):w.cell? ⟨c,j,none⟩ = cs[j]?:=by
  simp [World.cell?,hb]
theorem HRel.use (hh:HRel P B ρ h w) {g c δ N:Nat} {o:AObj} (hg:h.get g = some o) (ho:o.ro = false) (hr:ρ[g]? = some (c, δ,N)) {w':World} (e:∀ c',c'≠c→w'.heap[c']? = w.heap[c']?):HRel P B ρ (h.kill g) w' where
  len:=hh.len
  live:=fun b o1 h1=>by
    have hne:b≠g:=fun hh=>by subst hh; rw [AH.get_kill_same] at h1; cases h1
    rw [AH.get_kill_ne hne] at h1
    obtain ⟨c1, δ1,N1,x,k1,k2,k3⟩:=hh.live b o1 h1
    exact ⟨c1, δ1,N1,x,k1,by rw [e c1 (fun hc=>hh.inj g b o o1 c δ N c1 δ1 N1 hg h1 (Ne.symm hne) ho hr k1 hc.symm)]; exact k2,k3⟩
  glob:=hh.glob
  inj:=fun b b' o1 o2 c1 δ1 N1 c2 δ2 N2 h1 h2 hne=>by
    have n1:b≠g:=fun hh=>by subst hh; rw [AH.get_kill_same] at h1; cases h1
    have n2:b'≠g:=fun hh=>by subst hh; rw [AH.get_kill_same] at h2; cases h2
    rw [AH.get_kill_ne n1] at h1
    rw [AH.get_kill_ne n2] at h2
    exact hh.inj b b' o1 o2 c1 δ1 N1 c2 δ2 N2 h1 h2 hne
theorem Trans.use {g c δ N:Nat} {o:AObj} (hg:h.get g = some o) (ho:o.ro = false) (hr:ρ[g]? = some (c, δ,N)) {w':World} (e:∀ c',c'≠c→w'.heap[c']? = w.heap[c']?) (hs:w'.heap.size = w.heap.size) (so:SameOut w w') :
    Trans ⟨ρ,h,w⟩ ρ (h.kill g) w' where
  ext:=.refl ρ
  size:=Nat.le_of_eq hs.symm
  os:=so.os
  tape:=so.tape
  output:=so.output
  drawn:=so.drawn
  keep:=fun c' _ hm=>e c' fun hc=>hm (by rw [hc]; exact ⟨g,o, δ,N,hg,ho,hr⟩)
  img:=fun c' _ hm=>hm.kill
theorem tc_block (hh:HRel P B ρ h w) {b t:Nat} {xs:List Value} (hb:h.get b = some (.tc t xs)):∃ c N cs fz, ρ[b]? = some (c,0,N)∧w.heap[c]? = some (.cells cs (t / 2) fz)∧cs.size = N∧xs.length≤N∧(t % 2 = 1→xs.length = N) ∧
    (∀ i,i < N + frzX → ¬ (fz.1≤i∧i < fz.2))∧CellRel ρ cs 0 xs:=by
  obtain ⟨c, δ,N,x,h1,h2,h3,_⟩:=hh.live b _ hb
  obtain ⟨cs,T,fz,rfl,k0,k1,k2,k3,k4⟩:=(ORel.mk (ty:=some t)).1 h3
  obtain ⟨rfl,rfl,k5⟩:=k0 _ rfl
  exact ⟨c,N,cs,fz,h1,h2,k1,by omega,k5,k3,k4⟩
theorem ptr_arg {args:Array Value} {b c N:Nat} (ha:VRels ρ [.pointer (some ⟨b,0,none⟩)] args.toList) (hr:ρ[b]? = some (c,0,N)):args = #[.pointer (some ⟨c,0,none⟩)]:=by
  obtain ⟨L⟩:=args
  change VRels ρ _ L at ha
  cases ha with
  | cons h1 h2 =>
    cases h2
    cases h1 with
    | ptr b o c' δ N' h =>
      rw [hr] at h
      injection h with h
      injection h with e1 h
      injection h with e2 e3
      subst e1 e2
      rfl
theorem cpyX_ok {ρn:Ren} (L:Lays.n240 P ρn) (X:Builder.X72 P ρn) (hf:FnOk P (ρn.f 240)) (B:Nat):∀ args h v h',cpyX (ρn.t 72) args h = some (v,h')→FnOk P (ρn.f 240) ∧
    ∀ ρ w argsC n,B≤w.heap.size→HRel P B ρ h w→VRels ρ args argsC.toList→CallsIn Fence.wide n P (ρn.f 240) argsC w (CallPost P B ρ h w v h'):=by
  intro args h v h' hx
  refine ⟨hf,fun ρ w argsC n hB hh ha=>?_⟩
  unfold cpyX at hx
  split at hx
  · rename_i b
    split at hx
    · rename_i t p v0 hb
      split at hx
      · rename_i ht
        subst ht
        obtain ⟨c,N,cs,fz,hr,hc,hsz,hle,hex,hfz,hrel⟩:=tc_block hh hb
        have hN:N = 2:=(hex (odd1 _)).symm
        subst hN
        have hT:(2 * ρn.t 72 + 1) / 2 = ρn.t 72:=(half1 _).symm
        rw [hT] at hc
        obtain rfl:=ptr_arg ha hr
        obtain ⟨_,u,hu,hpu⟩:=hrel 0 p rfl
        refine (callsIn_wide (n:=n)).2 ?_
        split at hx
        · injection hx with hx
          injection hx with e1 e2
          subst e1 e2
          cases hpu
          have hcon:=Any.Builder_copyCheck_fresh L X c w (by rw [cell_at hc]; simpa using hu) (by simp [World.shape?,hc,hsz]) (by
            have:=hfz 0 (by omega)
            simp only [World.frozen?,hc]
            simpa using this)
          refine hcon.mono fun e w' he=>?_
          obtain ⟨rfl,rfl⟩:=he
          have s:=start_sound (P:=P) (nt:=0) hB hh (fr:=[]) (a:={ tmps := #[],defers:=[] }) (fun s=>.undef _) rfl (Nat.zero_le _)
          obtain ⟨w',k1,k2⟩:=s.wr (p:=⟨b,0,none⟩) (p':=⟨c,0,none⟩) (.inl (by simpa using VRel.ptr b 0 c 0 2 hr)) (vs:=[.pointer (some ⟨b,0,none⟩)]) (us:=[.pointer (some ⟨c,0,none⟩)])
            (.cons (by simpa using VRel.ptr b 0 c 0 2 hr) .nil) rfl (fun u hu=>by simp at hu; subst hu; rfl) (m':=⟨[],h.set b (.tc (2 * ρn.t 72 + 1) [.pointer (some ⟨b,0,none⟩),v0])⟩) (by
              rw [wr_heap,hb]; rfl)
          have hst:=run_storeCells P c 0 (ρn.t 72) fz [.pointer (some ⟨c,0,none⟩)] 0 cs w hc (by simp; omega) (fun j hj=>hfz j (by omega)) (fun u hu=>by simp at hu; subst hu; rfl)
          rw [hst] at k1
          injection k1 with _ k1
          have hw:w.setCell ⟨c,0,none⟩ (.pointer (some ⟨c,0,none⟩)) = w':=by
            rw [← k1,setCell_blk hc]
            simp only [setAll,Nat.zero_add]
            congr 2
            rw [← Array.toList_inj]
            simp
          rw [hw]
          exact ⟨_, ρ,rfl,k2.heap,k2.tr,.undef _⟩
        · rename_i b'
          split at hx
          · rename_i hbb
            subst hbb
            injection hx with hx
            injection hx with e1 e2
            subst e1 e2
            have hu2:u = .pointer (some ⟨c,0,none⟩):=by
              cases hpu with
              | ptr b o c' δ N' h =>
                rw [hr] at h
                injection h with h
                injection h with e1 h
                injection h with e2 e3
                subst e1 e2
                rfl
            subst hu2
            have hcon:=Any.Builder_copyCheck_used L X c w (by rw [cell_at hc]; simpa using hu)
            refine hcon.mono fun e w' he=>?_
            obtain ⟨rfl,rfl⟩:=he
            exact ⟨_, ρ,rfl,hh,Trans.refl ρ h _,.undef _⟩
          · cases hx
        · cases hx
      · cases hx
    · cases hx
  · cases hx
theorem VRel.slC {n e o b c N:Nat} {u:Value} (h:VRel ρ (.slice (some ⟨b,o,none⟩) n e) u) (hn:0 < n) (hr:ρ[b]? = some (c,0,N)):∃ k,u = .slice (some ⟨c,o,none⟩) n k∧n≤k:=by
  cases h with
  | sl b o c' δ N' n e k h h1 h2 =>
    rw [hr] at h
    injection h with h
    injection h with e1 h
    injection h with e2 e3
    subst e1 e2
    exact ⟨k,by simp,h1⟩
  | slZ=>omega
theorem strX_ok {ρn : Ren} (L:Lays.n169 P ρn) (X:Builder.Extra P ρn) (hf:FnOk P (ρn.f 169)) (B:Nat):∀ args h v h',strX (ρn.t 72) (ρn.t 5) args h = some (v,h')→FnOk P (ρn.f 169) ∧
    ∀ ρ w argsC n,B≤w.heap.size→HRel P B ρ h w→VRels ρ args argsC.toList→CallsIn Fence.wide n P (ρn.f 169) argsC w (CallPost P B ρ h w v h'):=by
  intro args h v h' hx
  refine ⟨hf,fun ρ w argsC n hB hh ha=>?_⟩
  unfold strX at hx
  split at hx
  · rename_i b
    split at hx
    · rename_i t p v0 hb
      split at hx
      · rename_i ht
        subst ht
        obtain ⟨c,N,cs,fz,hr,hc,hsz,hle,hex,hfz,hrel⟩:=tc_block hh hb
        obtain rfl:=ptr_arg ha hr
        obtain ⟨_,u,hu,hpu⟩:=hrel 1 v0 rfl
        refine (callsIn_wide (n:=n)).2 ?_
        split at hx
        · injection hx with hx
          injection hx with e1 e2
          subst e1 e2
          have hu2:u = .slice none 0 0:=by cases hpu; rfl
          subst hu2
          refine (bld_string_nil L X (by rw [cell_at hc]; simpa using hu)).mono fun e w' he=>?_
          obtain ⟨rfl,rfl⟩:=he
          have so:SameOut w w.drew:=⟨rfl,rfl,rfl,by first | exact Nat.le_refl _ | exact Nat.le_add_right _ _⟩
          exact ⟨_, ρ,rfl,hh.world rfl,(Trans.refl ρ h w).world rfl so,.string _⟩
        · rename_i g n0
          split at hx
          · rename_i t' xs hg
            split at hx
            · rename_i l hl
              split at hx
              · rename_i hc0
                obtain ⟨rfl,rfl,hpos,hmax⟩:=hc0
                injection hx with hx
                injection hx with e1 e2
                subst e1 e2
                obtain ⟨c2,N2,cs2,fz2,hr2,hc2,hsz2,hle2,_,hfz2,hrel2⟩:=tc_block hh hg
                have hT:2 * ρn.t 5 / 2 = ρn.t 5:=half2 _
                rw [hT] at hc2
                obtain ⟨k,rfl,hk⟩:=hpu.slC hpos hr2
                have hxs:=bytesX_eq hl
                subst hxs
                have hlen:(bytesV l).length = l.length:=by simp [bytesV]
                rw [hlen] at hle2
                have h0:l≠[]:=fun e=>by subst e; simp at hpos
                refine (bld_string L X (N:=N2) h0 (by rw [cell_at hc]; simpa using hu) hk (by simp [World.shape?,hc2,hsz2]) hle2 hmax (fun j x hj=>?_)).mono fun e w' he=>?_
                · rw [cell_at hc2]
                  obtain ⟨_,u,k1,k2⟩:=hrel2 j (.int .u8 (x.toNat:Int)) (by simp only [bytesV,List.getElem?_map,hj,Option.map_some])
                  cases k2
                  simpa using k1
                · obtain ⟨rfl,rfl⟩:=he
                  have hl0:l.length≠0:=by omega
                  have e:∀ c',c'≠c2→(w.drew.freeze ⟨c2,0,none⟩ l.length).heap[c']? = w.heap[c']?:=fun c' hne=>by
                    unfold World.freeze
                    rw [if_neg hl0]
                    simp only [Array.getElem?_modify]
                    rw [if_neg (Ne.symm hne)]
                    rfl
                  have hs:(w.drew.freeze ⟨c2,0,none⟩ l.length).heap.size = w.heap.size:=by
                    unfold World.freeze
                    rw [if_neg hl0]
                    simp only [Array.size_modify]
                    rfl
                  have so:SameOut w (w.drew.freeze ⟨c2,0,none⟩ l.length):=by
                    unfold World.freeze
                    rw [if_neg hl0]
                    exact ⟨rfl,rfl,rfl,by first | exact Nat.le_refl _ | exact Nat.le_add_right _ _⟩
                  exact ⟨_, ρ,rfl,hh.use hg rfl hr2 e,Trans.use hg rfl hr2 e hs so,.string _⟩
              · cases hx
            · cases hx
          · cases hx
        · cases hx
      · cases hx
    · cases hx
  · cases hx
end Go.Proofs.YtakmapoompffgaaGreatDoor.AM
namespace Go.Proofs.YtakmapoompffgaaGreatDoor.AM
open Go Go.Shelf Go.RowKit Go.Lib
def bldRen:Ren where
  f := fun n=>match n with
    | 240=>81 | 276=>127 | 169=>45 | _=>0
  t := fun n=>match n with
    | 0=>0 | 3=>3 | 4=>4 | 5=>5 | 9=>9 | 20=>20 | 37=>84 | 70=>83 | 72=>86 | 127=>148 | 164=>187 | _=>0
  g:=fun n=>n
theorem bldL240:Lays.n240 Tryz.prog bldRen where
  mixed:=by kernel_rfl
  f240:=Tryz.func81.trans (by kernel_rfl)
  f276:=Tryz.func127.trans (by kernel_rfl)
  t0:=Tryz.underlying0
  a0:=fun w=>by kernel_rfl
  z0:=fun w=>by kernel_rfl
  v0:=fun w=>by kernel_rfl
  t4:=Tryz.underlying4
  a4:=fun w=>by kernel_rfl
  z4:=fun w=>by kernel_rfl
  v4:=fun w=>by kernel_rfl
  t9:=Tryz.underlying9
  a9:=fun w=>by kernel_rfl
  z9:=fun w=>by kernel_rfl
  v9:=fun w=>by kernel_rfl
  t20:=Tryz.underlying20
  a20:=fun w=>by kernel_rfl
  z20:=fun w=>by kernel_rfl
  v20:=fun w=>by kernel_rfl
  t70:=Tryz.underlying83
  a70:=fun w=>by kernel_rfl
  z70:=fun w=>by kernel_rfl
  v70:=fun w=>by kernel_rfl
  t72:=Tryz.underlying86
  a72:=fun w=>by kernel_rfl
  z72:=fun w=>by kernel_rfl
  v72:=fun w=>by kernel_rfl
  t164:=Tryz.underlying187
  a164:=fun w=>by kernel_rfl
  z164:=fun w=>by kernel_rfl
  v164:=fun w=>by kernel_rfl
theorem bldL169:Lays.n169 Tryz.prog bldRen where
  mixed:=by kernel_rfl
  f169:=Tryz.func45.trans (by kernel_rfl)
  t0:=Tryz.underlying0
  a0:=fun w=>by kernel_rfl
  z0:=fun w=>by kernel_rfl
  v0:=fun w=>by kernel_rfl
  t3:=Tryz.underlying3
  a3:=fun w=>by kernel_rfl
  z3:=fun w=>by kernel_rfl
  v3:=fun w=>by kernel_rfl
  t9:=Tryz.underlying9
  a9:=fun w=>by kernel_rfl
  z9:=fun w=>by kernel_rfl
  v9:=fun w=>by kernel_rfl
  t37:=Tryz.underlying84
  a37:=fun w=>by kernel_rfl
  z37:=fun w=>by kernel_rfl
  v37:=fun w=>by kernel_rfl
  t70:=Tryz.underlying83
  a70:=fun w=>by kernel_rfl
  z70:=fun w=>by kernel_rfl
  v70:=fun w=>by kernel_rfl
  t72:=Tryz.underlying86
  a72:=fun w=>by kernel_rfl
  z72:=fun w=>by kernel_rfl
  v72:=fun w=>by kernel_rfl
  t127:=Tryz.underlying148
  a127:=fun w=>by kernel_rfl
  z127:=fun w=>by kernel_rfl
  v127:=fun w=>by kernel_rfl
theorem bldX:Builder.Extra Tryz.prog bldRen where
  sizeBuilder:=by kernel_rfl
  liesBuilder:=by kernel_rfl
  t5:=Tryz.underlying5
  a5:=fun w=>by kernel_rfl
  z5:=fun w=>by kernel_rfl
  v5:=fun w=>by kernel_rfl
  infoByte:=by kernel_rfl
  cellsByte:=by kernel_rfl
  sizeByte:=by kernel_rfl
  neB5:=by decide
def extB:FuncId→Option (List Value→AH→Option (Value × AH)):=fun f =>
  if f = 81 then some (cpyX 86) else if f = 45 then some (strX 86 5) else none
def withExt (q:Prg) (e:FuncId→Option (List Value→AH→Option (Value × AH))):Prg:=⟨q.fn,e⟩
theorem withExt_fn (q:Prg) (e:FuncId→Option (List Value→AH→Option (Value × AH))) (f:FuncId):(withExt q e).fn f = q.fn f:=rfl
theorem withExt_ext (q:Prg) (e:FuncId→Option (List Value→AH→Option (Value × AH))) (f:FuncId):(withExt q e).ext f = e f:=rfl
noncomputable def PX:Prg:=withExt (autoPrg Tryz.prog) extB
theorem px_fn {f:FuncId} {lf:LFunc} (hf:(autoPrg Tryz.prog).fn f = some lf):PX.fn f = some lf:=by
  unfold PX
  rw [withExt_fn]
  exact hf
theorem px_ext {f:FuncId} (hf:(extB f).isNone = true):PX.ext f = none:=by
  unfold PX
  rw [withExt_ext]
  exact Option.isNone_iff_eq_none.1 hf
theorem px_ok (B:Nat):PrgOk Tryz.prog B PX where
  fn:=fun f lf h=>by
    unfold PX at h
    rw [withExt_fn] at h
    exact (autoPrg_ok Tryz.prog B).fn f lf h
  ext := fun f g h=>by
    unfold PX at h
    rw [withExt_ext] at h
    unfold extB at h
    split at h
    · rename_i e
      subst e
      injection h with h
      subst h
      exact cpyX_ok bldL240 bldX.toX72 ⟨_,Tryz.func81,by decide,rfl⟩ B
    · split at h
      · rename_i e
        subst e
        injection h with h
        subst h
        exact strX_ok bldL169 bldX ⟨_,Tryz.func45,by decide,rfl⟩ B
      · cases h
end Go.Proofs.YtakmapoompffgaaGreatDoor.AM
