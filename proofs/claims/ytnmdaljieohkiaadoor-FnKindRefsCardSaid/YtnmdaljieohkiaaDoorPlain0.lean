/- Plain laws on texts, kinds, schemas and values; no program in sight. -/
namespace Wf
abbrev Bs := List UInt8
end Wf
