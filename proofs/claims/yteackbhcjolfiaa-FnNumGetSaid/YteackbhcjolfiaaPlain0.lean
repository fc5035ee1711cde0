namespace Wf
abbrev Bs := List UInt8
end Wf
